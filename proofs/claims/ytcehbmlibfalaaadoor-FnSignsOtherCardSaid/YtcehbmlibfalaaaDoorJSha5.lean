/-
  The walks of what stands on the digest: its first bytes, its digits, an index, hashes with a purpose, locks, secrets, the bits that are signed.
-/
import Derived.Test.YtcehbmlibfalaaaDoorJSha4
import Derived.Test.YtcehbmlibfalaaaDoorJHex1
import Derived.Test.YtcehbmlibfalaaaDoorJTags1
import Derived.Test.YtcehbmlibfalaaaDoorBase7
import Derived.Test.YtcehbmlibfalaaaDoorJBits
namespace Go.Proofs.YtcehbmlibfalaaaDoor
open Go.RowKit

theorem sCutDigest_any (s : ByteArray) (hs : s.size ≤ 1048576) (n : Int) (w : World) :
    Calls Tryd.prog 66 #[.string s, .int .i64 n] w fun e w' => e = .returned (.string (txt (cutL s.data.toList n))) ∧ Below w.heap.size w w' := by
  by_cases h : 1 ≤ n ∧ n ≤ 32
  · have C0 := fun wx => sDigest_any s (by omega) wx
    have hl := sha_length s.data.toList
    rw [cutL_in h]
    generalize sha s.data.toList = d at *
    have q := fun wx => cut_to (P := Tryd.prog) Tryd.underlying9 (txt d) n n.toNat (by omega) (by rw [txt_size, hl]; omega) wx
    have C := Lib.hid C0
    clear C0 hl
    go_enter Tryd.func66, Tryd.ntmps66
    go_wp2_with (first | (go_at_call 61; refine (l01In_yes n 1 32 h _).mono ?_; rintro e w' ⟨rfl, rfl⟩) | (go_at_call 78; refine (C.out _).mono ?_; rintro e w1 ⟨rfl, hb1⟩))
    go_ret
    exact ⟨rfl, hb1⟩
  · rw [cutL_out h]
    go_enter Tryd.func66, Tryd.ntmps66
    go_wp2_with (go_at_call 61; refine (l01In_no n 1 32 h _).mono ?_; rintro e w' ⟨rfl, rfl⟩)
    go_ret
    exact ⟨rfl, Below.refl _ _⟩

theorem isWide_yes (n : Int) (h : 1 ≤ n ∧ n ≤ 32) (w : World) : Calls Tryd.prog 76 #[.int .i64 n] w fun e w' => e = .returned (.bool true) ∧ w = w' := by
  go_enter Tryd.func76, Tryd.ntmps76
  go_wp2_with (go_at_call 59; refine (in_yes n 1 32 h _).mono ?_; rintro e w' ⟨rfl, rfl⟩)
  go_ret
  exact ⟨rfl, rfl⟩
theorem isWide_no (n : Int) (h : ¬ (1 ≤ n ∧ n ≤ 32)) (w : World) : Calls Tryd.prog 76 #[.int .i64 n] w fun e w' => e = .returned (.bool false) ∧ w = w' := by
  go_enter Tryd.func76, Tryd.ntmps76
  go_wp2_with (go_at_call 59; refine (in_no n 1 32 h _).mono ?_; rintro e w' ⟨rfl, rfl⟩)
  go_ret
  exact ⟨rfl, rfl⟩
theorem iCutDigest_any (s : ByteArray) (hs : s.size ≤ 1048576) (n : Int) (w : World) (hT : YtcehbmlibfalaaaDoorTabs w) :
    Calls Tryd.prog 65 #[.string s, .int .i64 n] w fun e w' => e = .returned (.string (txt (cutL s.data.toList n))) ∧ Below w.heap.size w w' := by
  by_cases h : 1 ≤ n ∧ n ≤ 32
  · have C0 := iDigest_any s (by omega) w hT
    have hl := sha_length s.data.toList
    rw [cutL_in h]
    generalize sha s.data.toList = d at *
    have q := fun wx => cut_to (P := Tryd.prog) Tryd.underlying9 (txt d) n n.toNat (by omega) (by rw [txt_size, hl]; omega) wx
    have C := Lib.hid C0
    clear C0 hl hT
    go_enter Tryd.func65, Tryd.ntmps65
    go_wp2_with (first | (go_at_call 76; refine (isWide_yes n h _).mono ?_; rintro e w' ⟨rfl, rfl⟩) | (go_at_call 77; refine C.out.mono ?_; rintro e w1 ⟨rfl, hb1⟩))
    go_ret
    exact ⟨rfl, hb1⟩
  · rw [cutL_out h]
    clear hT
    go_enter Tryd.func65, Tryd.ntmps65
    go_wp2_with (go_at_call 76; refine (isWide_no n h _).mono ?_; rintro e w' ⟨rfl, rfl⟩)
    go_ret
    exact ⟨rfl, Below.refl _ _⟩

theorem sTagHash_any (k : Int) (ao : Option Addr) (cap : Nat) (l : List ByteArray) (n : Int) (w : World) (hl : l.length ≤ 1048576) (hs : ∀ x ∈ l, x.size ≤ 1048576) (h : RdS w ao l) :
    Calls Tryd.prog 29 #[.int .i64 k, .slice ao l.length cap, .int .i64 n] w fun e w' => e = .returned (.string (txt (hashT k l n))) ∧ Below w.heap.size w w' := by
  have C0 := sTagText_any k ao cap l w hl hs h
  have hlen := fun t (ht : tagL k l = some t) => tagL_len ht
  unfold hashT
  clear hl hs h
  generalize tagL k l = o at *
  rcases o with _ | t
  · simp only [optTxt] at C0
    have C := Lib.hid C0
    clear C0 hlen
    go_enter Tryd.func29, Tryd.ntmps29
    go_wp2_with (go_at_call 25; refine C.out.mono ?_; rintro e w1 ⟨rfl, hb1⟩)
    go_ret
    exact ⟨rfl, hb1⟩
  · have D0 := fun wx => sCutDigest_any (txt t) (by rw [txt_size]; have := hlen t rfl; omega) n wx
    rw [txt_data] at D0
    simp only [optTxt] at C0
    have C := Lib.hid C0
    have D := Lib.hid D0
    clear C0 D0 hlen
    go_enter Tryd.func29, Tryd.ntmps29
    go_wp2_with (first | (go_at_call 25; refine C.out.mono ?_; rintro e w1 ⟨rfl, hb1⟩) | (go_at_call 66; refine (D.out _).mono ?_; rintro e w2 ⟨rfl, hb2⟩))
    go_ret
    exact ⟨rfl, hb1.trans (hb2.mono hb1.size)⟩

theorem iTagHash_any (k : Int) (ao : Option Addr) (cap : Nat) (l : List ByteArray) (n : Int) (w : World) (hl : l.length ≤ 1048576) (hs : ∀ x ∈ l, x.size ≤ 1048576) (h : RdS w ao l) (hT : YtcehbmlibfalaaaDoorTabs w) :
    Calls Tryd.prog 28 #[.int .i64 k, .slice ao l.length cap, .int .i64 n] w fun e w' => e = .returned (.string (txt (hashT k l n))) ∧ Below w.heap.size w w' := by
  have C0 := iTagText_any k ao cap l w hl hs h
  have hlen := fun t (ht : tagL k l = some t) => tagL_len ht
  unfold hashT
  clear hl hs h
  generalize tagL k l = o at *
  rcases o with _ | t
  · simp only [optTxt] at C0
    have C := Lib.hid C0
    clear C0 hlen hT
    go_enter Tryd.func28, Tryd.ntmps28
    go_wp2_with (go_at_call 24; refine C.out.mono ?_; rintro e w1 ⟨rfl, hb1⟩)
    go_ret
    exact ⟨rfl, hb1⟩
  · have D0 := fun wx hx => iCutDigest_any (txt t) (by rw [txt_size]; have := hlen t rfl; omega) n wx hx
    rw [txt_data] at D0
    simp only [optTxt] at C0
    have C := Lib.hid C0
    have D := Lib.hid D0
    have HT := Lib.hid hT
    clear C0 D0 hlen hT
    go_enter Tryd.func28, Tryd.ntmps28
    go_wp2_with (first | (go_at_call 24; refine C.out.mono ?_; rintro e w1 ⟨rfl, hb1⟩) | (go_at_call 65; refine (D.out _ (HT.out.below hb1 (Nat.le_refl _))).mono ?_; rintro e w2 ⟨rfl, hb2⟩))
    go_ret
    exact ⟨rfl, hb1.trans (hb2.mono hb1.size)⟩

theorem hashOf_any (k : Int) (ao : Option Addr) (cap : Nat) (l : List ByteArray) (n : Int) (w : World) (hl : l.length ≤ 1048576) (hs : ∀ x ∈ l, x.size ≤ 1048576) (h : RdS w ao l) (hT : YtcehbmlibfalaaaDoorTabs w) :
    Calls Tryd.prog 74 #[.int .i64 k, .int .i64 n, .slice ao l.length cap] w fun e w' => e = .returned (.string (txt (hashT k l n))) ∧ Below w.heap.size w w' := by
  have C := Lib.hid (iTagHash_any k ao cap l n w hl hs h hT)
  clear hl hs h hT
  go_enter Tryd.func74, Tryd.ntmps74
  go_wp2_with (go_at_call 28; refine C.out.mono ?_; rintro e w1 ⟨rfl, hb1⟩)
  go_ret
  exact ⟨rfl, hb1⟩

end Go.Proofs.YtcehbmlibfalaaaDoor
