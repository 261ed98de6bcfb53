/-
  The walks of what stands on the digest: its first bytes, its digits, an index, hashes with a purpose, locks, secrets, the bits that are signed.
-/
import Derived.Test.YtbjbengbkdoinaaDoorSha4
import Derived.Test.YtbjbengbkdoinaaDoorHex1
import Derived.Test.YtbjbengbkdoinaaDoorTags1
import Derived.Test.YtbjbengbkdoinaaDoorPuTagH
import Derived.Test.YtbjbengbkdoinaaDoorBits
namespace Go.Proofs.YtbjbengbkdoinaaDoor
open Go.RowKit

theorem sCutDigest_any (s : ByteArray) (hs : s.size ≤ 1048576) (n : Int) (w : World) :
    Calls Tryd.prog 23 #[.string s, .int .i64 n] w fun e w' => e = .returned (.string (txt (cutL s.data.toList n))) ∧ Below w.heap.size w w' := by
  by_cases h : 1 ≤ n ∧ n ≤ 32
  · have C0 := fun wx => sDigest_any s (by omega) wx
    have hl := sha_length s.data.toList
    rw [cutL_in h]
    generalize sha s.data.toList = d at *
    have q := fun wx => cut_to (P := Tryd.prog) Tryd.underlying9 (txt d) n n.toNat (by omega) (by rw [txt_size, hl]; omega) wx
    have C := Lib.hid C0
    clear C0 hl
    go_enter Tryd.func23, Tryd.ntmps23
    go_wp2_with (first | (go_at_call 55; refine (l01In_yes n 1 32 h _).mono ?_; rintro e w' ⟨rfl, rfl⟩) | (go_at_call 21; refine (C.out _).mono ?_; rintro e w1 ⟨rfl, hb1⟩))
    go_ret
    exact ⟨rfl, hb1⟩
  · rw [cutL_out h]
    go_enter Tryd.func23, Tryd.ntmps23
    go_wp2_with (go_at_call 55; refine (l01In_no n 1 32 h _).mono ?_; rintro e w' ⟨rfl, rfl⟩)
    go_ret
    exact ⟨rfl, Below.refl _ _⟩

theorem isWide_yes (n : Int) (h : 1 ≤ n ∧ n ≤ 32) (w : World) : Calls Tryd.prog 63 #[.int .i64 n] w fun e w' => e = .returned (.bool true) ∧ w = w' := by
  go_enter Tryd.func63, Tryd.ntmps63
  go_wp2_with (go_at_call 58; refine (in_yes n 1 32 h _).mono ?_; rintro e w' ⟨rfl, rfl⟩)
  go_ret
  exact ⟨rfl, rfl⟩
theorem isWide_no (n : Int) (h : ¬ (1 ≤ n ∧ n ≤ 32)) (w : World) : Calls Tryd.prog 63 #[.int .i64 n] w fun e w' => e = .returned (.bool false) ∧ w = w' := by
  go_enter Tryd.func63, Tryd.ntmps63
  go_wp2_with (go_at_call 58; refine (in_no n 1 32 h _).mono ?_; rintro e w' ⟨rfl, rfl⟩)
  go_ret
  exact ⟨rfl, rfl⟩
theorem iCutDigest_any (s : ByteArray) (hs : s.size ≤ 1048576) (n : Int) (w : World) (hT : YtbjbengbkdoinaaDoorTabs w) :
    Calls Tryd.prog 24 #[.string s, .int .i64 n] w fun e w' => e = .returned (.string (txt (cutL s.data.toList n))) ∧ Below w.heap.size w w' := by
  by_cases h : 1 ≤ n ∧ n ≤ 32
  · have C0 := iDigest_any s (by omega) w hT
    have hl := sha_length s.data.toList
    rw [cutL_in h]
    generalize sha s.data.toList = d at *
    have q := fun wx => cut_to (P := Tryd.prog) Tryd.underlying9 (txt d) n n.toNat (by omega) (by rw [txt_size, hl]; omega) wx
    have C := Lib.hid C0
    clear C0 hl hT
    go_enter Tryd.func24, Tryd.ntmps24
    go_wp2_with (first | (go_at_call 63; refine (isWide_yes n h _).mono ?_; rintro e w' ⟨rfl, rfl⟩) | (go_at_call 22; refine C.out.mono ?_; rintro e w1 ⟨rfl, hb1⟩))
    go_ret
    exact ⟨rfl, hb1⟩
  · rw [cutL_out h]
    clear hT
    go_enter Tryd.func24, Tryd.ntmps24
    go_wp2_with (go_at_call 63; refine (isWide_no n h _).mono ?_; rintro e w' ⟨rfl, rfl⟩)
    go_ret
    exact ⟨rfl, Below.refl _ _⟩

theorem sDigestHex_any (s : ByteArray) (hs : s.size ≤ 1048576) (w : World) :
    Calls Tryd.prog 25 #[.string s] w fun e w' => e = .returned (.string (txt (hexL (sha s.data.toList)))) ∧ Below w.heap.size w w' := by
  have C0 := fun wx => sDigest_any s (by omega) wx
  have hl := sha_length s.data.toList
  generalize sha s.data.toList = d at *
  have D0 := fun wx => sHex_yes (txt d) (by rw [txt_size, hl]; decide) wx
  rw [txt_data] at D0
  have C := Lib.hid C0
  have D := Lib.hid D0
  clear C0 D0 hl
  go_enter Tryd.func25, Tryd.ntmps25
  go_wp2_with (first | (go_at_call 21; refine (C.out _).mono ?_; rintro e w1 ⟨rfl, hb1⟩) | (go_at_call 64; refine (D.out _).mono ?_; rintro e w2 ⟨rfl, hb2⟩))
  go_ret
  exact ⟨rfl, hb1.trans (hb2.mono hb1.size)⟩

theorem iDigestHex_any (s : ByteArray) (hs : s.size ≤ 1048576) (w : World) (hT : YtbjbengbkdoinaaDoorTabs w) :
    Calls Tryd.prog 26 #[.string s] w fun e w' => e = .returned (.string (txt (hexL (sha s.data.toList)))) ∧ Below w.heap.size w w' := by
  have C0 := iDigest_any s (by omega) w hT
  have hl := sha_length s.data.toList
  generalize sha s.data.toList = d at *
  have D0 := fun wx => hex_any (txt d) (by rw [txt_size, hl]; decide) wx
  rw [txt_data] at D0
  have C := Lib.hid C0
  have D := Lib.hid D0
  clear C0 D0 hl hT
  go_enter Tryd.func26, Tryd.ntmps26
  go_wp2_with (first | (go_at_call 22; refine C.out.mono ?_; rintro e w1 ⟨rfl, hb1⟩) | (go_at_call 65; refine (D.out _).mono ?_; rintro e w2 ⟨rfl, hb2⟩))
  go_ret
  exact ⟨rfl, hb1.trans (hb2.mono hb1.size)⟩

theorem sIndexOf_any (s : ByteArray) (hs : s.size ≤ 1048576) (w : World) :
    Calls Tryd.prog 27 #[.string s] w fun e w' => e = .returned (.int .i64 (byt (sha s.data.toList) 0 : Nat)) ∧ Below w.heap.size w w' := by
  have C0 := fun wx => sDigest_any s (by omega) wx
  have hl := sha_length s.data.toList
  generalize sha s.data.toList = d at *
  have q := fun wx => idx_byt (P := Tryd.prog) Tryd.underlying9 (txt d) 0 0 rfl (by rw [txt_size, hl]; decide) wx
  rw [txt_data] at q
  have hb := byt_lt d 0
  generalize byt d 0 = x at *
  have C := Lib.hid C0
  clear C0 hl
  go_enter Tryd.func27, Tryd.ntmps27
  go_wp2_with (go_at_call 21; refine (C.out _).mono ?_; rintro e w1 ⟨rfl, hb1⟩)
  go_ret
  exact ⟨rfl, hb1⟩

theorem iIndexOf_any (s : ByteArray) (hs : s.size ≤ 1048576) (w : World) (hT : YtbjbengbkdoinaaDoorTabs w) :
    Calls Tryd.prog 28 #[.string s] w fun e w' => e = .returned (.int .i64 (byt (sha s.data.toList) 0 : Nat)) ∧ Below w.heap.size w w' := by
  have C0 := iDigest_any s (by omega) w hT
  have hl := sha_length s.data.toList
  generalize sha s.data.toList = d at *
  have q := fun wx => idx_byt (P := Tryd.prog) Tryd.underlying9 (txt d) 0 0 rfl (by rw [txt_size, hl]; decide) wx
  rw [txt_data] at q
  have hb := byt_lt d 0
  generalize byt d 0 = x at *
  have C := Lib.hid C0
  clear C0 hl hT
  go_enter Tryd.func28, Tryd.ntmps28
  go_wp2_with (go_at_call 22; refine C.out.mono ?_; rintro e w1 ⟨rfl, hb1⟩)
  go_ret
  exact ⟨rfl, hb1⟩

theorem sTagHash_any (k : Int) (ao : Option Addr) (cap : Nat) (l : List ByteArray) (n : Int) (w : World) (hl : l.length ≤ 1048576) (hs : ∀ x ∈ l, x.size ≤ 1048576) (h : RdS w ao l) :
    Calls Tryd.prog 35 #[.int .i64 k, .slice ao l.length cap, .int .i64 n] w fun e w' => e = .returned (.string (txt (hashT k l n))) ∧ Below w.heap.size w w' := by
  have C0 := sTagText_any k ao cap l w hl hs h
  have hlen := fun t (ht : tagL k l = some t) => tagL_len ht
  unfold hashT
  clear hl hs h
  generalize tagL k l = o at *
  rcases o with _ | t
  · simp only [optTxt] at C0
    have C := Lib.hid C0
    clear C0 hlen
    go_enter Tryd.func35, Tryd.ntmps35
    go_wp2_with (go_at_call 70; refine C.out.mono ?_; rintro e w1 ⟨rfl, hb1⟩)
    go_ret
    exact ⟨rfl, hb1⟩
  · have D0 := fun wx => sCutDigest_any (txt t) (by rw [txt_size]; have := hlen t rfl; omega) n wx
    rw [txt_data] at D0
    simp only [optTxt] at C0
    have C := Lib.hid C0
    have D := Lib.hid D0
    clear C0 D0 hlen
    go_enter Tryd.func35, Tryd.ntmps35
    go_wp2_with (first | (go_at_call 70; refine C.out.mono ?_; rintro e w1 ⟨rfl, hb1⟩) | (go_at_call 23; refine (D.out _).mono ?_; rintro e w2 ⟨rfl, hb2⟩))
    go_ret
    exact ⟨rfl, hb1.trans (hb2.mono hb1.size)⟩

theorem iTagHash_any (k : Int) (ao : Option Addr) (cap : Nat) (l : List ByteArray) (n : Int) (w : World) (hl : l.length ≤ 1048576) (hs : ∀ x ∈ l, x.size ≤ 1048576) (h : RdS w ao l) (hT : YtbjbengbkdoinaaDoorTabs w) :
    Calls Tryd.prog 37 #[.int .i64 k, .slice ao l.length cap, .int .i64 n] w fun e w' => e = .returned (.string (txt (hashT k l n))) ∧ Below w.heap.size w w' := by
  have C0 := iTagText_any k ao cap l w hl hs h
  have hlen := fun t (ht : tagL k l = some t) => tagL_len ht
  unfold hashT
  clear hl hs h
  generalize tagL k l = o at *
  rcases o with _ | t
  · simp only [optTxt] at C0
    have C := Lib.hid C0
    clear C0 hlen hT
    go_enter Tryd.func37, Tryd.ntmps37
    go_wp2_with (go_at_call 71; refine C.out.mono ?_; rintro e w1 ⟨rfl, hb1⟩)
    go_ret
    exact ⟨rfl, hb1⟩
  · have D0 := fun wx hx => iCutDigest_any (txt t) (by rw [txt_size]; have := hlen t rfl; omega) n wx hx
    rw [txt_data] at D0
    simp only [optTxt] at C0
    have C := Lib.hid C0
    have D := Lib.hid D0
    have HT := Lib.hid hT
    clear C0 D0 hlen hT
    go_enter Tryd.func37, Tryd.ntmps37
    go_wp2_with (first | (go_at_call 71; refine C.out.mono ?_; rintro e w1 ⟨rfl, hb1⟩) | (go_at_call 24; refine (D.out _ (HT.out.below hb1 (Nat.le_refl _))).mono ?_; rintro e w2 ⟨rfl, hb2⟩))
    go_ret
    exact ⟨rfl, hb1.trans (hb2.mono hb1.size)⟩

theorem hashOf_any (k : Int) (ao : Option Addr) (cap : Nat) (l : List ByteArray) (n : Int) (w : World) (hl : l.length ≤ 1048576) (hs : ∀ x ∈ l, x.size ≤ 1048576) (h : RdS w ao l) (hT : YtbjbengbkdoinaaDoorTabs w) :
    Calls Tryd.prog 72 #[.int .i64 k, .int .i64 n, .slice ao l.length cap] w fun e w' => e = .returned (.string (txt (hashT k l n))) ∧ Below w.heap.size w w' := by
  have C := Lib.hid (iTagHash_any k ao cap l n w hl hs h hT)
  clear hl hs h hT
  go_enter Tryd.func72, Tryd.ntmps72
  go_wp2_with (go_at_call 37; refine C.out.mono ?_; rintro e w1 ⟨rfl, hb1⟩)
  go_ret
  exact ⟨rfl, hb1⟩

end Go.Proofs.YtbjbengbkdoinaaDoor
