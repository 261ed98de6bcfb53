/-
  The walks of what a law does with signatures: their size, their copy, the test for sameness, the marks.
-/
import Derived.Test.YtcehbmlibfalaaaDoorJStrs1
import Derived.Test.YtcehbmlibfalaaaDoorJInts2
import Derived.Test.YtcehbmlibfalaaaDoorBase7
namespace Go.Proofs.YtcehbmlibfalaaaDoor
open Go.RowKit

def szSigV (o s d : List ByteArray) (left : Int) : Int := if (totS o : Int) + totS s + totS d ≤ left then left - totS o - totS s - totS d else -1
theorem szSigV_yes {o s d : List ByteArray} {left : Int} (h : (totS o : Int) + totS s + totS d ≤ left) : szSigV o s d left = left - totS o - totS s - totS d := if_pos h
theorem szSigV_no {o s d : List ByteArray} {left : Int} (h : ¬ (totS o : Int) + totS s + totS d ≤ left) : szSigV o s d left = -1 := if_neg h
set_option maxHeartbeats 1000000 in
theorem szSig_any (p : Int) (a1 a2 a3 : Option Addr) (c1 c2 c3 : Nat) (o s d : List ByteArray) (left : Int) (w : World) (ho : o.length ≤ 9223372036854775807) (hs : s.length ≤ 9223372036854775807) (hd : d.length ≤ 9223372036854775807)
    (ho' : ∀ x ∈ o, x.size ≤ 9223372036854775807) (hs' : ∀ x ∈ s, x.size ≤ 9223372036854775807) (hd' : ∀ x ∈ d, x.size ≤ 9223372036854775807) (h0 : 0 ≤ left) (h1 : left ≤ 1048576)
    (r1 : RdS w a1 o) (r2 : RdS w a2 s) (r3 : RdS w a3 d) :
    Calls Tryd.prog 30 #[.agg #[.int .i64 p, .slice a1 o.length c1, .slice a2 s.length c2, .slice a3 d.length c3], .int .i64 left] w fun e w' => e = .returned (.int .i64 (szSigV o s d left)) ∧ Below w.heap.size w w' := by
  have hB := (Below.refl w.heap.size w).alloc (Nat.le_refl _) (.cells #[.int .i64 p, .slice a1 o.length c1, .slice a2 s.length c2, .slice a3 d.length c3] 43)
  have C1 := Lib.hid (szStringS_any a1 c1 o left _ ho ho' h0 h1 (r1.below hB (Nat.le_refl _)))
  have C2 := Lib.hid (fun l h0 h1 => szStringS_any a2 c2 s l _ hs hs' h0 h1 (r2.below hB (Nat.le_refl _)))
  have C3 := Lib.hid (fun l h0 h1 => szStringS_any a3 c3 d l _ hd hd' h0 h1 (r3.below hB (Nat.le_refl _)))
  have HB := Lib.hid hB
  clear hB r1 r2 r3 ho hs hd ho' hs' hd'
  by_cases t1 : (totS o : Int) ≤ left
  · rw [szV_yes t1] at C1
    by_cases t2 : (totS s : Int) ≤ left - totS o
    · have D2 := Lib.hid (C2.out (left - totS o) (by omega) (by omega))
      rw [szV_yes t2] at D2
      by_cases t3 : (totS d : Int) ≤ left - totS o - totS s
      · have D3 := Lib.hid (C3.out (left - totS o - totS s) (by omega) (by omega))
        rw [szV_yes t3] at D3
        rw [szSigV_yes (by omega)]
        have n1 : ¬ (left - (totS o : Int) < 0) := by omega
        have n2 : ¬ (left - (totS o : Int) - totS s < 0) := by omega
        have n3 : ¬ (left - (totS o : Int) - totS s - totS d < 0) := by omega
        clear C2 C3 t1 t2 t3
        generalize left - (totS o : Int) = x1 at *
        generalize x1 - (totS s : Int) = x2 at *
        generalize x2 - (totS d : Int) = x3 at *
        go_enter Tryd.func30, Tryd.ntmps30
        go_wp2_with fail
        refine C1.out.mono ?_
        rintro e w' ⟨rfl, rfl⟩
        go_wp2_with fail
        refine D2.out.mono ?_
        rintro e w' ⟨rfl, rfl⟩
        go_wp2_with fail
        refine D3.out.mono ?_
        rintro e w' ⟨rfl, rfl⟩
        go_wp2_with fail
        go_ret
        exact ⟨rfl, HB.out⟩
      · have D3 := Lib.hid (C3.out (left - totS o - totS s) (by omega) (by omega))
        rw [szV_no t3] at D3
        rw [szSigV_no (by omega)]
        have n1 : ¬ (left - (totS o : Int) < 0) := by omega
        have n2 : ¬ (left - (totS o : Int) - totS s < 0) := by omega
        clear C2 C3 t1 t2 t3
        generalize left - (totS o : Int) = x1 at *
        generalize x1 - (totS s : Int) = x2 at *
        go_enter Tryd.func30, Tryd.ntmps30
        go_wp2_with fail
        refine C1.out.mono ?_
        rintro e w' ⟨rfl, rfl⟩
        go_wp2_with fail
        refine D2.out.mono ?_
        rintro e w' ⟨rfl, rfl⟩
        go_wp2_with fail
        refine D3.out.mono ?_
        rintro e w' ⟨rfl, rfl⟩
        go_wp2_with fail
        go_ret
        exact ⟨rfl, HB.out⟩
    · have D2 := Lib.hid (C2.out (left - totS o) (by omega) (by omega))
      rw [szV_no t2] at D2
      rw [szSigV_no (by omega)]
      have n1 : ¬ (left - (totS o : Int) < 0) := by omega
      clear C2 C3 t1 t2
      generalize left - (totS o : Int) = x1 at *
      go_enter Tryd.func30, Tryd.ntmps30
      go_wp2_with fail
      refine C1.out.mono ?_
      rintro e w' ⟨rfl, rfl⟩
      go_wp2_with fail
      refine D2.out.mono ?_
      rintro e w' ⟨rfl, rfl⟩
      go_wp2_with fail
      go_ret
      exact ⟨rfl, HB.out⟩
  · rw [szV_no t1] at C1
    rw [szSigV_no (by omega)]
    clear C2 C3 t1
    go_enter Tryd.func30, Tryd.ntmps30
    go_wp2_with fail
    refine C1.out.mono ?_
    rintro e w' ⟨rfl, rfl⟩
    go_wp2_with fail
    go_ret
    exact ⟨rfl, HB.out⟩

set_option maxHeartbeats 1000000 in
theorem eqSig_any (v1 v2 : Value) (p : Int) (o s d : List ByteArray) (w : World) (ho : o.length ≤ 1048576) (hs : s.length ≤ 1048576) (hd : d.length ≤ 1048576) (h1 : RdSig w v1 p o s d) (h2 : RdSig w v2 p o s d) :
    Calls Tryd.prog 34 #[v1, v2] w fun e w' => e = .returned (.bool true) ∧ Below w.heap.size w w' := by
  obtain ⟨a1, c1, a2, c2, a3, c3, rfl, r1, r2, r3⟩ := h1
  obtain ⟨b1, k1, b2, k2, b3, k3, rfl, q1, q2, q3⟩ := h2
  have R1 := Lib.hid r1
  have R2 := Lib.hid r2
  have R3 := Lib.hid r3
  have Q1 := Lib.hid q1
  have Q2 := Lib.hid q2
  have Q3 := Lib.hid q3
  clear r1 r2 r3 q1 q2 q3
  have hB := ((Below.refl w.heap.size w).alloc (Nat.le_refl _) (.cells #[.int .i64 p, .slice a1 o.length c1, .slice a2 s.length c2, .slice a3 d.length c3] 46)).alloc (by rw [alloc_size]; omega) (.cells #[.int .i64 p, .slice b1 o.length k1, .slice b2 s.length k2, .slice b3 d.length k3] 46)
  have HB := Lib.hid hB
  have cA : ∀ W, Below (w.heap.size + 2) ((w.alloc (.cells #[.int .i64 p, .slice a1 o.length c1, .slice a2 s.length c2, .slice a3 d.length c3] 46)).alloc (.cells #[.int .i64 p, .slice b1 o.length k1, .slice b2 s.length k2, .slice b3 d.length k3] 46)) W →
      (W.cell? ⟨w.heap.size, 2, none⟩ = some (.slice a2 s.length c2) ∧ W.cell? ⟨w.heap.size, 3, none⟩ = some (.slice a3 d.length c3)) ∧ W.cell? ⟨w.heap.size + 1, 2, none⟩ = some (.slice b2 s.length k2) ∧ W.cell? ⟨w.heap.size + 1, 3, none⟩ = some (.slice b3 d.length k3) := by
    intro W hW
    refine ⟨⟨?_, ?_⟩, ?_, ?_⟩ <;> refine (hW.cell (by simp)).trans ?_ <;> simp
  have CA := Lib.hid cA
  have hsz : Hid (∀ c1 c2 : Obj, ((w.alloc c1).alloc c2).heap.size = w.heap.size + 2) := Lib.hid (fun _ _ => by simp)
  clear hB cA
  go_enter Tryd.func34, Tryd.ntmps34
  go_wp2_with fail
  refine (eqStringS_any a1 b1 c1 k1 o o _ (by omega) (by omega) (R1.out.below HB.out (Nat.le_refl _)) (Q1.out.below HB.out (Nat.le_refl _))).mono ?_
  rintro e w1 ⟨rfl, hb1⟩
  rw [hsz.out] at hb1
  obtain ⟨⟨e1, e2⟩, e3, e4⟩ := CA.out _ hb1
  have HB1 := Lib.hid (HB.out.trans (hb1.mono (by omega)))
  have H1 := Lib.hid hb1
  clear hb1
  go_wp2_with fail
  refine (eqStringS_any a2 b2 c2 k2 s s _ (by omega) (by omega) (R2.out.below HB1.out (Nat.le_refl _)) (Q2.out.below HB1.out (Nat.le_refl _))).mono ?_
  rintro e w2 ⟨rfl, hb2⟩
  have H2 := Lib.hid (H1.out.trans (hb2.mono (by have := H1.out.size; rw [hsz.out] at this; exact this)))
  have HB2 := Lib.hid (HB1.out.trans (hb2.mono HB1.out.size))
  clear hb2 e1 e2 e3 e4
  obtain ⟨⟨e1, e2⟩, e3, e4⟩ := CA.out _ H2.out
  go_wp2_with fail
  refine (eqStringS_any a3 b3 c3 k3 d d _ (by omega) (by omega) (R3.out.below HB2.out (Nat.le_refl _)) (Q3.out.below HB2.out (Nat.le_refl _))).mono ?_
  rintro e w3 ⟨rfl, hb3⟩
  have HB3 := Lib.hid (HB2.out.trans (hb3.mono HB2.out.size))
  clear hb3
  go_wp2_with fail
  go_ret
  exact ⟨rfl, HB3.out⟩

end Go.Proofs.YtcehbmlibfalaaaDoor
