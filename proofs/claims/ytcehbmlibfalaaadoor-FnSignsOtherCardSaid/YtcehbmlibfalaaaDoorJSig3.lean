/-
  The walks of a law's marks on a signature and of their reading.
-/
import Derived.Test.YtcehbmlibfalaaaDoorJSig2
namespace Go.Proofs.YtcehbmlibfalaaaDoor
open Go.RowKit

theorem OwnS.within {w w' : World} {B lo hi : Nat} {v : Value} {l : List ByteArray} (h : OwnS w B v l) (hw : Within lo hi w w') (hn : ∀ k, v.ownBlock = some k → ¬ (lo ≤ k ∧ k < hi)) : OwnS w' B v l := by
  rcases h with h | ⟨g, cap, rfl, hB, r⟩
  · exact .inl h
  · exact .inr ⟨g, cap, rfl, hB, r.keep hw.size (hw.block g r.lt (hn g rfl))⟩
theorem marks_len (K n : Nat) : (marks K n).length = n := marks_length K n

theorem apart_symm {a b : Option Nat} (h : b = none ∨ b ≠ a) : a = none ∨ a ≠ b := by
  rcases h with rfl | h
  · cases a with
    | none => exact .inl rfl
    | some x => exact .inr (by simp)
  · exact .inr (Ne.symm h)

set_option maxHeartbeats 1000000 in
theorem markSig_any (v : Value) (p : Int) (vo vs vd : Value) (o s d : List ByteArray) (B C : Nat) (K : Nat) (w : World) (hC : C ≤ w.heap.size) (ho : o.length ≤ 1048576) (hs : s.length ≤ 1048576) (hd : d.length ≤ 1048576) (h0 : 0 < K) (hK : K ≤ 1048576) (h : OwnSig w B C v p vo vs vd o s d) :
    Calls Tryd.prog 37 #[v, .int .i64 K] w fun e w' => e = .returned (.int .i64 ((K : Int) + o.length + s.length + d.length)) ∧
      OwnSig w' B C v p vo vs vd (marks K o.length) (marks (K + o.length) s.length) (marks (K + o.length + s.length) d.length) ∧ Within B C w w' := by
  obtain ⟨rfl, h1, h2, h3, hos, hod, hsd, l1, l2, l3⟩ := h
  have hB0 := (Below.refl w.heap.size w).alloc (Nat.le_refl _) (.cells #[.int .i64 p, vo, vs, vd] 46)
  have HW0 : Hid (Within B C w (w.alloc (.cells #[.int .i64 p, vo, vs, vd] 46))) := Lib.hid (Within.of_below hB0 (Nat.le_refl _))
  have g1 := h1.below hB0 (Nat.le_refl _)
  have g2 := h2.below hB0 (Nat.le_refl _)
  have g3 := h3.below hB0 (Nat.le_refl _)
  have hsz : (w.alloc (.cells #[.int .i64 p, vo, vs, vd] 46)).heap.size = w.heap.size + 1 := by simp
  have k0 : ∀ W, Within B C (w.alloc (.cells #[.int .i64 p, vo, vs, vd] 46)) W → W.cell? ⟨w.heap.size, 2, none⟩ = some vs ∧ W.cell? ⟨w.heap.size, 3, none⟩ = some vd := by
    intro W hW
    constructor <;> refine (World.cell?_of_block (hW.block _ (by rw [hsz]; simp) (by simp only; omega))).trans ?_ <;> simp
  have C1 := Lib.hid (markStringS_any vo o B K _ ho h0 (by omega) g1)
  have C2 : Hid (∀ W, OwnS W B vs s → _) := Lib.hid (fun W hW => markStringS_any vs s B (K + o.length) W hs (by omega) (by omega) hW)
  have C3 : Hid (∀ W, OwnS W B vd d → _) := Lib.hid (fun W hW => markStringS_any vd d B (K + o.length + s.length) W hd (by omega) (by omega) hW)
  simp only [Int.natCast_add] at C2 C3
  have K0 := Lib.hid k0
  have G2 := Lib.hid g2
  have G3 := Lib.hid g3
  have b1 := g1.block
  have b2 := g2.block
  have b3 := g3.block
  have X1 := Lib.hid b1
  have X2 := Lib.hid b2
  have X3 := Lib.hid b3
  have L1 := Lib.hid l1
  have L2 := Lib.hid l2
  have L3 := Lib.hid l3
  clear h1 h2 h3 hB0 g1 g2 g3 k0 b1 b2 b3
  generalize hN1 : o.length = N1 at *
  generalize hN2 : s.length = N2 at *
  generalize hN3 : d.length = N3 at *
  clear hN1 hN2 hN3
  go_enter Tryd.func37, Tryd.ntmps37
  go_wp2_with fail
  refine C1.out.mono ?_
  rintro e w1 ⟨rfl, m1, hg1⟩
  have W1 := Within.of_grown (lo := B) (hi := C) hg1 (fun k hk => ⟨(X1.out k hk).1, L1.out k hk⟩)
  have e2 : OwnS w1 B vs s := Own.kept G2.out hg1 hos
  have e3 : OwnS w1 B vd d := Own.kept G3.out hg1 hod
  have D2 := Lib.hid (C2.out _ e2)
  have E3 := Lib.hid e3
  have M1 := Lib.hid m1
  have HW1 := Lib.hid W1
  obtain ⟨c2, c3⟩ := K0.out _ W1
  clear e2 e3 m1 W1 hg1 C1 C2
  go_wp2_with fail
  refine D2.out.mono ?_
  rintro e w2 ⟨rfl, m2, hg2⟩
  have W2 := HW1.out.trans (Within.of_grown (lo := B) (hi := C) hg2 (fun k hk => ⟨(X2.out k hk).1, L2.out k hk⟩))
  have m1' : OwnS w2 B vo (marks K N1) := Own.kept M1.out hg2 (apart_symm hos)
  have e3 : OwnS w2 B vd d := Own.kept E3.out hg2 hsd
  have D3 := Lib.hid (C3.out _ e3)
  have M1' := Lib.hid m1'
  have M2 := Lib.hid m2
  have HW2 := Lib.hid W2
  obtain ⟨c4, c5⟩ := K0.out _ W2
  clear e3 m1' m2 W2 hg2 M1 D2 C3 c2 c3 HW1
  go_wp2_with fail
  refine D3.out.mono ?_
  rintro e w3 ⟨rfl, m3, hg3⟩
  have W3 := HW2.out.trans (Within.of_grown (lo := B) (hi := C) hg3 (fun k hk => ⟨(X3.out k hk).1, L3.out k hk⟩))
  have n1 : OwnS w3 B vo (marks K N1) := Own.kept M1'.out hg3 (apart_symm hod)
  have n2 : OwnS w3 B vs (marks (K + N1) N2) := Own.kept M2.out hg3 (apart_symm hsd)
  have HF := Lib.hid (OwnSig.mk (C := C) (p := p) (v := .agg #[.int .i64 p, vo, vs, vd]) rfl n1 n2 m3 hos hod hsd L1.out L2.out L3.out)
  have HW3 := Lib.hid (HW0.out.trans W3)
  clear n1 n2 m3 W3 hg3 c4 c5
  go_wp2_with fail
  go_ret
  exact ⟨rfl, HF.out, HW3.out⟩

set_option maxHeartbeats 1000000 in
theorem heldSig_any (v : Value) (p : Int) (N1 N2 N3 : Nat) (K : Nat) (w : World) (ho : N1 ≤ 1048576) (hs : N2 ≤ 1048576) (hd : N3 ≤ 1048576) (h0 : 0 < K) (hK : K ≤ 1048576) (h : RdSig w v p (marks K N1) (marks (K + N1) N2) (marks (K + N1 + N2) N3)) :
    Calls Tryd.prog 40 #[v, .int .i64 K] w fun e w' => e = .returned (.int .i64 ((K : Int) + N1 + N2 + N3)) ∧ Below w.heap.size w w' := by
  obtain ⟨a1, c1, a2, c2, a3, c3, rfl, r1, r2, r3⟩ := h
  rw [marks_len, marks_len, marks_len]
  have hB := (Below.refl w.heap.size w).alloc (Nat.le_refl _) (.cells #[.int .i64 p, .slice a1 N1 c1, .slice a2 N2 c2, .slice a3 N3 c3] 46)
  have hsz : (w.alloc (.cells #[.int .i64 p, .slice a1 N1 c1, .slice a2 N2 c2, .slice a3 N3 c3] 46)).heap.size = w.heap.size + 1 := by simp
  have k0 : ∀ W, Below (w.heap.size + 1) (w.alloc (.cells #[.int .i64 p, .slice a1 N1 c1, .slice a2 N2 c2, .slice a3 N3 c3] 46)) W → W.cell? ⟨w.heap.size, 2, none⟩ = some (.slice a2 N2 c2) ∧ W.cell? ⟨w.heap.size, 3, none⟩ = some (.slice a3 N3 c3) := by
    intro W hW
    constructor <;> refine (hW.cell (by simp)).trans ?_ <;> simp
  have K0 := Lib.hid k0
  have HB := Lib.hid hB
  have HZ := Lib.hid hsz
  have C1 := Lib.hid (heldStringS_any a1 c1 N1 K _ ho h0 (by omega) (r1.below hB (Nat.le_refl _)))
  have C2 : Hid (∀ W, RdS W a2 (marks (K + N1) N2) → _) := Lib.hid (fun W hW => heldStringS_any a2 c2 N2 (K + N1) W hs (by omega) (by omega) hW)
  have C3 : Hid (∀ W, RdS W a3 (marks (K + N1 + N2) N3) → _) := Lib.hid (fun W hW => heldStringS_any a3 c3 N3 (K + N1 + N2) W hd (by omega) (by omega) hW)
  simp only [Int.natCast_add] at C2 C3
  have R2 := Lib.hid r2
  have R3 := Lib.hid r3
  have n0 : (0 : Int) ≤ N1 := Int.natCast_nonneg _
  have n1 : (0 : Int) ≤ N2 := Int.natCast_nonneg _
  have n2 : (0 : Int) ≤ N3 := Int.natCast_nonneg _
  clear r1 r2 r3 hB hsz k0
  go_enter Tryd.func40, Tryd.ntmps40
  go_wp2_with fail
  refine C1.out.mono ?_
  rintro e w1 ⟨rfl, hb1⟩
  have H1 := Lib.hid hb1
  rw [HZ.out] at hb1
  obtain ⟨e1, e2⟩ := K0.out _ hb1
  have HB1 := Lib.hid (HB.out.trans (H1.out.mono HB.out.size))
  have H1' := Lib.hid hb1
  clear hb1
  go_wp2_with fail
  refine (C2.out _ (R2.out.below HB1.out (Nat.le_refl _))).mono ?_
  rintro e w2 ⟨rfl, hb2⟩
  have H2 := Lib.hid (H1'.out.trans (hb2.mono (by have := H1'.out.size; rw [HZ.out] at this; exact this)))
  have HB2 := Lib.hid (HB1.out.trans (hb2.mono HB1.out.size))
  clear hb2 e1 e2
  obtain ⟨e1, e2⟩ := K0.out _ H2.out
  go_wp2_with fail
  refine (C3.out _ (R3.out.below HB2.out (Nat.le_refl _))).mono ?_
  rintro e w3 ⟨rfl, hb3⟩
  have HB3 := Lib.hid (HB2.out.trans (hb3.mono HB2.out.size))
  clear hb3 e1 e2
  go_wp2_with fail
  go_ret
  exact ⟨rfl, HB3.out⟩

end Go.Proofs.YtcehbmlibfalaaaDoor
