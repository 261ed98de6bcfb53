/-
  The walk of a law's copy of a signature.
-/
import Derived.Test.YtcehbmlibfalaaaDoorJSig3
import Derived.Test.YtcehbmlibfalaaaDoorBase7
namespace Go.Proofs.YtcehbmlibfalaaaDoor
open Go.RowKit

theorem size_setC (w : World) (a : Addr) (u : Value) : (w.setCell a u).heap.size = w.heap.size := by simp [World.setCell]

set_option maxHeartbeats 1000000 in
theorem toSig_any (p : Int) (a1 a2 a3 : Option Addr) (c1 c2 c3 : Nat) (o s d : List ByteArray) (w : World) (ho : o.length ≤ 1048576) (hs : s.length ≤ 1048576) (hd : d.length ≤ 1048576) (r1 : RdS w a1 o) (r2 : RdS w a2 s) (r3 : RdS w a3 d) :
    Calls Tryd.prog 32 #[.agg #[.int .i64 p, .slice a1 o.length c1, .slice a2 s.length c2, .slice a3 d.length c3]] w fun e w' =>
      (∃ v vo vs vd, e = .returned v ∧ OwnSig w' w.heap.size w'.heap.size v p vo vs vd o s d) ∧ Below w.heap.size w w' := by
  have hz1 := alloc_size w (.cells #[.int .i64 p, .slice a1 o.length c1, .slice a2 s.length c2, .slice a3 d.length c3] 43)
  have hz2 := alloc_size (w.alloc (.cells #[.int .i64 p, .slice a1 o.length c1, .slice a2 s.length c2, .slice a3 d.length c3] 43)) (.cells #[.int .i64 0, .slice none 0 0, .slice none 0 0, .slice none 0 0] 46)
  have hz3 := alloc_size ((w.alloc (.cells #[.int .i64 p, .slice a1 o.length c1, .slice a2 s.length c2, .slice a3 d.length c3] 43)).alloc (.cells #[.int .i64 0, .slice none 0 0, .slice none 0 0, .slice none 0 0] 46)) (.cells #[.int .i64 p, .slice none 0 0, .slice none 0 0, .slice none 0 0] 46)
  have hB := (((Below.refl w.heap.size w).alloc (Nat.le_refl _) (.cells #[.int .i64 p, .slice a1 o.length c1, .slice a2 s.length c2, .slice a3 d.length c3] 43)).alloc (by omega) (.cells #[.int .i64 0, .slice none 0 0, .slice none 0 0, .slice none 0 0] 46)).alloc (by omega) (.cells #[.int .i64 p, .slice none 0 0, .slice none 0 0, .slice none 0 0] 46)
  have b1 := Blk.new w 43 [.int .i64 p, .slice a1 o.length c1, .slice a2 s.length c2, .slice a3 d.length c3] _ rfl
  have b2 := Blk.new (w.alloc (.cells #[.int .i64 p, .slice a1 o.length c1, .slice a2 s.length c2, .slice a3 d.length c3] 43)) 46 [.int .i64 0, .slice none 0 0, .slice none 0 0, .slice none 0 0] _ rfl
  have b3 := Blk.new ((w.alloc (.cells #[.int .i64 p, .slice a1 o.length c1, .slice a2 s.length c2, .slice a3 d.length c3] 43)).alloc (.cells #[.int .i64 0, .slice none 0 0, .slice none 0 0, .slice none 0 0] 46)) 46 [.int .i64 p, .slice none 0 0, .slice none 0 0, .slice none 0 0] _ rfl
  rw [hz1] at b2
  rw [hz2, hz1] at b3
  have B1 := Lib.hid ((b1.alloc (.cells #[.int .i64 0, .slice none 0 0, .slice none 0 0, .slice none 0 0] 46)).alloc (.cells #[.int .i64 p, .slice none 0 0, .slice none 0 0, .slice none 0 0] 46))
  have B2 := Lib.hid (b2.alloc (.cells #[.int .i64 p, .slice none 0 0, .slice none 0 0, .slice none 0 0] 46))
  have B3 := Lib.hid b3
  have hz : (((w.alloc (.cells #[.int .i64 p, .slice a1 o.length c1, .slice a2 s.length c2, .slice a3 d.length c3] 43)).alloc (.cells #[.int .i64 0, .slice none 0 0, .slice none 0 0, .slice none 0 0] 46)).alloc (.cells #[.int .i64 p, .slice none 0 0, .slice none 0 0, .slice none 0 0] 46)).heap.size = w.heap.size + 3 := by omega
  have HZ := Lib.hid hz
  have HB := Lib.hid hB
  have C1 := Lib.hid (toStringS_any a1 c1 o _ ho (r1.below hB (Nat.le_refl _)))
  have R2 := Lib.hid r2
  have R3 := Lib.hid r3
  clear hz hz1 hz2 hz3 hB b1 b2 b3 r1 r2 r3
  go_enter Tryd.func32, Tryd.ntmps32
  go_wp2_with fail
  refine C1.out.mono ?_
  rintro e w1 ⟨⟨v1, rfl, ho1⟩, hb1⟩
  obtain ⟨q1, m1, rfl⟩ := Own.shape ho1
  have hzz := HZ.out
  have D1 := B1.out.below hb1 (by rw [hzz]; omega)
  have D2 := B2.out.below hb1 (by rw [hzz]; omega)
  have D3 := B3.out.below hb1 (by rw [hzz]; omega)
  have h1 : w1.cell? ⟨w.heap.size, 2, none⟩ = some (.slice a2 s.length c2) := D1.cell 2
  have h2 : w1.cell? ⟨w.heap.size + 1 + 1, 1, none⟩ = some (.slice none 0 0) := D3.cell 1
  have h3 := D3.frozen 1
  generalize hv1 : Value.slice q1 o.length m1 = v1 at *
  have hB1 := (HB.out.trans (hb1.mono (by rw [hzz]; omega))).setCell (p := ⟨w.heap.size + 1 + 1, 1, none⟩) (by simp only; omega) v1
  have X1 := Lib.hid (D1.far (p := ⟨w.heap.size + 1 + 1, 1, none⟩) (by simp only; omega) v1)
  have X2 := Lib.hid (D2.far (p := ⟨w.heap.size + 1 + 1, 1, none⟩) (by simp only; omega) v1)
  have X3 := Lib.hid (D3.set_ 1 v1)
  have O1 := Lib.hid (ho1.setCell (a := ⟨w.heap.size + 1 + 1, 1, none⟩) (by rw [hzz]; simp only; omega) v1)
  have S1 : Hid (w.heap.size + 3 ≤ (w1.setCell ⟨w.heap.size + 1 + 1, 1, none⟩ v1).heap.size) := Lib.hid (by have := hb1.size; rw [hzz] at this; simpa [World.setCell] using this)
  have HB1 := Lib.hid hB1
  have C2 := Lib.hid (toStringS_any a2 c2 s _ hs (R2.out.below hB1 (Nat.le_refl _)))
  subst hv1
  clear hB1 D1 D2 D3 ho1 hb1 hzz
  go_wp2_with fail
  refine C2.out.mono ?_
  rintro e w2 ⟨⟨v2, rfl, ho2⟩, hb2⟩
  obtain ⟨q2, m2, rfl⟩ := Own.shape ho2
  have hzz := S1.out
  have D1 := X1.out.below hb2 (by omega)
  have D2 := X2.out.below hb2 (by omega)
  have D3 := X3.out.below hb2 (by omega)
  have P1 := O1.out.below hb2 (Nat.le_refl _)
  clear h1 h2 h3
  have h1 : w2.cell? ⟨w.heap.size, 3, none⟩ = some (.slice a3 d.length c3) := D1.cell 3
  have h2 : w2.cell? ⟨w.heap.size + 1 + 1, 2, none⟩ = some (.slice none 0 0) := D3.cell 2
  have h3 := D3.frozen 2
  generalize hv2 : Value.slice q2 s.length m2 = v2 at *
  have hB2 := (HB1.out.trans (hb2.mono (by omega))).setCell (p := ⟨w.heap.size + 1 + 1, 2, none⟩) (by simp only; omega) v2
  have Y1 := Lib.hid (D1.far (p := ⟨w.heap.size + 1 + 1, 2, none⟩) (by simp only; omega) v2)
  have Y2 := Lib.hid (D2.far (p := ⟨w.heap.size + 1 + 1, 2, none⟩) (by simp only; omega) v2)
  have Y3 := Lib.hid (D3.set_ 2 v2)
  have A12 := Lib.hid (apart_of (fun k hk => (O1.out.block k hk).2) (fun k hk => (ho2.block k hk).1))
  have L2 := Lib.hid (fun k hk => (ho2.block k hk).2)
  have O1' := Lib.hid ((P1.mono (by rw [HZ.out]; exact Nat.le_refl _ : w.heap.size + 3 ≤ _)).setCell (a := ⟨w.heap.size + 1 + 1, 2, none⟩) (by simp only; omega) v2)
  have O2 := Lib.hid ((ho2.mono (by omega : w.heap.size + 3 ≤ _)).setCell (a := ⟨w.heap.size + 1 + 1, 2, none⟩) (by simp only; omega) v2)
  have S2 : Hid (w.heap.size + 3 ≤ (w2.setCell ⟨w.heap.size + 1 + 1, 2, none⟩ v2).heap.size) := Lib.hid (by have := hb2.size; rw [size_setC]; omega)
  have HB2 := Lib.hid hB2
  have C3 := Lib.hid (toStringS_any a3 c3 d _ hd (R3.out.below hB2 (Nat.le_refl _)))
  subst hv2
  clear hB2 D1 D2 D3 ho2 hb2 hzz P1
  go_wp2_with fail
  refine C3.out.mono ?_
  rintro e w3 ⟨⟨v3, rfl, ho3⟩, hb3⟩
  obtain ⟨q3, m3, rfl⟩ := Own.shape ho3
  have hzz := S2.out
  have D2 := Y2.out.below hb3 (by omega)
  have D3 := Y3.out.below hb3 (by omega)
  have P1 := O1'.out.below hb3 (Nat.le_refl _)
  have P2 := O2.out.below hb3 (Nat.le_refl _)
  clear h1 h2 h3
  have g0 : w3.cell? ⟨w.heap.size + 1 + 1, 0, none⟩ = some (.int .i64 p) := D3.cell 0
  have g1 : w3.cell? ⟨w.heap.size + 1 + 1, 1, none⟩ = some (.slice q1 o.length m1) := D3.cell 1
  have g2 : w3.cell? ⟨w.heap.size + 1 + 1, 2, none⟩ = some (.slice q2 s.length m2) := D3.cell 2
  have g3 : w3.cell? ⟨w.heap.size + 1 + 1, 3, none⟩ = some (.slice none 0 0) := D3.cell 3
  have g4 := D3.frozen 3
  have k0 : w3.cell? ⟨w.heap.size + 1, 0, none⟩ = some (.int .i64 0) := D2.cell 0
  have k1 : w3.cell? ⟨w.heap.size + 1, 1, none⟩ = some (.slice none 0 0) := D2.cell 1
  have k2 : w3.cell? ⟨w.heap.size + 1, 2, none⟩ = some (.slice none 0 0) := D2.cell 2
  have k3 : w3.cell? ⟨w.heap.size + 1, 3, none⟩ = some (.slice none 0 0) := D2.cell 3
  have k4 := D2.frozen 0
  have k5 := D2.frozen 1
  have k6 := D2.frozen 2
  have k7 := D2.frozen 3
  have A13 := Lib.hid (apart_of (fun k hk => (O1'.out.block k hk).2) (fun k hk => (ho3.block k hk).1))
  have A23 := Lib.hid (apart_of (fun k hk => (O2.out.block k hk).2) (fun k hk => (ho3.block k hk).1))
  have O3 := Lib.hid (ho3.mono (by omega : w.heap.size + 3 ≤ _))
  have HB3 := Lib.hid (HB2.out.trans (hb3.mono (by omega)))
  have E2 := Lib.hid (((((D2.far (p := ⟨w.heap.size + 1 + 1, 3, none⟩) (by simp only; omega) (.slice q3 d.length m3)).set_ 0 (.int .i64 p)).set_ 1 (.slice q1 o.length m1)).set_ 2 (.slice q2 s.length m2)).set_ 3 (.slice q3 d.length m3))
  have O1 := Lib.hid P1
  have O2 := Lib.hid P2
  clear D2 D3 P1 P2 ho3 hb3 O1'
  go_wp2_with fail
  have hst : ∀ (v : Value) (l : List ByteArray), OwnS w3 (w.heap.size + 3) v l → OwnS (((((w3.setCell ⟨w.heap.size + 1 + 1, 3, none⟩ (.slice q3 d.length m3)).setCell ⟨w.heap.size + 1, 0, none⟩ (.int .i64 p)).setCell ⟨w.heap.size + 1, 1, none⟩ (.slice q1 o.length m1)).setCell ⟨w.heap.size + 1, 2, none⟩ (.slice q2 s.length m2)).setCell ⟨w.heap.size + 1, 3, none⟩ (.slice q3 d.length m3)) w.heap.size v l := fun v l h =>
    (((((h.setCell (a := ⟨w.heap.size + 1 + 1, 3, none⟩) (by simp only; omega) _).setCell (a := ⟨w.heap.size + 1, 0, none⟩) (by simp only; omega) _).setCell (a := ⟨w.heap.size + 1, 1, none⟩) (by simp only; omega) _).setCell (a := ⟨w.heap.size + 1, 2, none⟩) (by simp only; omega) _).setCell (a := ⟨w.heap.size + 1, 3, none⟩) (by simp only; omega) _).mono (by omega)
  have F1 := hst _ _ O1.out
  have F2 := hst _ _ O2.out
  have F3 := hst _ _ O3.out
  have HF := ((((HB3.out.setCell (p := ⟨w.heap.size + 1 + 1, 3, none⟩) (by simp only; omega) (.slice q3 d.length m3)).setCell (p := ⟨w.heap.size + 1, 0, none⟩) (by simp only; omega) (.int .i64 p)).setCell (p := ⟨w.heap.size + 1, 1, none⟩) (by simp only; omega) (.slice q1 o.length m1)).setCell (p := ⟨w.heap.size + 1, 2, none⟩) (by simp only; omega) (.slice q2 s.length m2)).setCell (p := ⟨w.heap.size + 1, 3, none⟩) (by simp only; omega) (.slice q3 d.length m3)
  refine bodyPost_ret (results_cell_row rfl _ _ (w.heap.size + 1) 46 #[.int .i64 p, .slice q1 o.length m1, .slice q2 s.length m2, .slice q3 d.length m3] (0, 0) _ rfl E2.out Tryd.underlying46 rfl (by kernel_rfl)) rfl ?_
  exact ⟨⟨_, _, _, _, rfl, rfl, F1, F2, F3, A12.out, A13.out, A23.out, fun k hk => (F1.block k hk).2, fun k hk => (F2.block k hk).2, fun k hk => (F3.block k hk).2⟩, HF⟩

end Go.Proofs.YtcehbmlibfalaaaDoor
