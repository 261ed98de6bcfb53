/-
  The walk of the draw of a disk, of operations, a place and numbers left.
-/
import Derived.Test.YtdecehecjlbbiaaJActD2
import Derived.Test.YtdecehecjlbbiaaJActD3
namespace Go.Proofs.Ytdecehecjlbbiaa
open Go.RowKit

/-- What is drawn for cut operations. -/
def CutDrawn (w : World) (e : Ending) (w' : World) : Prop :=
  (∃ l q x z vd vq vz, e = .returned (.tuple #[vd, vq, .int .i64 x, vz]) ∧ FlSmall l ∧ RdK w' vd l ∧ OwnA w' w.heap.size vq q ∧ q.length ≤ 9 ∧ (∀ a ∈ q, AcSmall a 100) ∧ OwnI w' w.heap.size vz z) ∧ Below w.heap.size w w'

theorem results_cell_tmp3D {fn : Func} {p u v x : Tmp} {ty : TypeId} (h : fn.results = #[.cell p ty, .tmp u, .tmp v, .tmp x]) (tmps : Array Value) (P : Program) (w : World) :
    (results fn tmps).run P w =
      ((asAddr (tmps.getD p undef)).run P w).andThen fun a w₁ => ((loadVar ty a).run P w₁).andThen fun y w₂ => .ok (.tuple #[y, tmps.getD u undef, tmps.getD v undef, tmps.getD x undef]) w₂ := by
  simp only [results, h]
  simp [Sem.run_bind, Result.andThen]
theorem results_cell_row_tmp3D {fn : Func} {p u v x : Tmp} {ty : TypeId} (h : fn.results = #[.cell p ty, .tmp u, .tmp v, .tmp x]) (tmps : Array Value) (P : Program) (w : World) (g : Nat) (t : TypeId) (cs : Array Value) (fr : Nat × Nat) (fs : Array Field) (xu xv xx : Value)
    (hp : tmps.getD p undef = .pointer (some ⟨g, 0, none⟩)) (hu : tmps.getD u undef = xu) (hv : tmps.getD v undef = xv) (hx : tmps.getD x undef = xx) (hg : w.heap[g]? = some (.cells cs t fr))
    (hf : P.underlying ty = some (.struct fs)) (hi : (P.info? ty).map (·.size) = some cs.size) :
    (results fn tmps).run P w = .ok (.tuple #[.agg cs, xu, xv, xx]) w := by
  rw [results_cell_tmp3D h, hp, hu, hv, hx]
  have e := run_loadVar_row w g t ty cs fr _ hg hf rfl hi
  simp [asAddr, Result.andThen]
  rw [e]

set_option maxHeartbeats 4000000 in
set_option maxRecDepth 100000 in
theorem drawCutActs_any (ao : Option Addr) (cap n : Nat) (w : World) (hn : n ≤ 1048576) (h : Bytes w ao n) :
    Calls Try.prog 61 #[.slice ao n cap] w (CutDrawn w) := by
  have hz := alloc_size w (.cells #[.slice none 0 0] 29)
  have hB := (Below.refl w.heap.size w).alloc (Nat.le_refl _) (.cells #[.slice none 0 0] 29)
  have b2 := Blk.new w 29 [.slice none 0 0] _ rfl
  have C := Lib.hid (l01New_any ao cap n _ hn (h.below hB (Nat.le_refl _)))
  have HB := Lib.hid hB
  have HZ := Lib.hid hz
  have B2 := Lib.hid b2
  clear h hz hB b2
  go_enter Try.func61, Try.ntmps61
  go_wp2_with fail
  generalize w.alloc (.cells #[.slice none 0 0] 29) = wA at *
  refine C.out.mono ?_
  rintro e w1 ⟨⟨g, rfl, hc1⟩, hb1⟩
  have hge := hc1.ge
  have hgl := hc1.lt
  have hzA := HZ.out
  have hs1 := hb1.size
  have B3 := Lib.hid (B2.out.below hb1 (by omega))
  have HB1 := Lib.hid (HB.out.trans (hb1.mono (by omega)))
  have C := Lib.hid (l06Disk_any wA n g w1 hc1 hs1)
  clear hc1 hb1 B2 HB
  go_wp2_with fail
  refine C.out.mono ?_
  rintro e w2 ⟨⟨l, hl, v, u, rfl, rfl, ho⟩, hc2, hg2⟩
  obtain ⟨qd, cd, rfl⟩ := Own.shape ho
  obtain ⟨hrd, hab⟩ := Own.fileRow ho
  have hs2 := hg2.size
  have hz3 := alloc_size w2 (.cells #[.slice qd l.length cd] 29)
  have hb3 := (Below.refl w2.heap.size w2).alloc (Nat.le_refl _) (.cells #[.slice qd l.length cd] 29)
  have BD := Lib.hid (Blk.new w2 29 [.slice qd l.length cd] _ rfl)
  have B4 := Lib.hid ((B3.out.kept hg2 (fun e => by have := Option.some.inj e; omega)).alloc (.cells #[.slice qd l.length cd] 29))
  have HG3 := Lib.hid (grownBy_alloc' hg2 (.cells #[.slice qd l.length cd] 29))
  have HR3 := Lib.hid (RdF.below hrd hb3 (Nat.le_refl _))
  have HL := Lib.hid hl
  have HC3 := Lib.hid (Cur.alloc hc2 (.cells #[.slice qd l.length cd] 29))
  have HNE := Lib.hid (show ∀ b off, qd = some ⟨b, off, none⟩ → b ≠ g from fun b off e => by have := (hab b off e).2.1; omega)
  have HAB := Lib.hid (show ∀ b off, qd = some ⟨b, off, none⟩ → w1.heap.size ≤ b from fun b off e => (hab b off e).2.1)
  have C := Lib.hid (l06Acts_any wA n g qd cd l _ HL.out HC3.out (by omega) HR3.out HNE.out (fun b off e => by have := (hab b off e).2.2; omega))
  have c3 := BD.out.cell 0
  simp only [List.getElem?_cons_zero] at c3
  clear ho hrd hab hc2 hg2 hb3 hl B3
  go_wp2_with fail
  refine C.out.mono ?_
  rintro e w4 ⟨⟨vq, q, rfl, hoq, hql, hqs⟩, hc4, hg4⟩
  have hs4 := hg4.size
  obtain ⟨aq, cq, rfl⟩ := Own.shape hoq
  have BD4 := Lib.hid (BD.out.kept hg4 (fun e => by have := Option.some.inj e; omega))
  have B5 := Lib.hid (B4.out.kept hg4 (fun e => by have := Option.some.inj e; omega))
  have HR4 := Lib.hid (rdC_kept HR3.out hg4 HNE.out)
  have HG4 := Lib.hid (grownBy_trans HG3.out hg4)
  have HQ := Lib.hid hoq
  have HQS := Lib.hid hqs
  have N1 := Lib.hid (l01Place_any wA n g ((q.length : Int) + 1) (by omega) (by omega) w4.drew (hc4.drewN 1))
  have hwr : IntKind.i64.wrap ((q.length : Int) + 1) = (q.length : Int) + 1 := IntWalk.i64_in _ ⟨by omega, by omega⟩
  have c4 := BD4.out.cell 0
  simp only [List.getElem?_cons_zero] at c4
  clear c3 hoq hqs hc4 hg4 C BD B4 HR3 HG3 HC3
  go_wp2_with fail
  go_region_with (first
      | (go_at_call 95; (refine N1.out.mono ?_); rintro e w5 ⟨⟨x, rfl⟩, hc5, hg5⟩; have hs5 := hg5.size; have c5 := (BD4.out.drewN 1 |>.kept hg5 (fun e => by have := Option.some.inj e; omega)).cell 0; simp only [List.getElem?_cons_zero] at c5; have N2 := Lib.hid (l06Left_any wA n g w5 hc5 (by have h1 : w4.drew.heap.size = w4.heap.size := rfl; omega)))
      | (go_at_call 96; (refine N2.out.mono ?_); rintro e w6 ⟨⟨vz, z, rfl, hoz, hzl⟩, hc6, hg6⟩; have hg7 := grownBy_trans hg5 hg6; have D6 := B5.out.drewN 1 |>.kept hg7 (fun e => by have := Option.some.inj e; omega); have d6 := D6.cell 0; have f6 := Blk.frozen D6 0; have e6 := (BD4.out.drewN 1 |>.kept hg7 (fun e => by have := Option.some.inj e; omega)).cell 0; simp only [List.getElem?_cons_zero] at d6 e6; have FIN := Lib.hid (And.intro hc6 (And.intro hg7 (And.intro D6 hoz)))))
  all_goals
    have hsd : w4.drew.heap.size = w4.heap.size := rfl
    have E2 := Lib.hid (FIN.out.2.2.1.set_ 0 (.slice qd l.length cd))
    have OQ := Lib.hid ((Own.setCell (a := ⟨w.heap.size, 0, none⟩) (Own.kept_only (Own.drew HQ.out) FIN.out.2.1 (by omega)) (by simp only; omega) (.slice qd l.length cd)).mono (by omega : w.heap.size ≤ _))
    have OZ := Lib.hid ((Own.setCell (a := ⟨w.heap.size, 0, none⟩) FIN.out.2.2.2 (by simp only; omega) (.slice qd l.length cd)).mono (by omega : w.heap.size ≤ _))
    have hr4 : RdF w4.drew qd l := HR4.out
    have RD := Lib.hid (rdC_kept (rdC_kept hr4 FIN.out.2.1 HNE.out) (grownBy_set (World.grownBy.refl w6 (some w.heap.size)) 0 (.slice qd l.length cd)) (fun b off e => by have := HAB.out b off e; omega))
    have hbA : Below w.heap.size w1 w4 := below_only HG4.out (by omega) (by omega)
    have hbB : Below w.heap.size w4.drew w6 := below_only FIN.out.2.1 (by omega) (by omega)
    have hbC : Below w.heap.size w4 w4.drew := bDrewN (Below.refl _ _) 1
    have FG := Lib.hid ((((HB1.out.trans hbA).trans hbC).trans hbB).setCell (p := ⟨w.heap.size, 0, none⟩) (Nat.le_refl _) (.slice qd l.length cd))
    clear hbA hbB hbC hr4 hg7 D6 hoz hc6 hg6 hc5 hg5 c5 e6 N1 N2 FIN hsd
    go_wp2_with fail
    refine bodyPost_ret (results_cell_row_tmp3D rfl _ _ _ w.heap.size 29 #[.slice qd l.length cd] (0, 0) _ _ _ _ rfl rfl rfl rfl E2.out Try.underlying29 (by kernel_rfl)) rfl ?_
    exact ⟨⟨l, q, x, z, _, _, _, rfl, HL.out, ⟨qd, cd, rfl, RD.out⟩, OQ.out, hql, HQS.out, OZ.out⟩, FG.out⟩

end Go.Proofs.Ytdecehecjlbbiaa
