/-
  The walks of a disk's copy and of a power failure, the program's side.
-/
import Derived.Test.YtdecehecjlbbiaaJDisk2
import Derived.Test.YtdecehecjlbbiaaBase4
import Derived.Test.YtdecehecjlbbiaaJInts1
namespace Go.Proofs.Ytdecehecjlbbiaa
open Go.RowKit

theorem Try.infoFile : (Try.prog.info? 49).map (fun i => (i.zero, i.size, i.bytes)) = some (some (.agg #[.string ⟨#[]⟩, .string ⟨#[]⟩, .int .i64 0]), 3, 40) := by kernel_rfl

/-- Two results, the first of which lies in a cell. -/
theorem results_cell_row_tmp {fn : Func} {p u : Tmp} {ty : TypeId} (h : fn.results = #[.cell p ty, .tmp u]) (tmps : Array Value) (P : Program) (w : World) (g : Nat) (t : TypeId) (cs : Array Value) (fr : Nat × Nat) (fs : Array Field) (x : Value)
    (hp : tmps.getD p undef = .pointer (some ⟨g, 0, none⟩)) (hx : tmps.getD u undef = x) (hg : w.heap[g]? = some (.cells cs t fr))
    (hu : P.underlying ty = some (.struct fs)) (hi : (P.info? ty).map (·.size) = some cs.size) :
    (results fn tmps).run P w = .ok (.tuple #[.agg cs, x]) w := by
  rw [results_cell_tmp h, hp, hx]
  have e := run_loadVar_row w g t ty cs fr _ hg hu rfl hi
  simp [asAddr, Result.andThen]
  rw [e]

set_option maxHeartbeats 1000000 in
theorem iCopy_any (v : Value) (l : List Fl) (w : World) (hl : l.length ≤ 1048576) (h : RdK w v l) :
    Calls Try.prog 71 #[v] w fun e w' => GivesK w.heap.size l e w' ∧ Below w.heap.size w w' := by
  obtain ⟨ao, cap, rfl, hr⟩ := h
  have hz1 := alloc_size w (.cells #[.slice ao l.length cap] 29)
  have hz2 := alloc_size (w.alloc (.cells #[.slice ao l.length cap] 29)) (.cells #[.slice none 0 0] 29)
  have hB := ((Below.refl w.heap.size w).alloc (Nat.le_refl _) (.cells #[.slice ao l.length cap] 29)).alloc (by omega) (.cells #[.slice none 0 0] 29)
  have b2 := Blk.new (w.alloc (.cells #[.slice ao l.length cap] 29)) 29 [.slice none 0 0] _ rfl
  rw [hz1] at b2
  have hz : ((w.alloc (.cells #[.slice ao l.length cap] 29)).alloc (.cells #[.slice none 0 0] 29)).heap.size = w.heap.size + 2 := by omega
  have Hsrc := Lib.hid (RdF.src (P := Try.prog) Try.underlying27 (hr.below hB (Nat.le_refl _)) cap)
  have HB := Lib.hid hB
  have HZ := Lib.hid hz
  have B2 := Lib.hid b2
  clear hr hz1 hz2 hB hz b2
  go_enter Try.func71, Try.ntmps71
  go_wp2_with (at_builtin; refine wpList_append_Own _ rfl _ _ 27 27 rfl (w.heap.size + 2) 49 _ 3 40 Try.underlying27 Try.infoFile rfl (.slice none 0 0) 0 [] rfl (Own.nil _ _ _) _ rfl l.length (fileC l) Hsrc.out (by unfold maxLen; omega) (by omega) (by rw [HZ.out]; exact Nat.le_refl _) ?_; intro v1 w1 hown1 hg1 _; simp only [Nat.zero_add, List.nil_append] at hown1; obtain ⟨q, c, rfl⟩ := Own.shape hown1; have D := Blk.kept B2.out hg1 (by simp [Value.ownBlock]); have k0 := Blk.cell D 0; have k1 := Blk.frozen D 0; simp only [List.getElem?_cons_zero] at k0; have D2 := Lib.hid (Blk.set_ D 0 (.slice q l.length c)); have HO := Lib.hid hown1; have HG := Lib.hid (HB.out.grown hg1 HB.out.size (fun k hk => by simp [Value.ownBlock] at hk)); clear D hown1 hg1)
  refine bodyPost_ret (results_cell_row rfl _ _ (w.heap.size + 1) 29 #[.slice q l.length c] (0, 0) _ rfl D2.out Try.underlying29 rfl (by kernel_rfl)) rfl ?_
  exact ⟨⟨_, _, rfl, rfl, (Own.setCell (a := ⟨w.heap.size + 1, 0, none⟩) HO.out (by simp only; omega) _).mono (by omega)⟩, HG.out.setCell (p := ⟨w.heap.size + 1, 0, none⟩) (by simp only; omega) _⟩

theorem min_cast {a : Int} {b : Nat} : min a (b : Int) = if a ≤ b then a else b := by omega
set_option maxHeartbeats 4000000 in
set_option maxRecDepth 100000 in
theorem iLose_any (v : Value) (l : List Fl) (aq : Option Addr) (cq : Nat) (q : List Int) (w : World) (hl : l.length ≤ 1048576) (hs : ∀ x ∈ l, x.1.size ≤ 1048576 ∧ x.2.1.size ≤ 1048576) (h : RdK w v l) (hq : RdI w aq q) :
    Calls Try.prog 26 #[v, .slice aq q.length cq] w fun e w' => GivesK2 w.heap.size (loseV l q).1 (.bool (loseV l q).2) e w' ∧ Below w.heap.size w w' := by
  obtain ⟨ao, cap, rfl, hr⟩ := h
  have hz1 := alloc_size w (.cells #[.slice ao l.length cap] 29)
  have hz2 := alloc_size (w.alloc (.cells #[.slice ao l.length cap] 29)) (.cells #[.slice none 0 0] 29)
  have hB := ((Below.refl w.heap.size w).alloc (Nat.le_refl _) (.cells #[.slice ao l.length cap] 29)).alloc (by omega) (.cells #[.slice none 0 0] 29)
  have b1 := (Blk.new w 29 [.slice ao l.length cap] _ rfl).alloc (.cells #[.slice none 0 0] 29)
  have b2 := Blk.new (w.alloc (.cells #[.slice ao l.length cap] 29)) 29 [.slice none 0 0] _ rfl
  rw [hz1] at b2
  have hz : ((w.alloc (.cells #[.slice ao l.length cap] 29)).alloc (.cells #[.slice none 0 0] 29)).heap.size = w.heap.size + 2 := by omega
  have CD := iDiskOk_any (.agg #[.slice ao l.length cap]) l _ hl hs ⟨ao, cap, rfl, hr.below hB (Nat.le_refl _)⟩
  have R := Lib.hid (fun W hW => (hr.below hB (Nat.le_refl _)).below (C := w.heap.size + 2) (w' := W) hW (by rw [hz]; exact Nat.le_refl _))
  have RQ := Lib.hid (fun W hW => (hq.below hB (Nat.le_refl _)).below (C := w.heap.size + 2) (w' := W) hW (by rw [hz]; exact Nat.le_refl _))
  have HB := Lib.hid hB
  have HZ := Lib.hid hz
  have B1 := Lib.hid b1
  have B2 := Lib.hid b2
  have HS := Lib.hid hs
  clear hr hq hz1 hz2 hB hz b1 b2 hs
  by_cases hg : DiskGood l
  · rw [decide_eq_true hg] at CD
    have C := Lib.hid CD
    have HG := Lib.hid hg
    have HV := Lib.hid (loseV_yes (q := q) hg)
    have hl30 := hg.1
    clear CD hg
    rw [HV.out]
    go_enter Try.func26, Try.ntmps26
    go_wp2_with fail
    refine C.out.mono ?_
    rintro e w1 ⟨rfl, hb1⟩
    rw [HZ.out] at hb1
    have D1 := Lib.hid (B1.out.below hb1 (by omega))
    have D2 := Lib.hid (B2.out.below hb1 (by omega))
    have G1 := Lib.hid hb1
    have c0 := Blk.cell D1.out 0
    simp only [List.getElem?_cons_zero] at c0
    clear hb1 C
    go_wp2_with fail
    refine (iCopy_any _ l w1 hl ⟨ao, cap, rfl, R.out _ G1.out⟩).mono ?_
    rintro e w2 ⟨⟨v2, u2, rfl, ho⟩, hb2⟩
    obtain ⟨rfl, ho⟩ := ho
    obtain ⟨q2, k2, rfl⟩ := Own.shape ho
    have hs1 := G1.out.size
    rw [HZ.out] at hs1
    have hs2 := hb2.size
    have hbx := (Below.refl w2.heap.size w2).alloc (Nat.le_refl _) (.cells #[.slice q2 l.length k2] 29)
    have ho3 : Own (w2.alloc (.cells #[.slice q2 l.length k2] 29)) (w.heap.size + 2) 3 (.slice q2 l.length k2) l.length (fileC l) := Own.alloc (Own.mono ho hs1) _
    have hgb := Own.block ho
    have b6 := Blk.new w2 29 [.slice q2 l.length k2] _ rfl
    have D3 := Lib.hid ((D2.out.below hb2 D2.out.lt).below hbx (by have := D2.out.lt; omega))
    have G3 : Below (w.heap.size + 2) _ (w2.alloc (.cells #[.slice q2 l.length k2] 29)) := G1.out.trans ((hb2.mono hs1).trans (hbx.mono (by omega)))
    have HGB := Lib.hid hgb
    have L2 : Hid (w.heap.size + 2 ≤ w2.heap.size) := Lib.hid (by omega)
    clear ho hb2 c0 hbx hgb hs1 hs2
    go_wp2_with fail
    generalize (w.alloc (.cells #[.slice ao l.length cap] 29)).alloc (.cells #[.slice none 0 0] 29) = W0 at *
    have ho4 : Own (w2.alloc (.cells #[.slice q2 l.length k2] 29)) (w.heap.size + 2) 3 (.slice q2 l.length k2) l.length (fileC (loseMid l q 0)) := by rw [loseMid_zero]; exact ho3
    clear ho3
    go_loopw [19] (fun i wr => ∃ k : Nat, k ≤ l.length ∧ i = .int .i64 k ∧ Own wr (w.heap.size + 2) 3 (.slice q2 l.length k2) l.length (fileC (loseMid l q k)) ∧ Blk wr w2.heap.size 29 [.slice q2 l.length k2] ∧ Blk wr (w.heap.size + 1) 29 [.slice none 0 0] ∧ Below (w.heap.size + 2) W0 wr) (fun i _ => l.length - (intOf i).toNat)
    case atStart => exact ⟨0, Nat.zero_le _, rfl, ho4, b6, D3.out, G3⟩
    case round =>
      clear ho4 b6 D3 G3
      obtain ⟨k, hk, rfl, hown, hb6, hb2, hb⟩ := hrel
      have c6 := Blk.cell hb6 0
      simp only [List.getElem?_cons_zero] at c6
      by_cases hlt : k < l.length
      · obtain ⟨x, hx⟩ : ∃ x, l[k]? = some x := ⟨_, List.getElem?_eq_getElem hlt⟩
        rcases hown with ⟨h0, hn0, _⟩ | ⟨g, cap', he, hBg, r⟩
        · exfalso; omega
        cases he
        have hown : Own wr (w.heap.size + 2) 3 (.slice (some ⟨g, 0, none⟩) l.length k2) l.length (fileC (loseMid l q k)) := .inr ⟨g, _, rfl, hBg, r⟩
        clear r
        obtain ⟨⟨e0, e1, e2⟩, f0, f1, f2⟩ := hown.fileAt (loseMid_at hx)
        have hfile := (HG.out.2.1 x (List.mem_of_getElem? hx)).2
        have hxs := HS.out x (List.mem_of_getElem? hx)
        have Hown := Lib.hid hown
        have Hx := Lib.hid hx
        have Hb := Lib.hid (And.intro hb6 (And.intro hb2 hb))
        obtain ⟨xa, xb, xn⟩ := x
        simp only at e0 e1 e2 hfile hxs
        obtain ⟨ht, hk0, hk1⟩ := hfile
        have hg2 : g < w2.heap.size := (HGB.out g rfl).2
        clear hown hx hb6 hb2 hb e0 f0
        have i0 : (0 : Int) ≤ (k : Int) := Int.natCast_nonneg _
        by_cases hq : k < q.length
        · obtain ⟨m, hm⟩ : ∃ m, q[k]? = some m := ⟨_, List.getElem?_eq_getElem hq⟩
          obtain ⟨b, o, rfl, hcm⟩ := (RQ.out _ Hb.out.2.2).at_ k m hm
          have hgd : q.getD k 0 = m := by rw [List.getD_eq_getElem?_getD, hm]; rfl
          have Hgd := Lib.hid hgd
          have i1 : (k : Int) < (q.length : Int) := by omega
          clear hm hgd
          have hN : 0 ≤ (max (min m (xb.size : Int)) xn) ∧ (max (min m (xb.size : Int)) xn) ≤ (xb.size : Int) := by omega
          have hcut := fun wx => cut_to (P := Try.prog) Try.underlying9 xb (max (min m (xb.size : Int)) xn) (max (min m (xb.size : Int)) xn).toNat (by omega) (by omega) wx
          have HNX := Lib.hid (loseMid_next (q := q) Hx.out)
          have HVAL : Hid (loseN (xa, xb, xn) (q.getD k 0) = max (min m (xb.size : Int)) xn) := Lib.hid (by rw [Hgd.out]; rfl)
          go_wp2_with fail
          go_quiet (fail)
          go_wp2_with fail
          have ho5 := (Own.drewN Hown.out nq).storeC (k * 3 + 1) (by omega) (.string (xb.extract 0 (max (min m (xb.size : Int)) xn).toNat))
          rw [fileC_text (loseMid_at Hx.out)] at ho5
          have ho6 := ho5.storeC (k * 3 + 2) (by omega) (.int .i64 (max (min m (xb.size : Int)) xn))
          rw [fileC_kept (by rw [List.getElem?_set_self (by rw [loseMid_len (by omega)]; exact hlt)])] at ho6
          simp only [List.set_set] at ho6
          exact ⟨⟨k + 1, by omega, by go_num, by rw [HNX.out]; unfold loseF; rw [HVAL.out]; exact ho6, ((Blk.drewN Hb.out.1 nq).far (by simp only; omega) _).far (by simp only; omega) _, ((Blk.drewN Hb.out.2.1 nq).far (by simp only; omega) _).far (by simp only; omega) _, ((bDrewN Hb.out.2.2 nq).setCell (by simp only; omega) _).setCell (by simp only; omega) _⟩, by simp [intOf]; omega⟩
        · have hgd : q.getD k 0 = 0 := by rw [List.getD_eq_getElem?_getD, List.getElem?_eq_none (by omega)]; rfl
          have Hgd := Lib.hid hgd
          have i1 : ¬ ((k : Int) < (q.length : Int)) := by omega
          clear hgd
          have hN : 0 ≤ (max 0 xn) ∧ (max 0 xn) ≤ (xb.size : Int) := by omega
          have hcut := fun wx => cut_to (P := Try.prog) Try.underlying9 xb (max 0 xn) (max 0 xn).toNat (by omega) (by omega) wx
          have HNX := Lib.hid (loseMid_next (q := q) Hx.out)
          have HVAL : Hid (loseN (xa, xb, xn) (q.getD k 0) = max 0 xn) := Lib.hid (by rw [Hgd.out]; unfold loseN; simp only; omega)
          go_wp2_with fail
          have ho5 := (Own.drewN Hown.out 0).storeC (k * 3 + 1) (by omega) (.string (xb.extract 0 (max 0 xn).toNat))
          rw [fileC_text (loseMid_at Hx.out)] at ho5
          have ho6 := ho5.storeC (k * 3 + 2) (by omega) (.int .i64 (max 0 xn))
          rw [fileC_kept (by rw [List.getElem?_set_self (by rw [loseMid_len (by omega)]; exact hlt)])] at ho6
          simp only [List.set_set] at ho6
          exact ⟨⟨k + 1, by omega, by go_num, by rw [HNX.out]; unfold loseF; rw [HVAL.out]; exact ho6, ((Blk.drewN Hb.out.1 0).far (by simp only; omega) _).far (by simp only; omega) _, ((Blk.drewN Hb.out.2.1 0).far (by simp only; omega) _).far (by simp only; omega) _, ((bDrewN Hb.out.2.2 0).setCell (by simp only; omega) _).setCell (by simp only; omega) _⟩, by simp [intOf]; omega⟩
      · obtain rfl : k = l.length := by omega
        have e1 := Blk.cell hb2 0
        have e2 := Blk.frozen hb2 0
        simp only [List.getElem?_cons_zero] at e1
        have E2 := Lib.hid (Blk.set_ hb2 0 (.slice q2 l.length k2))
        have ho5 : Own (wr.setCell ⟨w.heap.size + 1, 0, none⟩ (.slice q2 l.length k2)) w.heap.size 3 (.slice q2 l.length k2) l.length (fileC (loseL l q)) := by
          rw [← loseMid_all]
          exact (Own.setCell (a := ⟨w.heap.size + 1, 0, none⟩) hown (by simp only; omega) _).mono (by omega)
        have HO := Lib.hid ho5
        have HF := Lib.hid ((HB.out.trans (hb.mono (by omega))).setCell (p := ⟨w.heap.size + 1, 0, none⟩) (by simp only; omega) (.slice q2 l.length k2))
        have HLl : Hid ((loseL l q).length = l.length) := Lib.hid (loseTo_len _ _ _)
        clear hown hb6 hb2 hb ho5
        go_wp2_with fail
        refine bodyPost_ret (results_cell_row_tmp rfl _ _ _ (w.heap.size + 1) 29 #[.slice q2 l.length k2] (0, 0) _ _ rfl rfl E2.out Try.underlying29 (by kernel_rfl)) rfl ?_
        exact ⟨⟨_, _, rfl, rfl, by unfold OwnF; rw [HLl.out]; exact HO.out⟩, HF.out⟩
  · rw [decide_eq_false hg] at CD
    have C := Lib.hid CD
    have HV := Lib.hid (loseV_no (q := q) hg)
    clear CD hg
    rw [HV.out]
    go_enter Try.func26, Try.ntmps26
    go_wp2_with fail
    refine C.out.mono ?_
    rintro e w1 ⟨rfl, hb1⟩
    rw [HZ.out] at hb1
    have D2 := B2.out.below hb1 (by omega)
    have k0 := Blk.cell D2 0
    have k1 := Blk.frozen D2 0
    simp only [List.getElem?_cons_zero] at k0
    have E2 := Lib.hid (Blk.set_ D2 0 (.slice none 0 0))
    have HF := Lib.hid ((HB.out.trans (hb1.mono (by omega))).setCell (p := ⟨w.heap.size + 1, 0, none⟩) (by simp only; omega) (.slice none 0 0))
    clear hb1 D2 C
    go_wp2_with fail
    refine bodyPost_ret (results_cell_row_tmp rfl _ _ _ (w.heap.size + 1) 29 #[.slice none 0 0] (0, 0) _ _ rfl rfl E2.out Try.underlying29 (by kernel_rfl)) rfl ?_
    exact ⟨⟨_, _, rfl, rfl, Own.nil _ _ _⟩, HF.out⟩

end Go.Proofs.Ytdecehecjlbbiaa
