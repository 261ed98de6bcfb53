/-
  The walks of operations one by one, the reference's side.
-/
import Derived.Test.YtdecehecjlbbiaaJDoM
import Derived.Test.YtdecehecjlbbiaaBase4
import Derived.Test.YtdecehecjlbbiaaBase8
namespace Go.Proofs.Ytdecehecjlbbiaa
open Go.RowKit

/-- '[]T{}'. -/
theorem Own.none_yet (w : World) (B size : Nat) (e : TypeId) (hB : B ≤ w.heap.size) : Own (w.alloc (.cells #[] e)) B size (.slice (some ⟨w.heap.size, 0, none⟩) 0 0) 0 [] := by
  refine .inr ⟨w.heap.size, 0, rfl, hB, ?_, Nat.le_refl _, Nat.zero_le _, by simp, fun j hj => by omega, fun j hj => by omega⟩
  rw [alloc_size]; exact Nat.lt_succ_self _

set_option maxHeartbeats 8000000 in
set_option maxRecDepth 100000 in
theorem sDoActs_any (v : Value) (l : List Fl) (aq : Option Addr) (cq : Nat) (q : List Ac) (w : World) (hl : FlSmall l) (hq : q.length ≤ 1048576) (hs : ∀ x ∈ q, x.2.2.1.size ≤ 1048576) (h : RdK w v l) (hr : RdA w aq q) :
    Calls Try.prog 56 #[v, .slice aq q.length cq] w fun e w' => GivesK2 w.heap.size (actsV l q).1 (.int .i64 (actsV l q).2) e w' ∧ Below w.heap.size w w' := by
  obtain ⟨ao, cap, rfl, hr0⟩ := h
  obtain ⟨W0, hW0⟩ : ∃ W0, ((w.alloc (.cells #[.slice ao l.length cap] 29)).alloc (.cells #[.slice none 0 0] 29)) = W0 := ⟨_, rfl⟩
  have hz1 := alloc_size w (.cells #[.slice ao l.length cap] 29)
  have hz2 := alloc_size (w.alloc (.cells #[.slice ao l.length cap] 29)) (.cells #[.slice none 0 0] 29)
  have hB := ((Below.refl w.heap.size w).alloc (Nat.le_refl _) (.cells #[.slice ao l.length cap] 29)).alloc (by omega) (.cells #[.slice none 0 0] 29)
  have b1 := (Blk.new w 29 [.slice ao l.length cap] _ rfl).alloc (.cells #[.slice none 0 0] 29)
  have b2 := Blk.new (w.alloc (.cells #[.slice ao l.length cap] 29)) 29 [.slice none 0 0] _ rfl
  rw [hz1] at b2
  rw [hW0] at hB b1 b2 hz2
  have hz : W0.heap.size = w.heap.size + 2 := by omega
  have RQ := Lib.hid (fun W hW => (hr.below hB (Nat.le_refl _)).below (C := w.heap.size + 2) (w' := W) hW (by rw [hz]; exact Nat.le_refl _))
  have b1' := b1.alloc (.cells #[] 49)
  have b2' := b2.alloc (.cells #[] 49)
  have hfe := Own.none_yet W0 (w.heap.size + 2) 3 49 (by omega)
  have hsrc := RdF.src (P := Try.prog) Try.underlying27 ((hr0.below hB (Nat.le_refl _)).below ((Below.refl W0.heap.size W0).alloc (Nat.le_refl _) (.cells #[] 49)) (Nat.le_refl _)) cap
  have hB' := (Below.refl (w.heap.size + 2) W0).alloc (by omega) (.cells #[] 49)
  have hz3 : (W0.alloc (.cells #[] 49)).heap.size = w.heap.size + 3 := by rw [alloc_size]; omega
  have c1 := Blk.cell b1' 0
  simp only [List.getElem?_cons_zero] at c1
  have HSRC := Lib.hid hsrc
  have HB := Lib.hid hB
  have HB' := Lib.hid hB'
  have HZ := Lib.hid hz
  have HZ3 := Lib.hid hz3
  have B2 := Lib.hid b2'
  have HFE := Lib.hid hfe
  have HS := Lib.hid hs
  have HL := Lib.hid hl
  clear hr hr0 hz1 hz2 hz3 hB hB' hz b1 b2 b1' b2' hs hl hsrc hfe
  go_enter Try.func56, Try.ntmps56
  go_wp2_with (at_builtin; go_loud (refine wpList_append_Own _ rfl _ _ 27 27 rfl (w.heap.size + 2) 49 _ 3 40 Try.underlying27 Try.infoFile rfl _ 0 [] rfl HFE.out _ rfl l.length (fileC l) HSRC.out (by unfold maxLen; have := HL.out.1; omega) (by have := HL.out.1; omega) (by rw [HZ3.out]; omega) ?_; intro v1 w1 hown1 hg1 _; simp only [Nat.zero_add, List.nil_append] at hown1; obtain ⟨q1, k1, rfl⟩ := Own.shape hown1; have hs1 : w.heap.size + 3 ≤ w1.heap.size := (by have := hg1.size; rw [HZ3.out] at this; exact this); have hb1 : Below (w.heap.size + 2) W0 w1 := HB'.out.grown hg1 (by rw [HZ3.out]; omega) (fun k hk => (Own.block HFE.out _ hk).1); have D2 := Blk.kept B2.out hg1 (fun e => by have := (Own.block HFE.out _ e.symm).1; omega); have hbx := (Below.refl w1.heap.size w1).alloc (Nat.le_refl _) (.cells #[.slice q1 l.length k1] 29); have h6 := Blk.new w1 29 [.slice q1 l.length k1] _ rfl; have h2 := D2.alloc (.cells #[.slice q1 l.length k1] 29); have ho2 : Own (w1.alloc (.cells #[.slice q1 l.length k1] 29)) (w.heap.size + 2) 3 (.slice q1 l.length k1) l.length (fileC l) := Own.alloc hown1 _; have hG : Below (w.heap.size + 2) W0 (w1.alloc (.cells #[.slice q1 l.length k1] 29)) := hb1.trans (hbx.mono (by omega)); have hsz : w1.heap.size + 1 ≤ (w1.alloc (.cells #[.slice q1 l.length k1] 29)).heap.size := (by rw [alloc_size]; exact Nat.le_refl _); clear hown1 hg1 hb1 D2 hbx HSRC HB' B2 HFE HZ3))
  clear hW0
  generalize w1.alloc (.cells #[.slice q1 l.length k1] 29) = W1 at *
  go_loopw [7] (fun i wr => ∃ (k : Nat) (m : List Fl) (u : Value), k ≤ q.length ∧ i = .int .i64 k ∧ Hid (Reach l q k m) ∧ Hid (FlSmall m) ∧ Own wr (w.heap.size + 2) 3 u m.length (fileC m) ∧ Blk wr w1.heap.size 29 [u] ∧ Blk wr (w.heap.size + 1) 29 [.slice none 0 0] ∧ Below (w.heap.size + 2) W0 wr ∧ w1.heap.size + 1 ≤ wr.heap.size) (fun i _ => q.length - (intOf i).toNat)
  case atStart => exact ⟨0, l, _, Nat.zero_le _, rfl, Lib.hid (reach_zero l q), HL, ho2, h6, h2, hG, hsz⟩
  case round =>
    clear ho2 h6 h2 hG hsz
    obtain ⟨k, m, u, hk, rfl, HR, HM, hown, hb6, hb2, hb, hsz⟩ := hrel
    obtain ⟨qv, cv, rfl⟩ := Own.shape hown
    by_cases hlt : k < q.length
    · obtain ⟨a, ha⟩ : ∃ a, q[k]? = some a := ⟨_, List.getElem?_eq_getElem hlt⟩
      obtain ⟨b, o, rfl, p0, p1, p2, p3⟩ := (RQ.out _ hb).at_ k a ha
      have hbl := World.block_lt_of_cell? _ _ p0
      simp only at hbl
      have i0 : (0 : Int) ≤ (k : Int) := Int.natCast_nonneg _
      have i1 : (k : Int) < (q.length : Int) := by omega
      have CA := fun v W h => sDoAct_any v m a W HM.out.1 HM.out.2 (HS.out a (List.mem_of_getElem? ha)) h
      obtain ⟨rl, rb, hrv⟩ : ∃ rl rb, doV m a = (rl, rb) := ⟨_, _, rfl⟩
      have HX : Hid ((rb = true → Reach l q (k + 1) rl ∧ FlSmall rl) ∧ (rb = false → actsV l q = (m, k))) := Lib.hid ⟨fun e => by
          have hv : (doV m a).2 = true := by rw [hrv]; exact e
          have h1 := reach_next HR.out ha hv
          have h2 := doV_small hv
          rw [hrv] at h1 h2; exact ⟨h1, h2⟩, fun e => reach_fail HR.out ha (by rw [hrv]; exact e)⟩
      simp only [hrv] at CA
      have HK : Hid (∀ W, Below wr.heap.size wr W → W.cell? ⟨w1.heap.size, 0, none⟩ = some (.slice qv m.length cv) ∧ W.cell? ⟨b, o + k * 4, none⟩ = some (.int .i64 a.1) ∧ W.cell? ⟨b, o + k * 4 + 1, none⟩ = some (.string a.2.1) ∧ W.cell? ⟨b, o + k * 4 + 2, none⟩ = some (.string a.2.2.1) ∧ W.cell? ⟨b, o + k * 4 + 3, none⟩ = some (.string a.2.2.2)) :=
        Lib.hid fun W hW => ⟨(Blk.below hb6 hW hb6.lt).cell 0, (hW.cell (p := ⟨b, o + k * 4, none⟩) hbl).trans p0, (hW.cell (p := ⟨b, o + k * 4 + 1, none⟩) hbl).trans p1, (hW.cell (p := ⟨b, o + k * 4 + 2, none⟩) hbl).trans p2, (hW.cell (p := ⟨b, o + k * 4 + 3, none⟩) hbl).trans p3⟩
      clear hrv ha p0 p1 p2 p3
      obtain ⟨ak, an, at_, ad⟩ := a
      simp only at CA HK
      have DA := Lib.hid CA
      clear CA HR
      have hk0 := bDrew0 wr
      have HO := Lib.hid hown
      have QB := Lib.hid (OwnK.rd ⟨rfl, hown.below hk0 (Nat.le_refl _)⟩)
      have H6 := Lib.hid hb6
      have H2 := Lib.hid hb2
      have HG := Lib.hid hb
      clear hown hb6 hb2 hb
      obtain ⟨c0, c1, c2, c3, c4⟩ := HK.out _ (Below.refl _ _)
      go_wp2_with fail
      apply region_join (Post := fun q k n w' => BoxedRow wr w' rl 29 q k n)
      · go_region_held3 (fun W => W.cell? ⟨w1.heap.size, 0, none⟩ = some (.slice qv m.length cv) ∧ W.cell? ⟨b, o + k * 4, none⟩ = some (.int .i64 ak) ∧ W.cell? ⟨b, o + k * 4 + 1, none⟩ = some (.string an) ∧ W.cell? ⟨b, o + k * 4 + 2, none⟩ = some (.string at_) ∧ W.cell? ⟨b, o + k * 4 + 3, none⟩ = some (.string ad))
          (first | exact HK.out _ hk3 | exact HK.out _ (bAlloc0 hk3 _) | exact HK.out _ (bSet0 hk3 (by first | exact Nat.le_refl _ | exact hk3.size) _) | exact HK.out _ hk0 | exact HK.out _ (bAlloc0 hk0 _) | go_keep)
          (first
            | (go_at_call 52; refine (DA.out _ _ ?_).mono ?_; (first | exact QB.out | exact QB.out.below (bAlloc0 (Below.refl _ _) _) (Nat.le_refl _)); rintro e wc ⟨⟨vc, uc, rfl, hoc⟩, hbc⟩; have hk3 : Below wr.heap.size wr wc := (by first | exact bTrans0 hk0 hbc | exact bTrans0 (bAlloc0 hk0 _) hbc); obtain ⟨rfl, hoc⟩ := hoc; obtain ⟨qc, kc, rfl⟩ := Own.shape hoc; first | (have bk := Blk.below (Blk.new_drew wr 29 [.slice none 0 0] _ rfl) hbc (Blk.lt (Blk.new_drew wr 29 [.slice none 0 0] _ rfl)); have y1 := Blk.frozen bk 0; have y0 := Blk.cell bk 0; simp only [List.getElem?_cons_zero] at y0) | skip))
        all_goals
          first
            | (obtain ⟨n, hn⟩ : ∃ n, wc.heap.size = n := ⟨_, rfl⟩; obtain ⟨va, -⟩ : ∃ v : Value, v = v := ⟨.bool true, rfl⟩; refine ⟨rfl, va, qc, kc, n, ?_, ?_⟩; (· rw [hn]); (· rw [← hn]; exact BoxedRow.late hk3 (Own.mono hoc hk0.size) 29))
            | (obtain ⟨n, hn⟩ : ∃ n, wr.heap.size = n := ⟨_, rfl⟩; obtain ⟨va, -⟩ : ∃ v : Value, v = v := ⟨.bool true, rfl⟩; refine ⟨rfl, va, qc, kc, n, ?_, ?_⟩; (· rw [hn]); (· rw [← hn]; exact BoxedRow.early bk (Nat.le_refl _) (by simp) hoc hk3))
      · intro va q4 k4 n w4 hbx
        have hne : n ≠ w1.heap.size := by have := hbx.ge; omega
        have hnw : n ≠ w.heap.size + 1 := by have := hbx.ge; omega
        have D6 := H6.out.below hbx.low H6.out.lt
        have D2 := H2.out.below hbx.low H2.out.lt
        have Dn := hbx.blk
        have d6 := Blk.cell D6 0
        have f6 := Blk.frozen D6 0
        have d2 := Blk.cell D2 0
        have f2 := Blk.frozen D2 0
        have dn := Blk.cell Dn 0
        simp only [List.getElem?_cons_zero] at d6 d2 dn
        cases rb with
        | true =>
          obtain ⟨HN, HM2⟩ := HX.out.1 rfl
          have F6 := Lib.hid (Blk.set_ D6 0 (.slice q4 rl.length k4))
          have F2 := Lib.hid (D2.far (p := ⟨w1.heap.size, 0, none⟩) (by simp only; omega) (.slice q4 rl.length k4))
          have FO := Lib.hid ((Own.setCell (a := ⟨w1.heap.size, 0, none⟩) hbx.own (by simp only; omega) (.slice q4 rl.length k4)).mono (by omega : w.heap.size + 2 ≤ _))
          have FG := Lib.hid ((HG.out.trans (hbx.low.mono (by omega))).setCell (p := ⟨w1.heap.size, 0, none⟩) (by simp only; omega) (.slice q4 rl.length k4))
          have HN := Lib.hid HN
          have HM2 := Lib.hid HM2
          have hsz4 := hbx.low.size
          clear hbx D6 D2 Dn d2 f2 HX HM HO QB H6 H2 HG HK DA c0 c1 c2 c3 c4 hk0
          go_wp2_with fail
          exact ⟨⟨k + 1, rl, _, by omega, by go_num, HN, HM2, FO.out, F6.out, F2.out, FG.out, by simp only [World.setCell, Array.size_modify]; omega⟩, by simp [intOf]; omega⟩
        | false =>
          have HE := Lib.hid (HX.out.2 rfl)
          have E2 := Lib.hid (Blk.set_ D2 0 (.slice qv m.length cv))
          have FO := Lib.hid ((Own.setCell (a := ⟨w.heap.size + 1, 0, none⟩) (HO.out.below hbx.low (Nat.le_refl _)) (by simp only; omega) (.slice qv m.length cv)).mono (by omega : w.heap.size ≤ _))
          have FG := Lib.hid (((HB.out.trans (HG.out.mono (by omega))).trans (hbx.low.mono (by omega))).setCell (p := ⟨w.heap.size + 1, 0, none⟩) (by simp only; omega) (.slice qv m.length cv))
          clear hbx D6 D2 Dn f6 HX HM HO QB H6 H2 HG HK DA c0 c1 c2 c3 c4 hk0
          go_wp2_with fail
          refine bodyPost_ret (results_cell_row_tmp rfl _ _ _ (w.heap.size + 1) 29 #[.slice qv m.length cv] (0, 0) _ _ rfl rfl E2.out Try.underlying29 (by kernel_rfl)) rfl ?_
          rw [HE.out]
          exact ⟨⟨_, _, rfl, rfl, FO.out⟩, FG.out⟩
    · obtain rfl : k = q.length := by omega
      have HE := Lib.hid (reach_end HR.out)
      have c6 := Blk.cell hb6 0
      have d2 := Blk.cell hb2 0
      have f2 := Blk.frozen hb2 0
      simp only [List.getElem?_cons_zero] at c6 d2
      have E2 := Lib.hid (Blk.set_ hb2 0 (.slice qv m.length cv))
      have FO := Lib.hid ((Own.setCell (a := ⟨w.heap.size + 1, 0, none⟩) hown (by simp only; omega) (.slice qv m.length cv)).mono (by omega : w.heap.size ≤ _))
      have FG := Lib.hid ((HB.out.trans (hb.mono (by omega))).setCell (p := ⟨w.heap.size + 1, 0, none⟩) (by simp only; omega) (.slice qv m.length cv))
      clear hown hb6 hb2 hb hsz HR HM
      go_wp2_with fail
      refine bodyPost_ret (results_cell_row_tmp rfl _ _ _ (w.heap.size + 1) 29 #[.slice qv m.length cv] (0, 0) _ _ rfl rfl E2.out Try.underlying29 (by kernel_rfl)) rfl ?_
      rw [HE.out]
      exact ⟨⟨_, _, rfl, rfl, FO.out⟩, FG.out⟩

end Go.Proofs.Ytdecehecjlbbiaa
