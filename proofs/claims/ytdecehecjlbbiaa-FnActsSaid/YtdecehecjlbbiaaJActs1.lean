/-
  The walks of operations one by one, the program's side.
-/
import Derived.Test.YtdecehecjlbbiaaJDoiM
import Derived.Test.YtdecehecjlbbiaaBase4
namespace Go.Proofs.Ytdecehecjlbbiaa
open Go.RowKit

set_option maxHeartbeats 4000000 in
set_option maxRecDepth 100000 in
theorem iDoActs_any (v : Value) (l : List Fl) (aq : Option Addr) (cq : Nat) (q : List Ac) (w : World) (hl : FlSmall l) (hq : q.length ≤ 1048576) (hs : ∀ x ∈ q, x.2.2.1.size ≤ 1048576) (h : RdK w v l) (hr : RdA w aq q) :
    Calls Try.prog 58 #[v, .slice aq q.length cq] w fun e w' => GivesK2 w.heap.size (actsV l q).1 (.int .i64 (actsV l q).2) e w' ∧ Below w.heap.size w w' := by
  obtain ⟨ao, cap, rfl, hr0⟩ := h
  have hz1 := alloc_size w (.cells #[.slice ao l.length cap] 29)
  have hz2 := alloc_size (w.alloc (.cells #[.slice ao l.length cap] 29)) (.cells #[.slice none 0 0] 29)
  have hB := ((Below.refl w.heap.size w).alloc (Nat.le_refl _) (.cells #[.slice ao l.length cap] 29)).alloc (by omega) (.cells #[.slice none 0 0] 29)
  have b1 := (Blk.new w 29 [.slice ao l.length cap] _ rfl).alloc (.cells #[.slice none 0 0] 29)
  have b2 := Blk.new (w.alloc (.cells #[.slice ao l.length cap] 29)) 29 [.slice none 0 0] _ rfl
  rw [hz1] at b2
  have hz : ((w.alloc (.cells #[.slice ao l.length cap] 29)).alloc (.cells #[.slice none 0 0] 29)).heap.size = w.heap.size + 2 := by omega
  have CC := Lib.hid (iCopy_any (.agg #[.slice ao l.length cap]) l ((w.alloc (.cells #[.slice ao l.length cap] 29)).alloc (.cells #[.slice none 0 0] 29)) hl.1 ⟨ao, cap, rfl, hr0.below hB (Nat.le_refl _)⟩)
  have RQ := Lib.hid (fun W hW => (hr.below hB (Nat.le_refl _)).below (C := w.heap.size + 2) (w' := W) hW (by rw [hz]; exact Nat.le_refl _))
  have HB := Lib.hid hB
  have HZ := Lib.hid hz
  have B2 := Lib.hid b2
  have HS := Lib.hid hs
  have HL := Lib.hid hl
  clear hr hr0 hz1 hz2 hB hz b1 b2 hs hl
  go_enter Try.func58, Try.ntmps58
  go_wp2_with fail
  generalize (w.alloc (.cells #[.slice ao l.length cap] 29)).alloc (.cells #[.slice none 0 0] 29) = W0 at *
  refine CC.out.mono ?_
  rintro e w2 ⟨⟨v2, u2, rfl, ho⟩, hb2⟩
  obtain ⟨rfl, ho⟩ := ho
  rw [HZ.out] at hb2 ho
  have hs2 : w.heap.size + 2 ≤ w2.heap.size := by have := hb2.size; rw [HZ.out] at this; exact this
  have hbx := (Below.refl w2.heap.size w2).alloc (Nat.le_refl _) (.cells #[u2] 29)
  have h6 := Blk.new w2 29 [u2] _ rfl
  have h2 := (B2.out.below hb2 (by omega)).alloc (.cells #[u2] 29)
  have ho2 : Own (w2.alloc (.cells #[u2] 29)) (w.heap.size + 2) 3 u2 l.length (fileC l) := Own.alloc ho _
  have hG : Below (w.heap.size + 2) W0 (w2.alloc (.cells #[u2] 29)) := hb2.trans (hbx.mono hs2)
  have hsz : w2.heap.size + 1 ≤ (w2.alloc (.cells #[u2] 29)).heap.size := by rw [alloc_size]; exact Nat.le_refl _
  obtain ⟨q2, k2, rfl⟩ := Own.shape ho
  clear ho hb2 hbx CC
  go_wp2_with fail
  generalize w2.alloc (.cells #[.slice q2 l.length k2] 29) = W1 at *
  go_loopw [15] (fun i wr => ∃ (k : Nat) (m : List Fl) (u : Value), k ≤ q.length ∧ i = .int .i64 k ∧ Hid (Reach l q k m) ∧ Hid (FlSmall m) ∧ Own wr (w.heap.size + 2) 3 u m.length (fileC m) ∧ Blk wr w2.heap.size 29 [u] ∧ Blk wr (w.heap.size + 1) 29 [.slice none 0 0] ∧ Below (w.heap.size + 2) W0 wr ∧ w2.heap.size + 1 ≤ wr.heap.size) (fun i _ => q.length - (intOf i).toNat)
  case atStart => exact ⟨0, l, _, Nat.zero_le _, rfl, Lib.hid (reach_zero l q), HL, ho2, h6, h2, hG, hsz⟩
  case round =>
    clear ho2 h6 h2 hG hsz
    obtain ⟨k, m, u, hk, rfl, HR, HM, hown, hb6, hb2, hb, hsz⟩ := hrel
    obtain ⟨qv, cv, rfl⟩ := Own.shape hown
    by_cases hlt : k < q.length
    · obtain ⟨a, ha⟩ : ∃ a, q[k]? = some a := ⟨_, List.getElem?_eq_getElem hlt⟩
      obtain ⟨b, o, rfl, p0, p1, p2, p3⟩ := (RQ.out _ hb).at_ k a ha
      have CA := fun v W h => iDoAct_any v m a W HM.out.1 HM.out.2 (HS.out a (List.mem_of_getElem? ha)) h
      have E6 := fun cs => Blk.alloc hb6 (.cells cs 67)
      have c6 := fun cs => Blk.cell (E6 cs) 0
      simp only [List.getElem?_cons_zero] at c6
      have HO := Lib.hid (fun cs => Own.alloc hown (.cells cs 67))
      have H6 := Lib.hid E6
      have H2 := Lib.hid (fun cs => Blk.alloc hb2 (.cells cs 67))
      have HG := Lib.hid (fun cs => hb.trans (((Below.refl wr.heap.size wr).alloc (Nat.le_refl _) (.cells cs 67)).mono (by omega)))
      have HSZ : Hid (∀ cs, w2.heap.size + 1 ≤ (wr.alloc (.cells cs 67)).heap.size) := Lib.hid (fun cs => by rw [alloc_size]; omega)
      clear hown hb6 hb2 hb hsz E6
      by_cases hv : (doV m a).2 = true
      · have HN := Lib.hid (reach_next HR.out ha hv)
        have HM2 := Lib.hid (doV_small hv)
        simp only [hv] at CA
        clear hv HR HM
        generalize (doV m a).1 = m' at *
        obtain ⟨ak, an, at_, ad⟩ := a
        simp only at CA p0 p1 p2 p3
        have DA := Lib.hid CA
        clear ha CA
        go_wp2_with fail
        refine (DA.out _ _ (OwnK.rd ⟨rfl, HO.out _⟩)).mono ?_
        rintro e w4 ⟨⟨v4, u4, rfl, ho⟩, hb4⟩
        obtain ⟨rfl, ho⟩ := ho
        have hs4 := HSZ.out #[.int .i64 ak, .string an, .string at_, .string ad]
        have hs5 := hb4.size
        obtain ⟨q4, k4, rfl⟩ := Own.shape ho
        have D6 := (Blk.below (H6.out _) hb4 (Blk.lt (H6.out _))).alloc (.cells #[.slice q4 m'.length k4] 29)
        have d6 := Blk.cell D6 0
        have f6 := Blk.frozen D6 0
        simp only [List.getElem?_cons_zero] at d6
        have F6 := Lib.hid (Blk.set_ D6 0 (.slice q4 m'.length k4))
        have F2 := Lib.hid (((Blk.below (H2.out _) hb4 (Blk.lt (H2.out _))).alloc (.cells #[.slice q4 m'.length k4] 29)).far (p := ⟨w2.heap.size, 0, none⟩) (by simp only; omega) (.slice q4 m'.length k4))
        have FO := Lib.hid ((Own.setCell (a := ⟨w2.heap.size, 0, none⟩) (Own.alloc ho (.cells #[.slice q4 m'.length k4] 29)) (by simp only; omega) (.slice q4 m'.length k4)).mono (by omega : w.heap.size + 2 ≤ _))
        have FG := Lib.hid ((((HG.out _).trans (hb4.mono (by omega))).alloc (by omega) (.cells #[.slice q4 m'.length k4] 29)).setCell (p := ⟨w2.heap.size, 0, none⟩) (by simp only; omega) (.slice q4 m'.length k4))
        clear D6 ho hb4 HO H6 H2 HG c6
        go_wp2_with fail
        exact ⟨⟨k + 1, m', _, by omega, by go_num, HN, HM2, FO.out, F6.out, F2.out, FG.out, by simp only [World.setCell, Array.size_modify]; rw [alloc_size]; omega⟩, by simp [intOf]; omega⟩
      · replace hv : (doV m a).2 = false := by simpa using hv
        have HE := Lib.hid (reach_fail HR.out ha hv)
        simp only [hv] at CA
        clear hv HR HM
        generalize (doV m a).1 = m' at *
        obtain ⟨ak, an, at_, ad⟩ := a
        simp only at CA p0 p1 p2 p3
        have DA := Lib.hid CA
        clear ha CA
        go_wp2_with fail
        refine (DA.out _ _ (OwnK.rd ⟨rfl, HO.out _⟩)).mono ?_
        rintro e w4 ⟨⟨v4, u4, rfl, ho⟩, hb4⟩
        obtain ⟨rfl, ho⟩ := ho
        have hs4 := HSZ.out #[.int .i64 ak, .string an, .string at_, .string ad]
        have hs5 := hb4.size
        have D6 := (Blk.below (H6.out _) hb4 (Blk.lt (H6.out _))).alloc (.cells #[u4] 29)
        have D2 := (Blk.below (H2.out _) hb4 (Blk.lt (H2.out _))).alloc (.cells #[u4] 29)
        have d6 := Blk.cell D6 0
        have d2 := Blk.cell D2 0
        have f2 := Blk.frozen D2 0
        simp only [List.getElem?_cons_zero] at d6 d2
        obtain ⟨q4, k4, rfl⟩ := Own.shape ho
        have E2 := Lib.hid (Blk.set_ D2 0 (.slice qv m.length cv))
        have FO := Lib.hid ((Own.setCell (a := ⟨w.heap.size + 1, 0, none⟩) (Own.alloc ((HO.out _).below hb4 (Nat.le_refl _)) (.cells #[.slice q4 m'.length k4] 29)) (by simp only; omega) (.slice qv m.length cv)).mono (by omega : w.heap.size ≤ _))
        have FG := Lib.hid (((HB.out.trans ((HG.out _).mono (by omega))).trans (hb4.mono (by omega))).alloc (by omega) (.cells #[.slice q4 m'.length k4] 29) |>.setCell (p := ⟨w.heap.size + 1, 0, none⟩) (by simp only; omega) (.slice qv m.length cv))
        clear D6 D2 ho hb4 HO H6 H2 HG c6
        go_wp2_with fail
        refine bodyPost_ret (results_cell_row_tmp rfl _ _ _ (w.heap.size + 1) 29 #[.slice qv m.length cv] (0, 0) _ _ rfl rfl E2.out Try.underlying29 (by kernel_rfl)) rfl ?_
        rw [HE.out]
        exact ⟨⟨_, _, rfl, rfl, FO.out⟩, FG.out⟩
    · obtain rfl : k = q.length := by omega
      have HE := Lib.hid (reach_end HR.out)
      have c6 := Blk.cell hb6 0
      have d2 := Blk.cell hb2 0
      have f2 := Blk.frozen hb2 0
      simp only [List.getElem?_cons_zero] at c6 d2
      have E2 := Lib.hid (Blk.set_ hb2 0 (.slice qv m.length cv))
      have FO := Lib.hid ((Own.setCell (a := ⟨w.heap.size + 1, 0, none⟩) hown (by simp only; omega) (.slice qv m.length cv)).mono (by omega : w.heap.size ≤ _))
      have FG := Lib.hid ((HB.out.trans (hb.mono (by omega))).setCell (p := ⟨w.heap.size + 1, 0, none⟩) (by simp only; omega) (.slice qv m.length cv))
      clear hown hb6 hb2 hb hsz HR HM
      go_wp2_with fail
      refine bodyPost_ret (results_cell_row_tmp rfl _ _ _ (w.heap.size + 1) 29 #[.slice qv m.length cv] (0, 0) _ _ rfl rfl E2.out Try.underlying29 (by kernel_rfl)) rfl ?_
      rw [HE.out]
      exact ⟨⟨_, _, rfl, rfl, FO.out⟩, FG.out⟩

end Go.Proofs.Ytdecehecjlbbiaa
