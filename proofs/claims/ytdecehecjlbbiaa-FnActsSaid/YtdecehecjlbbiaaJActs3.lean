/-
  The walks of a power failure behind some operations, on both sides.
-/
import Derived.Test.YtdecehecjlbbiaaJActs1
import Derived.Test.YtdecehecjlbbiaaJActs2
namespace Go.Proofs.Ytdecehecjlbbiaa
open Go.RowKit

theorem RdA.take {w : World} {ao : Option Addr} {q : List Ac} (m : Nat) (h : RdA w ao q) : RdA w ao (q.take m) := by
  intro j u hu
  refine h j u ?_
  have e : q = q.take m ++ q.drop m := (List.take_append_drop m q).symm
  rw [e, actC_append, List.getElem?_append_left (List.getElem?_eq_some_iff.1 hu).1]
  exact hu
theorem OwnA.rdc {w : World} {B : Nat} {v : Value} {l : List Ac} (h : OwnA w B v l) : ∃ ao cap, v = .slice ao l.length cap ∧ (RdA w ao l ∧ l.length ≤ cap) := by
  obtain ⟨ao, cap, e, r⟩ := OwnA.rd h
  refine ⟨ao, cap, e, r, ?_⟩
  rcases h with ⟨h0, h1, -⟩ | ⟨g, c, h0, -, r'⟩
  · omega
  · have := r'.le
    rw [h0] at e
    cases e
    exact this

set_option maxHeartbeats 8000000 in
set_option maxRecDepth 100000 in
theorem iCut_any (v : Value) (l : List Fl) (aq : Option Addr) (cq : Nat) (q : List Ac) (n : Int) (ai : Option Addr) (ci : Nat) (z : List Int) (w : World) (hl : FlSmall l) (hq : q.length ≤ 1048576) (hs : ∀ x ∈ q, x.2.2.1.size ≤ 1048576) (h : RdK w v l) (hr : RdA w aq q ∧ q.length ≤ cq) (hi : RdI w ai z) :
    Calls Try.prog 60 #[v, .slice aq q.length cq, .int .i64 n, .slice ai z.length ci] w fun e w' => GivesK2 w.heap.size (cutV l q n z).1 (.bool (cutV l q n z).2) e w' ∧ Below w.heap.size w w' := by
  obtain ⟨ao, cap, rfl, hr0⟩ := h
  obtain ⟨hr, hcap⟩ := hr
  have hz1 := alloc_size w (.cells #[.slice ao l.length cap] 29)
  have hz2 := alloc_size (w.alloc (.cells #[.slice ao l.length cap] 29)) (.cells #[.slice none 0 0] 29)
  have hB := ((Below.refl w.heap.size w).alloc (Nat.le_refl _) (.cells #[.slice ao l.length cap] 29)).alloc (by omega) (.cells #[.slice none 0 0] 29)
  have b1 := (Blk.new w 29 [.slice ao l.length cap] _ rfl).alloc (.cells #[.slice none 0 0] 29)
  have b2 := Blk.new (w.alloc (.cells #[.slice ao l.length cap] 29)) 29 [.slice none 0 0] _ rfl
  rw [hz1] at b2
  have hz : ((w.alloc (.cells #[.slice ao l.length cap] 29)).alloc (.cells #[.slice none 0 0] 29)).heap.size = w.heap.size + 2 := by omega
  have CN := Lib.hid (fun wx => in_any n 0 (q.length : Int) wx)
  by_cases hn : 0 ≤ n ∧ n ≤ (q.length : Int)
  · obtain ⟨m, rfl⟩ := Int.eq_ofNat_of_zero_le hn.1
    have hm : m ≤ q.length := by omega
    have hlen : (q.take m).length = m := by rw [List.length_take]; omega
    have hle := actsV_le l (q.take m)
    rw [hlen] at hle
    have HV : Hid (cutV l q (m : Int) z = if (actsV l (q.take m)).2 = m then loseV (actsV l (q.take m)).1 z else ([], false)) := Lib.hid (by unfold cutV; rw [if_pos hn, Int.toNat_natCast])
    have CA := fun v W h hr => iDoActs_any v l aq cq (q.take m) W hl (by rw [hlen]; omega) (fun x hx => hs x (List.mem_of_mem_take hx)) h hr
    rw [hlen] at CA
    have hsm := actsV_small (q.take m) hl
    obtain ⟨rl, rb, hrv⟩ : ∃ rl rb, actsV l (q.take m) = (rl, rb) := ⟨_, _, rfl⟩
    rw [hrv] at HV hsm hle
    simp only [hrv] at CA
    simp only at HV hsm hle
    have CL := Lib.hid (fun v W h hq => iLose_any v rl ai ci z W hsm.1 hsm.2 h hq)
    have R := Lib.hid (fun W hW => (hr0.below hB (Nat.le_refl _)).below (C := w.heap.size + 2) (w' := W) hW (by rw [hz]; exact Nat.le_refl _))
    have RQ := Lib.hid (fun W hW => (RdA.take m (hr.below hB (Nat.le_refl _))).below (C := w.heap.size + 2) (w' := W) hW (by rw [hz]; exact Nat.le_refl _))
    have RI := Lib.hid (fun W hW => (hi.below hB (Nat.le_refl _)).below (C := w.heap.size + 2) (w' := W) hW (by rw [hz]; exact Nat.le_refl _))
    have DA := Lib.hid CA
    have HB := Lib.hid hB
    have HZ := Lib.hid hz
    have B1 := Lib.hid b1
    have B2 := Lib.hid b2
    have hwn : within (m : Int) 0 (q.length : Int) = true := within_yes hn
    simp only [hwn] at CN
    have i0 : (0 : Int) ≤ (m : Int) := Int.natCast_nonneg _
    have i1 : (m : Int) ≤ (cq : Int) := by omega
    clear hr0 hr hi hz1 hz2 hB hz b1 b2 hs hn hlen CA hrv hsm hwn
    go_enter Try.func60, Try.ntmps60
    go_wp2_with fail
    refine (CN.out _).mono ?_
    rintro e w' ⟨rfl, rfl⟩
    go_wp2_with fail
    generalize (w.alloc (.cells #[.slice ao l.length cap] 29)).alloc (.cells #[.slice none 0 0] 29) = W0 at *
    have HK : Hid (∀ W, Below W0.heap.size W0 W → W.cell? ⟨w.heap.size, 0, none⟩ = some (.slice ao l.length cap)) := Lib.hid fun W hW => (Blk.below B1.out hW B1.out.lt).cell 0
    have hk0 := bDrew0 W0
    have QB : Hid (RdK W0.drew (.agg #[.slice ao l.length cap]) l) := Lib.hid ⟨_, _, rfl, R.out _ (bDrewN (Below.refl _ _) 1)⟩
    have QQ : Hid (RdA W0.drew aq (q.take m)) := Lib.hid (RQ.out _ (bDrewN (Below.refl _ _) 1))
    have c0 := HK.out _ (Below.refl _ _)
    apply region_join (Post := fun q k n w' => BoxedRow W0 w' rl 29 q k n)
    · go_region_held3 (fun W => W.cell? ⟨w.heap.size, 0, none⟩ = some (.slice ao l.length cap))
        (first | exact HK.out _ hk3 | exact HK.out _ (bAlloc0 hk3 _) | exact HK.out _ (bSet0 hk3 (by first | exact Nat.le_refl _ | exact hk3.size) _) | exact HK.out _ hk0 | exact HK.out _ (bAlloc0 hk0 _) | go_keep)
        (first
          | (go_at_call 58; refine (DA.out _ _ ?_ ?_).mono ?_; (first | exact QB.out | exact QB.out.below (bAlloc0 (Below.refl _ _) _) (Nat.le_refl _)); (first | exact QQ.out | exact QQ.out.below (bAlloc0 (Below.refl _ _) _) (Nat.le_refl _)); rintro e wc ⟨⟨vc, uc, rfl, hoc⟩, hbc⟩; have hk3 : Below W0.heap.size W0 wc := (by first | exact bTrans0 hk0 hbc | exact bTrans0 (bAlloc0 hk0 _) hbc); obtain ⟨rfl, hoc⟩ := hoc; obtain ⟨qc, kc, rfl⟩ := Own.shape hoc; first | (have bk := Blk.below (Blk.new_drew W0 29 [.slice none 0 0] _ rfl) hbc (Blk.lt (Blk.new_drew W0 29 [.slice none 0 0] _ rfl)); have y1 := Blk.frozen bk 0; have y0 := Blk.cell bk 0; simp only [List.getElem?_cons_zero] at y0) | skip))
      all_goals
        first
          | (obtain ⟨n, hn⟩ : ∃ n, wc.heap.size = n := ⟨_, rfl⟩; obtain ⟨va, -⟩ : ∃ v : Value, v = v := ⟨.bool true, rfl⟩; refine ⟨rfl, va, qc, kc, n, ?_, ?_⟩; (· rw [hn]); (· rw [← hn]; exact BoxedRow.late hk3 (Own.mono hoc hk0.size) 29))
          | (obtain ⟨n, hn⟩ : ∃ n, W0.heap.size = n := ⟨_, rfl⟩; obtain ⟨va, -⟩ : ∃ v : Value, v = v := ⟨.bool true, rfl⟩; refine ⟨rfl, va, qc, kc, n, ?_, ?_⟩; (· rw [hn]); (· rw [← hn]; exact BoxedRow.early bk (Nat.le_refl _) (by simp) hoc hk3))
    · intro va q4 k4 n w4 hbx
      have hs0 := HZ.out
      have hge := hbx.ge
      have D2 := B2.out.below hbx.low B2.out.lt
      have Dn := hbx.blk
      have G4 := Lib.hid (HB.out.trans (hbx.low.mono (by omega)))
      have Q4 : Hid (RdK w4 (.agg #[.slice q4 rl.length k4]) rl) := Lib.hid (OwnK.rd ⟨rfl, hbx.own⟩)
      have I4 := Lib.hid (RI.out _ (hbx.low.mono (by omega)))
      have hs4 := hbx.low.size
      clear hk0 QB QQ c0 hbx HK
      by_cases he : rb = m
      · subst he
        rw [if_pos rfl] at HV
        have e1 : (((rb : Nat) : Int) != (rb : Int)) = false := by simp
        have e2 : ¬ ((rb : Int) < (rb : Int)) := by omega
        have dn := Blk.cell Dn 0
        simp only [List.getElem?_cons_zero] at dn
        have E2 := Lib.hid D2
        clear Dn D2
        go_wp2_with fail
        refine (CL.out _ w4 Q4.out I4.out).mono ?_
        rintro e w5 ⟨⟨v5, u5, rfl, ho⟩, hb5⟩
        obtain ⟨rfl, ho⟩ := ho
        have D5 := E2.out.below hb5 E2.out.lt
        have d2 := Blk.cell D5 0
        have f2 := Blk.frozen D5 0
        simp only [List.getElem?_cons_zero] at d2
        obtain ⟨q5, k5, rfl⟩ := Own.shape ho
        have F2 := Lib.hid (Blk.set_ D5 0 (.slice q5 (loseV rl z).1.length k5))
        have FO := Lib.hid ((Own.setCell (a := ⟨w.heap.size + 1, 0, none⟩) ho (by simp only; omega) (.slice q5 (loseV rl z).1.length k5)).mono (by omega : w.heap.size ≤ _))
        have FG := Lib.hid ((G4.out.trans (hb5.mono (by omega))).setCell (p := ⟨w.heap.size + 1, 0, none⟩) (by simp only; omega) (.slice q5 (loseV rl z).1.length k5))
        generalize loseV rl z = rv at *
        obtain ⟨r1, r2⟩ := rv
        simp only at d2 f2 F2 FO FG
        clear ho hb5 D5 CL Q4 I4
        go_wp2_with fail
        refine bodyPost_ret (results_cell_row_tmp rfl _ _ _ (w.heap.size + 1) 29 #[.slice q5 r1.length k5] (0, 0) _ _ rfl rfl F2.out Try.underlying29 (by kernel_rfl)) rfl ?_
        rw [HV.out]
        exact ⟨⟨_, _, rfl, rfl, FO.out⟩, FG.out⟩
      · rw [if_neg he] at HV
        have e1 : (((rb : Nat) : Int) != (m : Int)) = true := by rw [bne_iff_ne]; omega
        have e2 : ((rb : Int) < (m : Int)) := by omega
        have d2 := Blk.cell D2 0
        have f2 := Blk.frozen D2 0
        simp only [List.getElem?_cons_zero] at d2
        have F2 := Lib.hid (Blk.set_ D2 0 (.slice none 0 0))
        have FG := Lib.hid (G4.out.setCell (p := ⟨w.heap.size + 1, 0, none⟩) (by simp only; omega) (.slice none 0 0))
        clear D2 Dn Q4 I4 CL
        go_wp2_with fail
        refine bodyPost_ret (results_cell_row_tmp rfl _ _ _ (w.heap.size + 1) 29 #[.slice none 0 0] (0, 0) _ _ rfl rfl F2.out Try.underlying29 (by kernel_rfl)) rfl ?_
        rw [HV.out]
        exact ⟨⟨_, _, rfl, rfl, Own.nil _ _ _⟩, FG.out⟩
  · have hwn : within n 0 (q.length : Int) = false := within_not hn
    simp only [hwn] at CN
    have HV : Hid (cutV l q n z = ([], false)) := Lib.hid (if_neg hn)
    have E2 := Lib.hid b2
    have HF := Lib.hid hB
    clear hr0 hr hi hz1 hz2 hB hz b1 b2 hs hn hwn hl
    go_enter Try.func60, Try.ntmps60
    go_wp2_with fail
    refine (CN.out _).mono ?_
    rintro e w' ⟨rfl, rfl⟩
    go_wp2_with fail
    refine bodyPost_ret (results_cell_row_tmp rfl _ _ _ (w.heap.size + 1) 29 #[.slice none 0 0] (0, 0) _ _ rfl rfl E2.out Try.underlying29 (by kernel_rfl)) rfl ?_
    rw [HV.out]
    exact ⟨⟨_, _, rfl, rfl, Own.nil _ _ _⟩, HF.out⟩

set_option maxHeartbeats 8000000 in
set_option maxRecDepth 100000 in
theorem sCut_any (v : Value) (l : List Fl) (aq : Option Addr) (cq : Nat) (q : List Ac) (n : Int) (ai : Option Addr) (ci : Nat) (z : List Int) (w : World) (hl : FlSmall l) (hq : q.length ≤ 1048576) (hs : ∀ x ∈ q, x.2.2.1.size ≤ 1048576) (h : RdK w v l) (hr : RdA w aq q ∧ q.length ≤ cq) (hi : RdI w ai z) :
    Calls Try.prog 59 #[v, .slice aq q.length cq, .int .i64 n, .slice ai z.length ci] w fun e w' => GivesK2 w.heap.size (cutV l q n z).1 (.bool (cutV l q n z).2) e w' ∧ Below w.heap.size w w' := by
  obtain ⟨ao, cap, rfl, hr0⟩ := h
  obtain ⟨hr, hcap⟩ := hr
  have hz1 := alloc_size w (.cells #[.slice ao l.length cap] 29)
  have hz2 := alloc_size (w.alloc (.cells #[.slice ao l.length cap] 29)) (.cells #[.slice none 0 0] 29)
  have hB := ((Below.refl w.heap.size w).alloc (Nat.le_refl _) (.cells #[.slice ao l.length cap] 29)).alloc (by omega) (.cells #[.slice none 0 0] 29)
  have b1 := (Blk.new w 29 [.slice ao l.length cap] _ rfl).alloc (.cells #[.slice none 0 0] 29)
  have b2 := Blk.new (w.alloc (.cells #[.slice ao l.length cap] 29)) 29 [.slice none 0 0] _ rfl
  rw [hz1] at b2
  have hz : ((w.alloc (.cells #[.slice ao l.length cap] 29)).alloc (.cells #[.slice none 0 0] 29)).heap.size = w.heap.size + 2 := by omega
  have CN := Lib.hid (fun wx => l01In_any n 0 (q.length : Int) wx)
  by_cases hn : 0 ≤ n ∧ n ≤ (q.length : Int)
  · obtain ⟨m, rfl⟩ := Int.eq_ofNat_of_zero_le hn.1
    have hm : m ≤ q.length := by omega
    have hlen : (q.take m).length = m := by rw [List.length_take]; omega
    have hle := actsV_le l (q.take m)
    rw [hlen] at hle
    have HV : Hid (cutV l q (m : Int) z = if (actsV l (q.take m)).2 = m then loseV (actsV l (q.take m)).1 z else ([], false)) := Lib.hid (by unfold cutV; rw [if_pos hn, Int.toNat_natCast])
    have CA := fun v W h hr => sDoActs_any v l aq cq (q.take m) W hl (by rw [hlen]; omega) (fun x hx => hs x (List.mem_of_mem_take hx)) h hr
    rw [hlen] at CA
    have hsm := actsV_small (q.take m) hl
    obtain ⟨rl, rb, hrv⟩ : ∃ rl rb, actsV l (q.take m) = (rl, rb) := ⟨_, _, rfl⟩
    rw [hrv] at HV hsm hle
    simp only [hrv] at CA
    simp only at HV hsm hle
    have CL := Lib.hid (fun v W h hq => sLose_any v rl ai ci z W hsm.1 hsm.2 h hq)
    have R := Lib.hid (fun W hW => (hr0.below hB (Nat.le_refl _)).below (C := w.heap.size + 2) (w' := W) hW (by rw [hz]; exact Nat.le_refl _))
    have RQ := Lib.hid (fun W hW => (RdA.take m (hr.below hB (Nat.le_refl _))).below (C := w.heap.size + 2) (w' := W) hW (by rw [hz]; exact Nat.le_refl _))
    have RI := Lib.hid (fun W hW => (hi.below hB (Nat.le_refl _)).below (C := w.heap.size + 2) (w' := W) hW (by rw [hz]; exact Nat.le_refl _))
    have DA := Lib.hid CA
    have HB := Lib.hid hB
    have HZ := Lib.hid hz
    have B1 := Lib.hid b1
    have B2 := Lib.hid b2
    have hwn : within (m : Int) 0 (q.length : Int) = true := within_yes hn
    simp only [hwn] at CN
    have i0 : (0 : Int) ≤ (m : Int) := Int.natCast_nonneg _
    have i1 : (m : Int) ≤ (cq : Int) := by omega
    clear hr0 hr hi hz1 hz2 hB hz b1 b2 hs hn hlen CA hrv hsm hwn
    go_enter Try.func59, Try.ntmps59
    go_wp2_with fail
    refine (CN.out _).mono ?_
    rintro e w' ⟨rfl, rfl⟩
    go_wp2_with fail
    generalize (w.alloc (.cells #[.slice ao l.length cap] 29)).alloc (.cells #[.slice none 0 0] 29) = W0 at *
    have HK : Hid (∀ W, Below W0.heap.size W0 W → W.cell? ⟨w.heap.size, 0, none⟩ = some (.slice ao l.length cap)) := Lib.hid fun W hW => (Blk.below B1.out hW B1.out.lt).cell 0
    have hk0 := bDrew0 W0
    have QB : Hid (RdK W0.drew (.agg #[.slice ao l.length cap]) l) := Lib.hid ⟨_, _, rfl, R.out _ (bDrewN (Below.refl _ _) 1)⟩
    have QQ : Hid (RdA W0.drew aq (q.take m)) := Lib.hid (RQ.out _ (bDrewN (Below.refl _ _) 1))
    have c0 := HK.out _ (Below.refl _ _)
    apply region_join (Post := fun q k n w' => BoxedRow W0 w' rl 29 q k n)
    · go_region_held3 (fun W => W.cell? ⟨w.heap.size, 0, none⟩ = some (.slice ao l.length cap))
        (first | exact HK.out _ hk3 | exact HK.out _ (bAlloc0 hk3 _) | exact HK.out _ (bSet0 hk3 (by first | exact Nat.le_refl _ | exact hk3.size) _) | exact HK.out _ hk0 | exact HK.out _ (bAlloc0 hk0 _) | go_keep)
        (first
          | (go_at_call 56; refine (DA.out _ _ ?_ ?_).mono ?_; (first | exact QB.out | exact QB.out.below (bAlloc0 (Below.refl _ _) _) (Nat.le_refl _)); (first | exact QQ.out | exact QQ.out.below (bAlloc0 (Below.refl _ _) _) (Nat.le_refl _)); rintro e wc ⟨⟨vc, uc, rfl, hoc⟩, hbc⟩; have hk3 : Below W0.heap.size W0 wc := (by first | exact bTrans0 hk0 hbc | exact bTrans0 (bAlloc0 hk0 _) hbc); obtain ⟨rfl, hoc⟩ := hoc; obtain ⟨qc, kc, rfl⟩ := Own.shape hoc; first | (have bk := Blk.below (Blk.new_drew W0 29 [.slice none 0 0] _ rfl) hbc (Blk.lt (Blk.new_drew W0 29 [.slice none 0 0] _ rfl)); have y1 := Blk.frozen bk 0; have y0 := Blk.cell bk 0; simp only [List.getElem?_cons_zero] at y0) | skip))
      all_goals
        first
          | (obtain ⟨n, hn⟩ : ∃ n, wc.heap.size = n := ⟨_, rfl⟩; obtain ⟨va, -⟩ : ∃ v : Value, v = v := ⟨.bool true, rfl⟩; refine ⟨rfl, va, qc, kc, n, ?_, ?_⟩; (· rw [hn]); (· rw [← hn]; exact BoxedRow.late hk3 (Own.mono hoc hk0.size) 29))
          | (obtain ⟨n, hn⟩ : ∃ n, W0.heap.size = n := ⟨_, rfl⟩; obtain ⟨va, -⟩ : ∃ v : Value, v = v := ⟨.bool true, rfl⟩; refine ⟨rfl, va, qc, kc, n, ?_, ?_⟩; (· rw [hn]); (· rw [← hn]; exact BoxedRow.early bk (Nat.le_refl _) (by simp) hoc hk3))
    · intro va q4 k4 n w4 hbx
      have hs0 := HZ.out
      have hge := hbx.ge
      have D2 := B2.out.below hbx.low B2.out.lt
      have Dn := hbx.blk
      have G4 := Lib.hid (HB.out.trans (hbx.low.mono (by omega)))
      have Q4 : Hid (RdK w4 (.agg #[.slice q4 rl.length k4]) rl) := Lib.hid (OwnK.rd ⟨rfl, hbx.own⟩)
      have I4 := Lib.hid (RI.out _ (hbx.low.mono (by omega)))
      have hs4 := hbx.low.size
      clear hk0 QB QQ c0 hbx HK
      by_cases he : rb = m
      · subst he
        rw [if_pos rfl] at HV
        have e1 : (((rb : Nat) : Int) != (rb : Int)) = false := by simp
        have e2 : ¬ ((rb : Int) < (rb : Int)) := by omega
        have dn := Blk.cell Dn 0
        simp only [List.getElem?_cons_zero] at dn
        have E2 := Lib.hid D2
        clear Dn D2
        go_wp2_with fail
        refine (CL.out _ w4 Q4.out I4.out).mono ?_
        rintro e w5 ⟨⟨v5, u5, rfl, ho⟩, hb5⟩
        obtain ⟨rfl, ho⟩ := ho
        have D5 := E2.out.below hb5 E2.out.lt
        have d2 := Blk.cell D5 0
        have f2 := Blk.frozen D5 0
        simp only [List.getElem?_cons_zero] at d2
        obtain ⟨q5, k5, rfl⟩ := Own.shape ho
        have F2 := Lib.hid (Blk.set_ D5 0 (.slice q5 (loseV rl z).1.length k5))
        have FO := Lib.hid ((Own.setCell (a := ⟨w.heap.size + 1, 0, none⟩) ho (by simp only; omega) (.slice q5 (loseV rl z).1.length k5)).mono (by omega : w.heap.size ≤ _))
        have FG := Lib.hid ((G4.out.trans (hb5.mono (by omega))).setCell (p := ⟨w.heap.size + 1, 0, none⟩) (by simp only; omega) (.slice q5 (loseV rl z).1.length k5))
        generalize loseV rl z = rv at *
        obtain ⟨r1, r2⟩ := rv
        simp only at d2 f2 F2 FO FG
        clear ho hb5 D5 CL Q4 I4
        go_wp2_with fail
        refine bodyPost_ret (results_cell_row_tmp rfl _ _ _ (w.heap.size + 1) 29 #[.slice q5 r1.length k5] (0, 0) _ _ rfl rfl F2.out Try.underlying29 (by kernel_rfl)) rfl ?_
        rw [HV.out]
        exact ⟨⟨_, _, rfl, rfl, FO.out⟩, FG.out⟩
      · rw [if_neg he] at HV
        have e1 : (((rb : Nat) : Int) != (m : Int)) = true := by rw [bne_iff_ne]; omega
        have e2 : ((rb : Int) < (m : Int)) := by omega
        have d2 := Blk.cell D2 0
        have f2 := Blk.frozen D2 0
        simp only [List.getElem?_cons_zero] at d2
        have F2 := Lib.hid (Blk.set_ D2 0 (.slice none 0 0))
        have FG := Lib.hid (G4.out.setCell (p := ⟨w.heap.size + 1, 0, none⟩) (by simp only; omega) (.slice none 0 0))
        clear D2 Dn Q4 I4 CL
        go_wp2_with fail
        refine bodyPost_ret (results_cell_row_tmp rfl _ _ _ (w.heap.size + 1) 29 #[.slice none 0 0] (0, 0) _ _ rfl rfl F2.out Try.underlying29 (by kernel_rfl)) rfl ?_
        rw [HV.out]
        exact ⟨⟨_, _, rfl, rfl, Own.nil _ _ _⟩, FG.out⟩
  · have hwn : within n 0 (q.length : Int) = false := within_not hn
    simp only [hwn] at CN
    have HV : Hid (cutV l q n z = ([], false)) := Lib.hid (if_neg hn)
    have E2 := Lib.hid b2
    have HF := Lib.hid hB
    clear hr0 hr hi hz1 hz2 hB hz b1 b2 hs hn hwn hl
    go_enter Try.func59, Try.ntmps59
    go_wp2_with fail
    refine (CN.out _).mono ?_
    rintro e w' ⟨rfl, rfl⟩
    go_wp2_with fail
    refine bodyPost_ret (results_cell_row_tmp rfl _ _ _ (w.heap.size + 1) 29 #[.slice none 0 0] (0, 0) _ _ rfl rfl E2.out Try.underlying29 (by kernel_rfl)) rfl ?_
    rw [HV.out]
    exact ⟨⟨_, _, rfl, rfl, Own.nil _ _ _⟩, HF.out⟩

end Go.Proofs.Ytdecehecjlbbiaa
