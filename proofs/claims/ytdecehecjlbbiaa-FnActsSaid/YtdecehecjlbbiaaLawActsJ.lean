/-
  For every draw of at most 2^20 bytes (a longer one is passed by) operations done in a row, one by one, and cut answer as the reference does; an added file's text is the old one and the added bytes, a dropped file is gone: 'FnActs' returns true. No conditions.
-/
import Derived.Test.YtdecehecjlbbiaaJFrameB
import Derived.Test.YtdecehecjlbbiaaJActD4
import Derived.Test.YtdecehecjlbbiaaJPuActL
import Derived.Test.YtdecehecjlbbiaaJActs3
import Derived.Test.YtdecehecjlbbiaaJKeep2
namespace Go.Proofs.Ytdecehecjlbbiaa.fnActs
open Go.ChangeShapes Go.WideShapes Go.ChangeAt Go.RowKit
open Go.ChangeMaps (open_string shut_string)
set_option linter.unusedVariables false

theorem boxedK {w : World} {u : Value} {l : List Fl} (T : TypeId) (h : RdK w (.agg #[u]) l) : ∀ W, Below (w.heap.size + 1) (w.alloc (.cells #[u] T)) W → RdK W (.agg #[u]) l ∧ W.cell? ⟨w.heap.size, 0, none⟩ = some u := by
  intro W hW
  have hz := alloc_size w (.cells #[u] T)
  exact ⟨(h.below ((Below.refl w.heap.size w).alloc (Nat.le_refl _) (.cells #[u] T)) (Nat.le_refl _)).below hW (by omega), ((Blk.new w T [u] _ rfl).below hW (by omega)).cell 0⟩

set_option maxHeartbeats 8000000 in
set_option maxRecDepth 100000 in
theorem walk (a0 : Option Addr) (len0 cap0 : Nat) (z0 : List Int) (w : World) (w0 : IsRow .u8 w a0 len0 cap0 z0) :
    Calls Try.prog 14 #[.slice a0 len0 cap0] w fun e w' => e = .returned (.bool true) ∧ Below w.heap.size w w' := by
  obtain ⟨hmax, hB⟩ := bytes_of_row w0
  unfold maxLen at hmax
  clear w0
  by_cases hs : len0 ≤ 1048576
  · have C := Lib.hid (drawCutActs_any a0 cap0 len0 w hs hB)
    clear hB hmax
    go_enter Try.func14, Try.ntmps14
    go_wp2_with (go_at_call 31; refine (big_no _ _ _ _ hs).mono ?_; rintro e w' ⟨rfl, rfl⟩)
    refine C.out.mono ?_
    rintro e w1 ⟨⟨l, q, x, z, vd, vq, vz, rfl, hl, ⟨ad, cd, rfl, hrd⟩, hoq, hq9, hqs, hoz⟩, hb1⟩
    obtain ⟨aq, cq, rfl, hrq, hcq⟩ := OwnA.rdc hoq
    obtain ⟨az, cz, rfl, hrz⟩ := OwnI.rd hoz
    have hz2 := alloc_size w1 (.cells #[.slice ad l.length cd] 29)
    have hbx := (Below.refl w1.heap.size w1).alloc (Nat.le_refl _) (.cells #[.slice ad l.length cd] 29)
    have BD := Blk.new w1 29 [.slice ad l.length cd] _ rfl
    have RR : Hid (∀ W, Below (w1.heap.size + 1) (w1.alloc (.cells #[.slice ad l.length cd] 29)) W → RdK W (.agg #[.slice ad l.length cd]) l ∧ (RdA W aq q ∧ q.length ≤ cq) ∧ RdI W az z ∧ W.cell? ⟨w1.heap.size, 0, none⟩ = some (.slice ad l.length cd)) :=
      Lib.hid fun W hW => ⟨⟨ad, cd, rfl, (hrd.below hbx (Nat.le_refl _)).below hW (by omega)⟩, ⟨RdC.below (RdC.below hrq hbx (Nat.le_refl _)) hW (by omega), hcq⟩, (hrz.below hbx (Nat.le_refl _)).below hW (by omega), (BD.below hW (by omega)).cell 0⟩
    have HB1 := Lib.hid (hb1.alloc hb1.size (.cells #[.slice ad l.length cd] 29))
    have HL := Lib.hid hl
    have HQS := Lib.hid (show ∀ x ∈ q, x.2.2.1.size ≤ 1048576 from fun x hx => by have := (hqs x hx).2.1; omega)
    have hs1 := hb1.size
    clear hb1 hrd hoq hrq hcq hoz hrz BD hbx C hl hqs
    obtain ⟨nl, nk, hav⟩ : ∃ nl nk, actsV l q = (nl, nk) := ⟨_, _, rfl⟩
    have SM : Hid (nl.length ≤ 1048576 ∧ nk ≤ q.length) := Lib.hid ⟨by have := (actsV_small q HL.out).1; rw [hav] at this; exact this, by have := actsV_le l q; rw [hav] at this; exact this⟩
    have CI := fun W h hr => iDoActs_any (.agg #[.slice ad l.length cd]) l aq cq q W HL.out (by omega) HQS.out h hr
    have CS := fun W h hr => sDoActs_any (.agg #[.slice ad l.length cd]) l aq cq q W HL.out (by omega) HQS.out h hr
    rw [hav] at CI CS
    simp only at CI CS
    have DI := Lib.hid CI
    have DS := Lib.hid CS
    have HAV := Lib.hid hav
    clear CI CS hav
    go_wp2_with fail
    obtain ⟨w2, hw2⟩ : ∃ w2, w1.alloc (.cells #[.slice ad l.length cd] 29) = w2 := ⟨_, rfl⟩
    rw [hw2] at RR HB1 hz2
    have hb2 := Below.refl (w1.heap.size + 1) w2
    try rw [hw2]
    obtain ⟨r1, r2, r3, r4⟩ := RR.out w2 hb2
    refine (DI.out w2 r1 r2.1).mono ?_
    rintro e w3 ⟨⟨v3, u3, rfl, ho3⟩, hb3⟩
    obtain ⟨rfl, ho3⟩ := ho3
    obtain ⟨q3, k3, rfl⟩ := Own.shape ho3
    have hs3 := hb3.size
    have RN := Lib.hid (boxedK 29 (OwnK.rd ⟨rfl, ho3⟩ : RdK w3 (.agg #[.slice q3 nl.length k3]) nl))
    have hz4 := alloc_size w3 (.cells #[.slice q3 nl.length k3] 29)
    have HB4 := Lib.hid ((hb3.mono (by omega : w1.heap.size + 1 ≤ _)).alloc (by omega) (.cells #[.slice q3 nl.length k3] 29))
    have hr4 := (RR.out _ HB4.out).2.2.2
    clear ho3 hb3 r1 r2 r3 r4 hb2
    go_wp2_with fail
    clear hr4
    obtain ⟨w4, hw4⟩ : ∃ w4, w3.alloc (.cells #[.slice q3 nl.length k3] 29) = w4 := ⟨_, rfl⟩
    rw [hw4] at RN HB4 hz4
    try rw [hw4]
    refine (DS.out w4 (RR.out w4 HB4.out).1 (RR.out w4 HB4.out).2.1.1).mono ?_
    rintro e w5 ⟨⟨v5, u5, rfl, ho5⟩, hb5⟩
    obtain ⟨rfl, ho5⟩ := ho5
    obtain ⟨q5, k5, rfl⟩ := Own.shape ho5
    have hs5 := hb5.size
    have RM := Lib.hid (boxedK 29 (OwnK.rd ⟨rfl, ho5⟩ : RdK w5 (.agg #[.slice q5 nl.length k5]) nl))
    have hz6 := alloc_size w5 (.cells #[.slice q5 nl.length k5] 29)
    have hb46 := (hb5.mono (by omega : w3.heap.size + 1 ≤ _)).alloc (by omega) (.cells #[.slice q5 nl.length k5] 29)
    have HB6 := Lib.hid (HB4.out.trans (hb46.mono (by omega)))
    obtain ⟨g1, g2⟩ := RN.out _ hb46
    obtain ⟨m1, m2⟩ := RM.out _ (Below.refl _ _)
    have hne : ((nk : Int) != (nk : Int)) = false := by simp
    have SD := Lib.hid (sameDisk_any _ _ nl _ SM.out.1 g1 m1)
    have HB46 := Lib.hid hb46
    clear ho5 hb5 g1 m1 hb46
    go_wp2_with fail
    refine SD.out.mono ?_
    rintro e w7 ⟨rfl, hb7⟩
    have hs7 := hb7.size
    have HB7 := Lib.hid (HB6.out.trans (hb7.mono (by omega)))
    have r7 := (RR.out _ HB7.out).2.2.2
    clear g2 m2
    go_wp2_with fail
    obtain ⟨ob, hob⟩ : ∃ ob, w7.heap.size = ob := ⟨_, rfl⟩
    have hb8 := (Below.refl w7.heap.size w7).alloc (Nat.le_refl _) (.cells #[.slice ad l.length cd] 29)
    have bx := Blk.new w7 29 [.slice ad l.length cd] _ rfl
    have hz8 := alloc_size w7 (.cells #[.slice ad l.length cd] 29)
    have hr8 := (RR.out _ (HB7.out.trans (hb8.mono (by omega)))).1
    rw [hob] at bx hb8 hz8
    try rw [hob]
    obtain ⟨w8, hw8⟩ : ∃ w8, w7.alloc (.cells #[.slice ad l.length cd] 29) = w8 := ⟨_, rfl⟩
    rw [hw8] at bx hb8 hz8 hr8
    try rw [hw8]
    have HB78 := Lib.hid hb8
    go_loopw [12] (fun i wr => ∃ (k : Nat) (m : List Fl) (u : Value), k ≤ nk ∧ i = .int .i64 k ∧ Hid (Reach l q k m) ∧ Hid (FlSmall m) ∧ RdK wr (.agg #[u]) m ∧ Blk wr ob 29 [u] ∧ Below ob w7 wr ∧ ob + 1 ≤ wr.heap.size) (fun i _ => nk - (intOf i).toNat)
    case atStart => exact ⟨0, l, _, Nat.zero_le _, rfl, Lib.hid (reach_zero l q), HL, hr8, bx, hb8, by omega⟩
    case round =>
      clear hr8 bx hb8
      obtain ⟨k, m, u, hk, rfl, HR, HM, hrd, hbx, hb, hsz⟩ := hrel
      obtain ⟨qv, cv, hu, hrdF⟩ := hrd
      injection hu with hu
      have hu : u = .slice qv m.length cv := by simpa using hu
      by_cases hlt : k < nk
      · obtain ⟨a, ha⟩ : ∃ a, q[k]? = some a := ⟨_, List.getElem?_eq_getElem (by have := SM.out.2; omega)⟩
        subst hu
        have HBW := Lib.hid (HB7.out.trans (hb.mono (by omega)))
        obtain ⟨b, o, rfl, p0, p1, p2, p3⟩ := (RR.out wr HBW.out).2.1.1.at_ k a ha
        have hbl := World.block_lt_of_cell? _ _ p0
        simp only at hbl
        have i0 : (0 : Int) ≤ (k : Int) := Int.natCast_nonneg _
        have i1 : (k : Int) < (q.length : Int) := by have := SM.out.2; omega
        have hv := reach_more HR.out ha (by rw [HAV.out]; exact hlt)
        have HADD := Lib.hid (doV_add hv)
        have HDROP := Lib.hid (doV_drop hv)
        have HN := Lib.hid (reach_next HR.out ha hv)
        have HM2 := Lib.hid (doV_small hv)
        have CA := fun v W h => iDoAct_any v m a W HM.out.1 HM.out.2 (HQS.out a (List.mem_of_getElem? ha)) h
        simp only [hv] at CA
        generalize (doV m a).1 = rl at *
        have HK : Hid (∀ W, Below wr.heap.size wr W → W.cell? ⟨ob, 0, none⟩ = some (.slice qv m.length cv) ∧ W.cell? ⟨b, o + k * 4, none⟩ = some (.int .i64 a.1) ∧ W.cell? ⟨b, o + k * 4 + 1, none⟩ = some (.string a.2.1) ∧ W.cell? ⟨b, o + k * 4 + 2, none⟩ = some (.string a.2.2.1) ∧ W.cell? ⟨b, o + k * 4 + 3, none⟩ = some (.string a.2.2.2)) :=
          Lib.hid fun W hW => ⟨(Blk.below hbx hW hbx.lt).cell 0, (hW.cell (p := ⟨b, o + k * 4, none⟩) hbl).trans p0, (hW.cell (p := ⟨b, o + k * 4 + 1, none⟩) hbl).trans p1, (hW.cell (p := ⟨b, o + k * 4 + 2, none⟩) hbl).trans p2, (hW.cell (p := ⟨b, o + k * 4 + 3, none⟩) hbl).trans p3⟩
        clear hv p0 p1 p2 p3 HR
        have HA := Lib.hid ha
        obtain ⟨ak, an, at_, ad2⟩ := a
        simp only at CA HK HADD HDROP
        have DA := Lib.hid CA
        clear CA ha
        have hk0 := bDrew0 wr
        have QB := Lib.hid (show RdK wr.drew (.agg #[.slice qv m.length cv]) m from ⟨qv, cv, rfl, RdF.below hrdF hk0 (Nat.le_refl _)⟩)
        have H6 := Lib.hid hbx
        have HG := Lib.hid hb
        clear hbx hb
        obtain ⟨c0, c1, c2, c3, c4⟩ := HK.out _ (Below.refl _ _)
        go_wp2_with fail
        apply region_join (Post := fun q k n w' => BoxedRow wr w' rl 29 q k n)
        · go_region_held3 (fun W => W.cell? ⟨ob, 0, none⟩ = some (.slice qv m.length cv) ∧ W.cell? ⟨b, o + k * 4, none⟩ = some (.int .i64 ak) ∧ W.cell? ⟨b, o + k * 4 + 1, none⟩ = some (.string an) ∧ W.cell? ⟨b, o + k * 4 + 2, none⟩ = some (.string at_) ∧ W.cell? ⟨b, o + k * 4 + 3, none⟩ = some (.string ad2))
            (first | exact HK.out _ hk3 | exact HK.out _ (bAlloc0 hk3 _) | exact HK.out _ (bSet0 hk3 (by first | exact Nat.le_refl _ | exact hk3.size) _) | exact HK.out _ hk0 | exact HK.out _ (bAlloc0 hk0 _) | go_keep)
            (first
              | (go_at_call 54; refine (DA.out _ _ ?_).mono ?_; (first | exact QB.out | exact QB.out.below (bAlloc0 (Below.refl _ _) _) (Nat.le_refl _)); rintro e wc ⟨⟨vc, uc, rfl, hoc⟩, hbc⟩; have hk3 : Below wr.heap.size wr wc := (by first | exact bTrans0 hk0 hbc | exact bTrans0 (bAlloc0 hk0 _) hbc); obtain ⟨rfl, hoc⟩ := hoc; obtain ⟨qc, kc, rfl⟩ := Own.shape hoc; first | (have bk := Blk.below (Blk.new_drew wr 29 [.slice none 0 0] _ rfl) hbc (Blk.lt (Blk.new_drew wr 29 [.slice none 0 0] _ rfl)); have y1 := Blk.frozen bk 0; have y0 := Blk.cell bk 0; simp only [List.getElem?_cons_zero] at y0) | skip))
          all_goals
            first
              | (obtain ⟨n, hn⟩ : ∃ n, wc.heap.size = n := ⟨_, rfl⟩; obtain ⟨va, -⟩ : ∃ v : Value, v = v := ⟨.bool true, rfl⟩; refine ⟨rfl, va, qc, kc, n, ?_, ?_⟩; (· rw [hn]); (· rw [← hn]; exact BoxedRow.late hk3 (Own.mono hoc hk0.size) 29))
              | (obtain ⟨n, hn⟩ : ∃ n, wr.heap.size = n := ⟨_, rfl⟩; obtain ⟨va, -⟩ : ∃ v : Value, v = v := ⟨.bool true, rfl⟩; refine ⟨rfl, va, qc, kc, n, ?_, ?_⟩; (· rw [hn]); (· rw [← hn]; exact BoxedRow.early bk (Nat.le_refl _) (by simp) hoc hk3))
        · intro va q4 k4 nb wx hbx
          have hnob : nb ≠ ob := by have := hbx.ge; omega
          have RDn : RdK wx (.agg #[.slice q4 rl.length k4]) rl := OwnK.rd ⟨rfl, hbx.own⟩
          have RDo : RdK wx (.agg #[.slice qv m.length cv]) m := ⟨qv, cv, rfl, RdF.below hrdF hbx.low (Nat.le_refl _)⟩
          clear c0 c1 c2 c3 c4
          obtain ⟨c0, -, c2, -, -⟩ := HK.out _ hbx.low
          have FA1 := Lib.hid (fun d os => iFileAt_any _ m an _ HM.out.1 (RDo.below (below_regrown wx d os) (Nat.le_refl _)))
          have HBX := Lib.hid hbx
          have RDN := Lib.hid RDn
          clear hbx RDn RDo hrdF QB DA
          obtain ⟨tx, hx1, htx⟩ : ∃ tx hx1, textV m an = (tx, hx1) := ⟨_, _, rfl⟩
          simp only [htx] at FA1 HADD
          go_wp2_with fail
          refine wp_region_quiet_below Try.checked.mixed (by kernel_rfl) ?_
          have r0 := cell_regrown c0
          have r2 := cell_regrown c2
          repeat (any_goals (first
            | go_big_quiet_step ((go_at_call 21; exact Calls.regrown_of (FA1.out _ _)))
            | quiet_step ((go_at_call 21; exact Calls.regrown_of (FA1.out _ _)))))
          refine wpQuiet_nil ?_
          intro wy hwy
          have hb_wy : Below wx.heap.size wx wy := by obtain ⟨⟨dq, osq⟩, hw''⟩ := hwy; rw [hw'']; exact below_regrown wx dq osq
          have hbL := HBX.out.low.trans (hb_wy.mono HBX.out.low.size)
          have BN := HBX.out.blk.below hb_wy HBX.out.blk.lt
          have dn := BN.cell 0
          simp only [List.getElem?_cons_zero] at dn
          clear c0 c2 r0 r2
          obtain ⟨-, -, c2, -, -⟩ := HK.out _ hbL
          have sml := HM2.out.1
          have FA2 := Lib.hid (fun d os => iFileAt_any _ rl an _ sml ((RDN.out.below hb_wy (Nat.le_refl _)).below (below_regrown wy d os) (Nat.le_refl _)))
          obtain ⟨ty, hy1, hty⟩ : ∃ ty hy1, textV rl an = (ty, hy1) := ⟨_, _, rfl⟩
          simp only [hty] at FA2 HADD HDROP
          have HBL := Lib.hid hbL
          have BNN := Lib.hid BN
          have HBY := Lib.hid hb_wy
          clear hbL BN hb_wy hwy FA1
          go_wp2_with fail
          refine wp_region_quiet_below Try.checked.mixed (by kernel_rfl) ?_
          have r0 := cell_regrown dn
          have r2 := cell_regrown c2
          repeat (any_goals (first
            | go_big_quiet_step ((go_at_call 21; exact Calls.regrown_of (FA2.out _ _)))
            | quiet_step ((go_at_call 21; exact Calls.regrown_of (FA2.out _ _)))))
          refine wpQuiet_nil ?_
          intro wz hwz
          have hb_wz : Below wy.heap.size wy wz := by obtain ⟨⟨dq, osq⟩, hw''⟩ := hwz; rw [hw'']; exact below_regrown wy dq osq
          have hbZ := HBL.out.trans (hb_wz.mono HBL.out.size)
          have BO := H6.out.below hbZ H6.out.lt
          have BZ := BNN.out.below hb_wz BNN.out.lt
          have e0 := BO.cell 0
          have f0 := Blk.frozen BO 0
          have en := BZ.cell 0
          simp only [List.getElem?_cons_zero] at e0 en
          have OWZ := (HBX.out.own.below HBY.out (Nat.le_refl _)).below hb_wz (Nat.le_refl _)
          have FRD := Lib.hid (OwnK.rd ⟨rfl, Own.setCell (a := ⟨ob, 0, none⟩) OWZ (by simp only; omega) (.slice q4 rl.length k4)⟩ : RdK _ (.agg #[.slice q4 rl.length k4]) rl)
          have FBO := Lib.hid (BO.set_ 0 (.slice q4 rl.length k4))
          have FBB := Lib.hid ((HG.out.trans (hbZ.mono (by omega))).setCell (p := ⟨ob, 0, none⟩) (Nat.le_refl _) (.slice q4 rl.length k4))
          have FSZ := Lib.hid (show ob + 1 ≤ (wz.setCell ⟨ob, 0, none⟩ (.slice q4 rl.length k4)).heap.size by have := hbZ.size; simp only [World.setCell, Array.size_modify]; omega)
          clear c2 dn r0 r2
          obtain ⟨-, c1, -, c3, -⟩ := HK.out _ hbZ
          have hatz := HQS.out _ (List.mem_of_getElem? HA.out)
          simp only at hatz
          have htz : tx.size ≤ 1048576 := by
            have h1 : (textV m an).1 = tx := by rw [htx]
            rw [← h1]
            cases hp : posF m an with
            | none => rw [textV_none hp]; exact Nat.zero_le _
            | some kk =>
              obtain ⟨x', hx', -⟩ := posF_some hp
              rw [textV_some hp hx']
              exact (HM.out.2 _ (List.mem_of_getElem? hx')).2
          clear hbZ BO BZ OWZ hb_wz hwz FA2 HBX RDN HBL BNN HBY H6 HG htx hty
          by_cases hk1 : ak = 1
          · have HE := HADD.out hk1
            subst hk1
            injection HE with e1 e2
            subst e1; subst e2
            have hcat : ¬ (9223372036854775807 < tx.size + at_.size) := by omega
            have hbne : ((tx ++ at_).toList != (tx ++ at_).toList) = false := by simp
            go_wp2_with fail
            exact ⟨⟨k + 1, rl, _, by omega, by go_num, HN, HM2, FRD.out, FBO.out, FBB.out, by have := FSZ.out; omega⟩, by simp [intOf]; omega⟩
          by_cases hk4 : ak = 4
          · have HE := HDROP.out hk4
            subst hk4
            subst HE
            go_wp2_with fail
            exact ⟨⟨k + 1, rl, _, by omega, by go_num, HN, HM2, FRD.out, FBO.out, FBB.out, by have := FSZ.out; omega⟩, by simp [intOf]; omega⟩
          · have e1 : (ak == 1) = false := by rw [beq_eq_false_iff_ne]; exact hk1
            have e4 : (ak == 4) = false := by rw [beq_eq_false_iff_ne]; exact hk4
            go_wp2_with fail
            exact ⟨⟨k + 1, rl, _, by omega, by go_num, HN, HM2, FRD.out, FBO.out, FBB.out, by have := FSZ.out; omega⟩, by simp [intOf]; omega⟩
      · obtain rfl : k = nk := by omega
        subst hu
        have hm : m = nl := by
          have := reach_last (show Reach l q (actsV l q).2 m by rw [HAV.out]; exact HR.out)
          rw [HAV.out] at this
          exact this
        subst hm
        have HBW := Lib.hid (HB7.out.trans (hb.mono (by omega : w1.heap.size + 1 ≤ _)))
        have RDm : RdK wr (.agg #[.slice qv m.length cv]) m := ⟨qv, cv, rfl, hrdF⟩
        have HRM := Lib.hid (RDm)
        have H6 := Lib.hid hbx
        have HG := Lib.hid hb
        obtain ⟨r1, r2, r3, r4⟩ := RR.out wr HBW.out
        obtain ⟨cl, cb, hcv⟩ : ∃ cl cb, cutV l q x z = (cl, cb) := ⟨_, _, rfl⟩
        have hcl := cutV_len l q x z HL.out
        have CI := fun W h1 h2 h3 => iCut_any (.agg #[.slice ad l.length cd]) l aq cq q x az cz z W HL.out (by omega) HQS.out h1 h2 h3
        have CS := fun W h1 h2 h3 => sCut_any (.agg #[.slice ad l.length cd]) l aq cq q x az cz z W HL.out (by omega) HQS.out h1 h2 h3
        simp only [hcv] at CI CS hcl
        have DCI := Lib.hid CI
        have DCS := Lib.hid CS
        have hsr := hb.size
        clear CI CS hcv hrdF hb hbx RDm HR HM
        go_wp2_with fail
        refine (DCI.out wr r1 r2 r3).mono ?_
        rintro e w9 ⟨⟨v9, u9, rfl, ho9⟩, hb9⟩
        obtain ⟨rfl, ho9⟩ := ho9
        obtain ⟨q9, k9, rfl⟩ := Own.shape ho9
        have hs9 := hb9.size
        have RC := Lib.hid (boxedK 29 (OwnK.rd ⟨rfl, ho9⟩ : RdK w9 (.agg #[.slice q9 cl.length k9]) cl))
        have hz10 := alloc_size w9 (.cells #[.slice q9 cl.length k9] 29)
        have HBa := Lib.hid (hb9.alloc hs9 (.cells #[.slice q9 cl.length k9] 29))
        have HR10 := Lib.hid (RR.out _ (HBW.out.trans (HBa.out.mono (by omega))))
        have r10 := HR10.out.2.2.2
        clear ho9 hb9 r1 r2 r3 r4
        go_wp2_with fail
        refine (DCS.out _ HR10.out.1 HR10.out.2.1 HR10.out.2.2.1).mono ?_
        rintro e w11 ⟨⟨v11, u11, rfl, ho11⟩, hb11⟩
        obtain ⟨rfl, ho11⟩ := ho11
        obtain ⟨q11, k11, rfl⟩ := Own.shape ho11
        have hs11 := hb11.size
        have RE := Lib.hid (boxedK 29 (OwnK.rd ⟨rfl, ho11⟩ : RdK w11 (.agg #[.slice q11 cl.length k11]) cl))
        have hz12 := alloc_size w11 (.cells #[.slice q11 cl.length k11] 29)
        have HBb := Lib.hid (hb11.alloc hs11 (.cells #[.slice q11 cl.length k11] 29))
        obtain ⟨y1, y2⟩ := RC.out _ (HBb.out.mono (by omega))
        obtain ⟨x1, x2⟩ := RE.out _ (Below.refl _ _)
        have SD := Lib.hid (sameDisk_any _ _ cl _ hcl y1 x1)
        have HBc := Lib.hid (HBa.out.trans (HBb.out.mono (by omega)))
        have hcc : (cb == cb) = true := beq_self_eq_true _
        clear ho11 hb11 y1 x1 r10
        go_wp2_with fail
        refine SD.out.mono ?_
        rintro e w13 ⟨rfl, hb13⟩
        have hs13 := hb13.size
        have HBd := Lib.hid (HBc.out.trans (hb13.mono (by omega)))
        have HBe := HBW.out.trans (HBd.out.mono (by omega))
        have B6 := H6.out.below HBd.out H6.out.lt
        have e6 := B6.cell 0
        simp only [List.getElem?_cons_zero] at e6
        obtain ⟨n1, n2⟩ := RN.out _ ((HB46.out.trans (hb7.mono (by omega))).trans ((HG.out.trans (HBd.out.mono (by omega))).mono (by omega)))
        have SD2 := Lib.hid (sameDisk_any _ _ m _ SM.out.1 (HRM.out.below HBd.out (Nat.le_refl _)) n1)
        have FB := Lib.hid (HB1.out.trans (HBe.mono (by omega)))
        clear y2 x2 n1 HBe B6
        by_cases hk0 : k = 0
        · subst hk0
          go_wp2_with fail
          go_ret
          exact ⟨rfl, FB.out⟩
        · have hkz : ((k : Int) == 0) = false := by rw [beq_eq_false_iff_ne]; omega
          go_wp2_with fail
          refine SD2.out.mono ?_
          rintro e w14 ⟨rfl, hb14⟩
          have FB2 := Lib.hid (FB.out.trans (hb14.mono FB.out.size))
          go_wp2_with fail
          go_ret
          exact ⟨rfl, FB2.out⟩
  · clear hB
    go_enter Try.func14, Try.ntmps14
    go_wp2_with (go_at_call 31; refine (big_yes _ _ _ _ (by omega) (by omega)).mono ?_; rintro e w' ⟨rfl, rfl⟩)
    go_ret
    exact ⟨rfl, Below.refl _ _⟩

theorem own : ownKnob Try.prog.godebug = none := by kernel_rfl
theorem laidOut : laidOutB Try.prog = true := by kernel_rfl

set_option maxRecDepth 100000 in
theorem lifted (os : Os) (started : os.Started) (H : Type) (enc : TypeId × Value → H) :
    ReturnsInHanded {} Try.checked os 14 .any (Rows.fnActsSpec.pre6 enc Try.prog Try.f14 Rows.fnActsRow.domain false) (Rows.fnActsSpec.post enc Try.prog Try.f14 false true false false) := by
  refine returnsInHanded_of_change (C := Try.checked) own started (by kernel_rfl) Try.func14
    (ChangeSpec.witness6 (enc := enc) (C := Try.checked) false ⟨#[], #[.slice none 0 0], []⟩ 8 (by kernel_rfl) (by kernel_rfl) (by kernel_rfl) (by kernel_rfl)) ?_
  intro W base args ds gs before hval0 hW hcnd _
  have hval : ∀ (j : Nat) t v, Try.f14.params[j]? = some t → args[j]? = some v → Value.okWide Try.prog W .any base t v := hval0
  have hW' := hW
  obtain ⟨p, q, hA0, hV, rfl, hfz, hnd⟩ := hW
  have hA : DataW.TrodAll enc Try.prog W 0 (fun _ => true) true Try.f14.params.toList args.toList ds p := hA0
  rw [Try.params14] at hA hval
  obtain ⟨v0, vs0, d0, ds0, p0, q0, hargs, rfl, rfl, h0, r0⟩ := trodAll_cons hA
  obtain ⟨rfl, rfl, rfl⟩ := trodAll_nil r0
  obtain rfl : args = #[v0] := by cases args; simp_all
  obtain ⟨rfl, rfl⟩ := trodVars_none hV
  have k0 := h0
  have lt0 : ∀ x ∈ p0, x.block < W.heap.size := by obtain ⟨m, hm⟩ := k0; exact DataW.trod_lt m _ _ _ hm
  obtain ⟨a0, len0, cap0, rfl⟩ := okWide_slice Try.underlying44 (hval 0 44 v0 rfl rfl)
  obtain ⟨z0, w0⟩ := isRow_of Try.underlying44 Try.underlying5 (by kernel_rfl) h0
  clear hA0 hval0
  refine (walk a0 len0 cap0 z0 W w0).mono fun e W' ⟨he, bel⟩ => ?_
  subst he
  exact ⟨_, rfl, _, _, _, [], _, [], hW', trodAll_mk1 (shut_bool Try.underlying4 _), (trodAll_cons_mk (Below.trod laidOut (by kernel_rfl) (of_decide_eq_true (by kernel_rfl)) k0 bel lt0) trodAll_mk0), rfl, bel.frame _, fun h => by cases h⟩

theorem over : Rows.fnActsRow.holds Try.pinned (OpenSpec.ofChange Rows.fnActsSpec) :=
  OpenClaim.holds_of_wide 14 Try.f14 rfl rfl rfl rfl rfl rfl rfl ⟨rfl, rfl, rfl, rfl, rfl⟩ rfl rfl rfl rfl rfl (by kernel_rfl) Try.func14 (by kernel_rfl)
    (of_decide_eq_true (by kernel_rfl)) (by unfold Func.isWrapper; first | (rw [if_pos (by decide +kernel)]; kernel_rfl) | (rw [if_neg (by decide +kernel)]; exact ⟨rfl, rfl⟩))
    (fun os started H enc _ => lifted os started H enc)

/-- The statement. -/
theorem proved : Rows.FnActsSaid :=
  over
#print axioms proved

end Go.Proofs.Ytdecehecjlbbiaa.fnActs
