/-
  The walks of what the law on other texts looks for: a clash, and twins.
-/
import Derived.Test.YtcehbmlibfalaaaDoorBase7
import Derived.Test.YtcehbmlibfalaaaDoorJSig7
namespace Go.Proofs.YtcehbmlibfalaaaDoor
open Go.RowKit

set_option maxHeartbeats 2000000 in
theorem clash_any (a1 a2 : Option Addr) (c1 c2 : Nat) (l1 l2 : List ByteArray) (w : World) (hl : l1.length ≤ 100) (z1 : ∀ x ∈ l1, x.size ≤ 1048576) (z2 : ∀ x ∈ l2, x.size ≤ 1048576) (h1 : RdS w a1 l1) (h2 : RdS w a2 l2) :
    Calls Tryd.prog 44 #[.slice a1 l1.length c1, .slice a2 l2.length c2, .int .i64 16] w fun e w' => e = .returned (.bool (clashV l1 l2)) ∧ Below w.heap.size w w' := by
  have H1 := Lib.hid h1
  have H2 := Lib.hid h2
  have Z1 := Lib.hid z1
  have Z2 := Lib.hid z2
  clear h1 h2 z1 z2
  by_cases hlen : l1.length = l2.length
  · have e1 : ((l1.length : Int) != l2.length) = false := by rw [bne_eq_false_iff_eq]; omega
    have HV : Hid (clashV l1 l2 = clashTo l1 l2 l1.length) := Lib.hid (if_pos hlen)
    generalize clashV l1 l2 = V at *
    have Hlen := Lib.hid hlen
    clear hlen
    go_enter Tryd.func44, Tryd.ntmps44
    go_wp2_with fail
    go_loopw [7] (fun i wr => ∃ k : Nat, k ≤ l1.length ∧ i = .int .i64 ((k : Int) - 1) ∧ Hid (V = clashTo l1 l2 k) ∧ Below w.heap.size w wr) (fun i _ => (intOf i + 1).toNat)
    case atStart => exact ⟨l1.length, Nat.le_refl _, rfl, HV, Below.refl _ _⟩
    case round =>
      obtain ⟨k, hk, rfl, H, hb⟩ := hrel
      have hbs := hb.size
      cases k with
      | zero =>
        have HF : Hid (V = false) := Lib.hid H.out
        go_wp2_with fail
        go_ret
        exact ⟨by rw [HF.out]; rfl, hb⟩
      | succ m =>
        have hm : m < l1.length := by omega
        obtain ⟨x, hx⟩ : ∃ x, l1[m]? = some x := ⟨_, List.getElem?_eq_getElem hm⟩
        obtain ⟨y, hy⟩ : ∃ y, l2[m]? = some y := ⟨_, List.getElem?_eq_getElem (by rw [← Hlen.out]; exact hm)⟩
        obtain ⟨b1, o1, rfl, hc1⟩ := (RdS.below H1.out hb (Nat.le_refl _)) m x hx
        obtain ⟨b2, o2, rfl, hc2⟩ := (RdS.below H2.out hb (Nat.le_refl _)) m y hy
        have hm2 : m < l2.length := by rw [← Hlen.out]; exact hm
        have e0 : ((m + 1 : Nat) : Int) - 1 = (m : Int) := by omega
        rw [e0]
        have hstep : V = if x = y then clashTo l1 l2 m else decide (cutT x = cutT y) := by
          rw [H.out, clashTo, List.getD_eq_getElem?_getD, List.getD_eq_getElem?_getD, hx, hy]; rfl
        have zx := Z1.out x (List.mem_of_getElem? hx)
        have zy := Z2.out y (List.mem_of_getElem? hy)
        have CX := Lib.hid (fun wx => sCutDigest_any x zx 16 wx)
        have CY := Lib.hid (fun wx => sCutDigest_any y zy 16 wx)
        clear hx hy H zx zy
        by_cases hxy : x = y
        · have e2 : (x.toList == y.toList) = true := by rw [hxy]; exact beq_self_eq_true _
          have HN : Hid (V = clashTo l1 l2 m) := Lib.hid (by rw [hstep, if_pos hxy])
          clear hxy hstep CX CY
          go_wp2_with fail
          go_quiet (fail)
          go_wp2_with fail
          exact ⟨⟨m, by omega, by go_num, HN, bDrewN hb _⟩, by simp [intOf]⟩
        · have e2 : (x.toList == y.toList) = false := by rw [same_bytes]; simp; exact fun h => hxy (ByteArray.ext h)
          have HN : Hid (V = decide (cutT x = cutT y)) := Lib.hid (by rw [hstep, if_neg hxy])
          have e3 : ((cutT x).toList == (cutT y).toList) = decide (cutT x = cutT y) := same_dec _ _
          rw [show txt (cutL x.data.toList 16) = cutT x from rfl] at CX
          rw [show txt (cutL y.data.toList 16) = cutT y from rfl] at CY
          rw [← HN.out] at e3
          generalize cutT x = cx at *
          generalize cutT y = cy at *
          have hc1' := fun n => (World.cell?_drewN wr n _).trans hc1
          have hc2' := fun n => (World.cell?_drewN wr n _).trans hc2
          clear hxy hstep HN
          go_wp2_with fail
          go_quiet (fail)
          have hcw := fun d os => cell_regrown (hc1' nq) d os
          have hcv := fun d os => cell_regrown (hc2' nq) d os
          have hb2 := bDrewN hb nq
          generalize wr.drewN nq = wq at *
          go_wp2_with fail
          refine wp_region_quiet_below Tryd.checked.mixed (by kernel_rfl) ?_
          repeat (any_goals (first
            | go_big_quiet_step ((go_at_call 66; first | with_reducible exact Calls.regrown_of (CX.out _) | with_reducible exact Calls.regrown_of (CY.out _)))
            | quiet_step ((go_at_call 66; first | with_reducible exact Calls.regrown_of (CX.out _) | with_reducible exact Calls.regrown_of (CY.out _)))))
          refine wpQuiet_nil ?_
          intro w2 hw'
          have hbw : Below wq.heap.size wq w2 := by obtain ⟨⟨dq, osq⟩, hw''⟩ := hw'; rw [hw'']; exact below_regrown wq dq osq
          have hbb := hb2.trans (hbw.mono hb2.size)
          clear hw' hbw hcw hcv hc1' hc2'
          go_wp2_with fail
          go_ret
          exact ⟨rfl, hbb⟩
  · have e1 : ((l1.length : Int) != l2.length) = true := by rw [bne_iff_ne]; omega
    have HV : Hid (clashV l1 l2 = false) := Lib.hid (if_neg hlen)
    clear hlen
    go_enter Tryd.func44, Tryd.ntmps44
    go_wp2_with fail
    go_ret
    exact ⟨by rw [HV.out]; rfl, Below.refl _ _⟩

set_option maxHeartbeats 4000000 in
theorem twins_any (x y : ByteArray) (hx : x.size ≤ 1048576) (hy : y.size ≤ 1048576) (v : Value) (p : Int) (o s d : List ByteArray) (w : World) (ho : WideL o 8) (hs : WideL s 8) (h : RdSig w v p o s d) :
    Calls Tryd.prog 45 #[v, .string x, .string y] w fun e w' => (∃ r, e = .returned (.bool r) ∧ (r = false → ∀ j, j < 8 → ¬ twinAt x y o s j)) ∧ Below w.heap.size w w' := by
  obtain ⟨a1, c1, a2, c2, a3, c3, rfl, r1, r2, r3⟩ := h
  have hz := alloc_size w (.cells #[.int .i64 p, .slice a1 o.length c1, .slice a2 s.length c2, .slice a3 d.length c3] 46)
  have hB := (Below.refl w.heap.size w).alloc (Nat.le_refl _) (.cells #[.int .i64 p, .slice a1 o.length c1, .slice a2 s.length c2, .slice a3 d.length c3] 46)
  have b1 := Blk.new w 46 [.int .i64 p, .slice a1 o.length c1, .slice a2 s.length c2, .slice a3 d.length c3] _ rfl
  have R1 := Lib.hid (fun W (hW : Below w.heap.size w W) => r1.below hW (Nat.le_refl _))
  have R2 := Lib.hid (fun W (hW : Below w.heap.size w W) => r2.below hW (Nat.le_refl _))
  have C1 := Lib.hid (fun wx => sSignBitsOf_any x hx wx)
  have C2 := Lib.hid (fun wx => sSignBitsOf_any y hy wx)
  have HB := Lib.hid hB
  have HK := Lib.hid b1
  obtain ⟨ol, oz⟩ := ho
  obtain ⟨sl, sz⟩ := hs
  have OZ : Hid (∀ k, k < 8 → ∃ z, o[k]? = some z ∧ z.size = 16) := Lib.hid fun k hk => ⟨_, List.getElem?_eq_getElem (by omega), oz _ (List.getElem_mem _)⟩
  have SZ : Hid (∀ k, k < 8 → ∃ z, s[k]? = some z ∧ z.size = 16) := Lib.hid fun k hk => ⟨_, List.getElem?_eq_getElem (by omega), sz _ (List.getElem_mem _)⟩
  have TW : Hid (∀ j z u, o[j]? = some z → s[j]? = some u → (twinAt x y o s j ↔ bitOf (signB x : Nat) (j : Nat) ≠ bitOf (signB y : Nat) (j : Nat) ∧ txt (lockL z) = u)) := Lib.hid fun j z u h1 h2 => by
    unfold twinAt
    rw [List.getD_eq_getElem?_getD, List.getD_eq_getElem?_getD, h1, h2]; rfl
  generalize signB x = bx at *
  generalize signB y = bb at *
  clear oz sz r1 r2 r3 hB b1 hx hy
  generalize o.length = n1 at *
  generalize s.length = n2 at *
  subst ol sl
  go_enter Tryd.func45, Tryd.ntmps45
  go_wp2_with fail
  generalize w.alloc (.cells #[.int .i64 p, .slice a1 8 c1, .slice a2 8 c2, .slice a3 d.length c3] 46) = W0 at *
  refine (C1.out _).mono ?_
  rintro e w1 ⟨rfl, hb1⟩
  have K1 := Lib.hid (HK.out.below hb1 HK.out.lt)
  have HB1 := Lib.hid (HB.out.trans (hb1.mono HB.out.size))
  clear hb1 C1 HK HB hz
  go_wp2_with fail
  refine (C2.out _).mono ?_
  rintro e w2 ⟨rfl, hb2⟩
  have K2 := Lib.hid (K1.out.below hb2 K1.out.lt)
  have HB2 := Lib.hid (HB1.out.trans (hb2.mono HB1.out.size))
  clear hb2 C2 K1 HB1
  go_wp2_with fail
  go_loopw [9] (fun i wr => ∃ k : Nat, k ≤ 8 ∧ i = .int .i64 k ∧ Hid (∀ j, j < k → ¬ twinAt x y o s j) ∧ Hid (Blk wr w.heap.size 46 [.int .i64 p, .slice a1 8 c1, .slice a2 8 c2, .slice a3 d.length c3]) ∧ Below w.heap.size w wr) (fun i _ => 8 - (intOf i).toNat)
  case atStart => exact ⟨0, Nat.zero_le _, rfl, Lib.hid (fun j hj => by omega), K2, HB2.out⟩
  case round =>
    clear K2 HB2
    obtain ⟨k, hk, rfl, HN, HK, hb⟩ := hrel
    have hbs := hb.size
    by_cases hlt : k < 8
    · have e1 := Blk.cell HK.out 1
      have e2 := Blk.cell HK.out 2
      simp only [List.getElem?_cons_zero, List.getElem?_cons_succ] at e1 e2
      obtain ⟨z, hz, hzz⟩ := OZ.out k hlt
      obtain ⟨u, hu, huz⟩ := SZ.out k hlt
      have hT := TW.out k z u hz hu
      obtain ⟨b1, f1, rfl, hc1⟩ := (R1.out _ hb) k z hz
      obtain ⟨b2, f2, rfl, hc2⟩ := (R2.out _ hb) k u hu
      have CL := Lib.hid (fun wx => sLockOf_any z (by omega) wx)
      have CA := Lib.hid (fun wx => (sBitOf_any (bx : Nat) (k : Nat) wx).mono fun e w' h => (⟨h.1, by rw [← h.2]; exact Below.refl _ _⟩ : e = .returned (.int .i64 (bitOf (bx : Nat) (k : Nat))) ∧ Below wx.heap.size wx w'))
      have CB := Lib.hid (fun wx => (sBitOf_any (bb : Nat) (k : Nat) wx).mono fun e w' h => (⟨h.1, by rw [← h.2]; exact Below.refl _ _⟩ : e = .returned (.int .i64 (bitOf (bb : Nat) (k : Nat))) ∧ Below wx.heap.size wx w'))
      have i0 : (0 : Int) ≤ (k : Int) := Int.natCast_nonneg _
      have i1 : (k : Int) < 8 := by omega
      clear hz hu hzz huz
      generalize bitOf (bx : Nat) (k : Nat) = q1 at *
      generalize bitOf (bb : Nat) (k : Nat) = q2 at *
      generalize txt (lockL z) = lz at *
      have HT := Lib.hid hT
      clear hT
      have HSTEP : Hid (¬ twinAt x y o s k → ∀ j, j < k + 1 → ¬ twinAt x y o s j) := Lib.hid fun hn j hj => by
        by_cases e : j = k
        · subst e; exact hn
        · exact HN.out j (by omega)
      by_cases hq : q1 = q2
      · have e3 : (q1 != q2) = false := bne_eq_false_iff_eq.2 hq
        have HN2 := Lib.hid (HSTEP.out (fun h => (HT.out.1 h).1 hq))
        clear hq
        go_wp2_with fail
        clear e1 e2 hc1 hc2
        refine wp_region_quiet_below Tryd.checked.mixed (by kernel_rfl) ?_
        repeat (any_goals (first
          | go_big_quiet_step ((first | (go_at_call 68; first | with_reducible exact Calls.regrown_of (CA.out _) | with_reducible exact Calls.regrown_of (CB.out _)) | (go_at_call 48; with_reducible exact Calls.regrown_of (CL.out _))))
          | quiet_step ((first | (go_at_call 68; first | with_reducible exact Calls.regrown_of (CA.out _) | with_reducible exact Calls.regrown_of (CB.out _)) | (go_at_call 48; with_reducible exact Calls.regrown_of (CL.out _))))))
        refine wpQuiet_nil ?_
        intro w3 hw'
        have hb3 : Below wr.heap.size wr w3 := by obtain ⟨⟨dq, osq⟩, hw''⟩ := hw'; rw [hw'']; exact below_regrown wr dq osq
        have hbb := hb.trans (hb3.mono hbs)
        have HK2 := Lib.hid (HK.out.below hb3 HK.out.lt)
        clear hb3 hw'
        go_wp2_with fail
        exact ⟨⟨k + 1, by omega, by go_num, HN2, HK2, hbb⟩, by simp [intOf]; omega⟩
      · have e3 : (q1 != q2) = true := bne_iff_ne.2 hq
        have e4 : (lz.toList == u.toList) = decide (lz = u) := same_dec _ _
        have r1 := cell_regrown e1
        have r2 := cell_regrown e2
        have r3 := cell_regrown hc1
        have r4 := cell_regrown hc2
        by_cases hl : lz = u
        · rw [decide_eq_true hl] at e4
          have HW : Hid (twinAt x y o s k) := Lib.hid (HT.out.2 ⟨hq, hl⟩)
          clear hq hl
          go_wp2_with fail
          refine wp_region_quiet_below Tryd.checked.mixed (by kernel_rfl) ?_
          repeat (any_goals (first
            | go_big_quiet_step ((first | (go_at_call 68; first | with_reducible exact Calls.regrown_of (CA.out _) | with_reducible exact Calls.regrown_of (CB.out _)) | (go_at_call 48; with_reducible exact Calls.regrown_of (CL.out _))))
            | quiet_step ((first | (go_at_call 68; first | with_reducible exact Calls.regrown_of (CA.out _) | with_reducible exact Calls.regrown_of (CB.out _)) | (go_at_call 48; with_reducible exact Calls.regrown_of (CL.out _))))))
          refine wpQuiet_nil ?_
          intro w3 hw'
          have hb3 : Below wr.heap.size wr w3 := by obtain ⟨⟨dq, osq⟩, hw''⟩ := hw'; rw [hw'']; exact below_regrown wr dq osq
          have hbb := hb.trans (hb3.mono hbs)
          clear hb3 hw' r1 r2 r3 r4
          go_wp2_with fail
          go_ret
          exact ⟨⟨_, rfl, fun h => by cases h⟩, hbb⟩
        · rw [decide_eq_false hl] at e4
          have HN2 := Lib.hid (HSTEP.out (fun h => hl (HT.out.1 h).2))
          clear hq hl
          go_wp2_with fail
          refine wp_region_quiet_below Tryd.checked.mixed (by kernel_rfl) ?_
          repeat (any_goals (first
            | go_big_quiet_step ((first | (go_at_call 68; first | with_reducible exact Calls.regrown_of (CA.out _) | with_reducible exact Calls.regrown_of (CB.out _)) | (go_at_call 48; with_reducible exact Calls.regrown_of (CL.out _))))
            | quiet_step ((first | (go_at_call 68; first | with_reducible exact Calls.regrown_of (CA.out _) | with_reducible exact Calls.regrown_of (CB.out _)) | (go_at_call 48; with_reducible exact Calls.regrown_of (CL.out _))))))
          refine wpQuiet_nil ?_
          intro w3 hw'
          have hb3 : Below wr.heap.size wr w3 := by obtain ⟨⟨dq, osq⟩, hw''⟩ := hw'; rw [hw'']; exact below_regrown wr dq osq
          have hbb := hb.trans (hb3.mono hbs)
          have HK2 := Lib.hid (HK.out.below hb3 HK.out.lt)
          clear hb3 hw' r1 r2 r3 r4
          go_wp2_with fail
          exact ⟨⟨k + 1, by omega, by go_num, HN2, HK2, hbb⟩, by simp [intOf]; omega⟩
    · obtain rfl : k = 8 := by omega
      go_wp2_with fail
      go_ret
      exact ⟨⟨_, rfl, fun _ j hj => HN.out j hj⟩, hb⟩

end Go.Proofs.YtcehbmlibfalaaaDoor
