/-
  The walk of the compression function, the reference's.
-/
import Derived.Test.YtcehbmlibfalaaaDoorJSha1
import Derived.Test.YtcehbmlibfalaaaDoorBase7
import Derived.Test.YtcehbmlibfalaaaDoorBase6
namespace Go.Proofs.YtcehbmlibfalaaaDoor
open Go.RowKit

theorem Tryd.built64 : Tryd.prog.built 91 [] = some z64 := by kernel_rfl
theorem Tryd.info64 : (Tryd.prog.info? 91).map (fun i => (i.zero, i.size)) = some (some (.agg z64), z64.size) := by kernel_rfl

theorem Tryd.info8 {a b c d e f g h : Nat} : (Tryd.prog.info? 87).map (·.size) = some (natC (W8.toL ⟨a, b, c, d, e, f, g, h⟩)).toArray.size := by
  show (Tryd.prog.info? 87).map (·.size) = some 8
  kernel_rfl
set_option maxHeartbeats 1000000 in
set_option maxRecDepth 100000 in
theorem l03Block_raw (a0 a1 a2 a3 a4 a5 a6 a7 : Nat) (hs : (⟨a0, a1, a2, a3, a4, a5, a6, a7⟩ : W8).Ok) (K : Array Value) (q : Nat → Nat) (hK : ∀ i, i < 64 → K[i]? = some (.int .u32 (q i : Nat))) (hq : ∀ i, q i < 4294967296) (b : ByteArray) (hb : b.size = 64) (w : World) :
    Calls Tryd.prog 88 #[.agg #[.int .u32 a0, .int .u32 a1, .int .u32 a2, .int .u32 a3, .int .u32 a4, .int .u32 a5, .int .u32 a6, .int .u32 a7], .string b, .agg K] w fun e w' => e = .returned (.agg (natC (addW ⟨a0, a1, a2, a3, a4, a5, a6, a7⟩ (rndF (wd b.data.toList) q ⟨a0, a1, a2, a3, a4, a5, a6, a7⟩ 64)).toL).toArray) ∧ Below w.heap.size w w' := by
  have Hb := Lib.hid hb
  have HK := Lib.hid hK
  have Hq := Lib.hid hq
  have Hs := Lib.hid hs
  clear hb hK hq hs
  obtain ⟨f, hf0, hlo, hhi, hft⟩ := wd_fun b.data.toList
  have Hf := Lib.hid hf0
  have Hlo := Lib.hid hlo
  have Hhi := Lib.hid hhi
  have Hft := Lib.hid hft
  clear hf0 hlo hhi hft
  go_enter Tryd.func88, Tryd.ntmps88
  go_upto_region 1 with fail
  refine wp_region_lit ?_
  refine wpList_zero_arr 91 z64 Tryd.built64 Tryd.info64 z64_one rfl rfl rfl (.tmp 7) (.tmp 21) rfl rfl rfl rfl _ (w.heap.size + 3) (by simp) rfl rfl ?_
  go_upto_region 2 with fail
  refine wp_four ?_
  intro W k0 k1 k2 k3 hbW hsW
  simp only [z64, List.toList_toArray] at k0 k1 k2 k3
  generalize hn : w.heap.size = n at *
  go_wp2_with fail
  have hz : z64L.length = 64 := z64L_length
  have Hz := Lib.hid hz
  clear hz
  go_loopw [8] (fun i wr => ∃ (k : Nat) (cs : List Value), k ≤ 16 ∧ i = .int .i64 k ∧ Hid (cs.length = 64 ∧ ∀ j, j < k → cs[j]? = some (.int .u32 (f j : Nat))) ∧ Blk wr (n + 3) 91 cs ∧ Below (n + 3) W wr) (fun i _ => 16 - (intOf i).toNat)
  case atStart => exact ⟨0, _, Nat.zero_le _, rfl, ⟨Hz.out, fun j hj => by omega⟩, k3, Below.refl _ _⟩
  case round =>
    obtain ⟨k, cs, hk, rfl, HC, kw, hb⟩ := hrel
    by_cases hlt : k < 16
    · have q0 := fun wx => idx_byt (P := Tryd.prog) Tryd.underlying9 b (4 * (k : Int)) (4 * k) (by omega) (by rw [Hb.out]; omega) wx
      have q1 := fun wx => idx_byt (P := Tryd.prog) Tryd.underlying9 b (4 * (k : Int) + 1) (4 * k + 1) (by omega) (by rw [Hb.out]; omega) wx
      have q2 := fun wx => idx_byt (P := Tryd.prog) Tryd.underlying9 b (4 * (k : Int) + 2) (4 * k + 2) (by omega) (by rw [Hb.out]; omega) wx
      have q3 := fun wx => idx_byt (P := Tryd.prog) Tryd.underlying9 b (4 * (k : Int) + 3) (4 * k + 3) (by omega) (by rw [Hb.out]; omega) wx
      have b0 := byt_lt b.data.toList (4 * k)
      have b1 := byt_lt b.data.toList (4 * k + 1)
      have b2 := byt_lt b.data.toList (4 * k + 2)
      have b3 := byt_lt b.data.toList (4 * k + 3)
      have hw : f k = wordB (byt b.data.toList (4 * k)) (byt b.data.toList (4 * k + 1)) (byt b.data.toList (4 * k + 2)) (byt b.data.toList (4 * k + 3)) := Hlo.out k hlt
      generalize hx0 : byt b.data.toList (4 * k) = x0 at q0 b0 hw
      generalize hx1 : byt b.data.toList (4 * k + 1) = x1 at q1 b1 hw
      generalize hx2 : byt b.data.toList (4 * k + 2) = x2 at q2 b2 hw
      generalize hx3 : byt b.data.toList (4 * k + 3) = x3 at q3 b3 hw
      have Hw := Lib.hid hw
      clear hw hx0 hx1 hx2 hx3
      have hf := kw.frozen k
      have hcl : k < cs.length := by rw [HC.out.1]; omega
      have hc : wr.cell? ⟨n + 3, k, none⟩ = some cs[k] := by rw [kw.cell k, List.getElem?_eq_getElem hcl]
      generalize cs[k] = u at hc
      clear hcl
      go_wp2_with fail
      refine wp_region_quiet_tail 31 Tryd.checked.mixed (by kernel_rfl) ?_
      simp only [List.take_succ_cons, List.take_zero, List.drop_succ_cons, List.drop_zero]
      repeat (first | go_big_quiet_skip | (go_big_quiet_want; go_big_quiet_op; first | go_big_quiet_on | (apply Exists.intro; refine ⟨?_, ?_⟩; (focus (fail)); go_big_quiet_on)))
      refine wpQuiet_nil ?_
      go_wp2_with fail
      exact ⟨⟨k + 1, _, by omega, by go_num, step_set HC.out (by omega) (by rw [wordB_int b0 b1 b2 b3, Hw.out]), (Blk.drew kw).set_ k _, (hb.drew).setCell (Nat.le_refl _) _⟩, by simp [intOf]; omega⟩
    · obtain rfl : k = 16 := by omega
      clear hlt hk Hlo Hb
      have HC0 := HC
      clear HC
      go_wp2_with fail
      go_loopw [9] (fun i wr => ∃ (k : Nat) (cs : List Value), 16 ≤ k ∧ k ≤ 64 ∧ i = .int .i64 k ∧ Hid (cs.length = 64 ∧ ∀ j, j < k → cs[j]? = some (.int .u32 (f j : Nat))) ∧ Blk wr (n + 3) 91 cs ∧ Below (n + 3) W wr) (fun i _ => 64 - (intOf i).toNat)
      case atStart => exact ⟨16, _, by omega, by omega, rfl, HC0, kw, hb⟩
      case round =>
        clear kw hb HC0
        obtain ⟨k, cs, hk0, hk, rfl, HC, kw, hb⟩ := hrel
        by_cases hlt : k < 64
        · have hw : f k = nextW (f (k - 16)) (f (k - 15)) (f (k - 7)) (f (k - 2)) := Hhi.out k hk0 hlt
          have c0 : wr.cell? ⟨n + 3, k - 16, none⟩ = some (.int .u32 (f (k - 16) : Nat)) := by rw [kw.cell]; exact HC.out.2 _ (by omega)
          have c1 : wr.cell? ⟨n + 3, k - 15, none⟩ = some (.int .u32 (f (k - 15) : Nat)) := by rw [kw.cell]; exact HC.out.2 _ (by omega)
          have c2 : wr.cell? ⟨n + 3, k - 7, none⟩ = some (.int .u32 (f (k - 7) : Nat)) := by rw [kw.cell]; exact HC.out.2 _ (by omega)
          have c3 : wr.cell? ⟨n + 3, k - 2, none⟩ = some (.int .u32 (f (k - 2) : Nat)) := by rw [kw.cell]; exact HC.out.2 _ (by omega)
          have l0 := Hft.out (k - 16)
          have l1 := Hft.out (k - 15)
          have l2 := Hft.out (k - 7)
          have l3 := Hft.out (k - 2)
          generalize f (k - 16) = x0 at hw c0 l0
          generalize f (k - 15) = x1 at hw c1 l1
          generalize f (k - 7) = x2 at hw c2 l2
          generalize f (k - 2) = x3 at hw c3 l3
          have Hw := Lib.hid hw
          clear hw
          have hf := kw.frozen k
          have hcl : k < cs.length := by rw [HC.out.1]; omega
          have hc : wr.cell? ⟨n + 3, k, none⟩ = some cs[k] := by rw [kw.cell k, List.getElem?_eq_getElem hcl]
          generalize cs[k] = u at hc
          clear hcl
          have e0 : ((k : Int) - 16).toNat = k - 16 := by omega
          have e1 : ((k : Int) - 15).toNat = k - 15 := by omega
          have e2 : ((k : Int) - 7).toNat = k - 7 := by omega
          have e3 : ((k : Int) - 2).toNat = k - 2 := by omega
          have E := Lib.hid (And.intro e0 (And.intro e1 (And.intro e2 e3)))
          clear e0 e1 e2 e3
          go_wp2_with fail
          have e1 := E.out.2.1
          have i1 : IntKind.i64.wrap ((k : Int) - 15) = (k : Int) - 15 := IntWalk.i64_in _ (by omega)
          go_quiet ((go_at_call 92; first | with_reducible exact Calls.quiet_of_same (l03Turn_7 _ l1 _) | with_reducible exact Calls.quiet_of_same (l03Turn_18 _ l1 _)))
          clear e1 i1
          rw [sgA_int l1]
          have m1 := sgA_lt l1
          generalize hy1 : sgA x1 = y1 at *
          have Hy1 := Lib.hid hy1
          clear hy1
          go_wp2_with fail
          have e3 := E.out.2.2.2
          have i3 : IntKind.i64.wrap ((k : Int) - 2) = (k : Int) - 2 := IntWalk.i64_in _ (by omega)
          go_quiet ((go_at_call 92; first | with_reducible exact quiet_add_same (l03Turn_17 _ l3 _) | with_reducible exact quiet_add_same (l03Turn_19 _ l3 _)))
          clear e3 i3
          rw [sgB_int l3]
          have m3 := sgB_lt l3
          generalize hy3 : sgB x3 = y3 at *
          have Hy3 := Lib.hid hy3
          clear hy3
          go_wp2_with fail
          have e0 := E.out.1
          have e2 := E.out.2.2.1
          have i0 : IntKind.i64.wrap ((k : Int) - 16) = (k : Int) - 16 := IntWalk.i64_in _ (by omega)
          have i2 : IntKind.i64.wrap ((k : Int) - 7) = (k : Int) - 7 := IntWalk.i64_in _ (by omega)
          refine wp_region_quiet_tail 15 Tryd.checked.mixed (by kernel_rfl) ?_
          simp only [List.take_succ_cons, List.take_zero, List.drop_succ_cons, List.drop_zero]
          repeat (first | go_big_quiet_skip | (go_big_quiet_want; go_big_quiet_op; first | go_big_quiet_on | (apply Exists.intro; refine ⟨?_, ?_⟩; (focus (fail)); go_big_quiet_on)))
          refine wpQuiet_nil ?_
          clear e0 e2 i0 i2
          go_wp2_with fail
          refine ⟨⟨k + 1, _, by omega, by omega, by go_num, step_set HC.out (by omega) (by rw [nextW_int Hy1.out Hy3.out, Hw.out]), ((kw.drewN _).drew).set_ k _, ((bDrewN hb _).drew).setCell (Nat.le_refl _) _⟩, by simp [intOf]; omega⟩
        · obtain rfl : k = 64 := by omega
          clear hlt hk hk0 Hhi
          have HC0 := HC
          clear HC
          have h0 := k0.below hb (by omega)
          have c0 := h0.cell 0
          have c1 := h0.cell 1
          have c2 := h0.cell 2
          have c3 := h0.cell 3
          have c4 := h0.cell 4
          have c5 := h0.cell 5
          have c6 := h0.cell 6
          have c7 := h0.cell 7
          simp only [List.getElem?_cons_zero, List.getElem?_cons_succ] at c0 c1 c2 c3 c4 c5 c6 c7
          go_upto_region 13 with fail
          refine wp_one ?_
          intro W3 k4 hb3 hs3
          have hlt3 := kw.lt
          have j0 := (k0.below hb (by omega)).below hb3 (by omega)
          have j1 := (k1.below hb (by omega)).below hb3 (by omega)
          have j2 := (k2.below hb (by omega)).below hb3 (by omega)
          have j3 := kw.below hb3 hlt3
          have hbW3 := hbW.trans ((hb.mono (by omega)).trans (hb3.mono (by omega)))
          clear c0 c1 c2 c3 c4 c5 c6 c7 h0 k0 k1 k2 k3 kw hb hs3 hsW hbW hb3 Hz
          generalize wr.heap.size = m at *
          go_wp2_with fail
          go_loopw [13] (fun i wr => ∃ (k v0 v1 v2 v3 v4 v5 v6 v7 : Nat), k ≤ 64 ∧ i = .int .i64 k ∧ Hid ((⟨v0, v1, v2, v3, v4, v5, v6, v7⟩ : W8).Ok ∧ rndF f q ⟨a0, a1, a2, a3, a4, a5, a6, a7⟩ k = ⟨v0, v1, v2, v3, v4, v5, v6, v7⟩) ∧ Blk wr m 87 [.int .u32 v0, .int .u32 v1, .int .u32 v2, .int .u32 v3, .int .u32 v4, .int .u32 v5, .int .u32 v6, .int .u32 v7] ∧ Below m W3 wr) (fun i _ => 64 - (intOf i).toNat)
          case atStart => exact ⟨0, _, _, _, _, _, _, _, _, by omega, rfl, ⟨Hs.out, rfl⟩, k4, Below.refl _ _⟩
          case round =>
            clear k4
            obtain ⟨k, v0, v1, v2, v3, v4, v5, v6, v7, hk, rfl, HC, kw, hb⟩ := hrel
            by_cases hlt : k < 64
            · have b0 := HC.out.1.a
              have b1 := HC.out.1.b
              have b2 := HC.out.1.c
              have b3 := HC.out.1.d
              have b4 := HC.out.1.e
              have b5 := HC.out.1.f
              have b6 := HC.out.1.g
              have b7 := HC.out.1.h
              simp only at b0 b1 b2 b3 b4 b5 b6 b7
              have c0 := kw.cell 0
              have c1 := kw.cell 1
              have c2 := kw.cell 2
              have c3 := kw.cell 3
              have c4 := kw.cell 4
              have c5 := kw.cell 5
              have c6 := kw.cell 6
              have c7 := kw.cell 7
              simp only [List.getElem?_cons_zero, List.getElem?_cons_succ] at c0 c1 c2 c3 c4 c5 c6 c7
              have f0 := kw.frozen 0
              have f1 := kw.frozen 1
              have f2 := kw.frozen 2
              have f3 := kw.frozen 3
              have f4 := kw.frozen 4
              have f5 := kw.frozen 5
              have f6 := kw.frozen 6
              have f7 := kw.frozen 7
              have ck : wr.cell? ⟨n + 1, k, none⟩ = some (.int .u32 (q k : Nat)) := by rw [(j1.below hb (by omega)).cell]; rw [Array.getElem?_toList]; exact HK.out k hlt
              have cw : wr.cell? ⟨n + 3, k, none⟩ = some (.int .u32 (f k : Nat)) := by rw [(j3.below hb (by omega)).cell]; exact HC0.out.2 k hlt
              have bk := Hq.out k
              have bw := Hft.out k
              have Hnext : Hid (rndF f q ⟨a0, a1, a2, a3, a4, a5, a6, a7⟩ (k + 1) = rnd ⟨v0, v1, v2, v3, v4, v5, v6, v7⟩ (q k) (f k)) := by show _ = _; rw [rndF, HC.out.2]
              generalize q k = x at *
              generalize f k = y at *
              go_wp2_with fail
              go_quiet ((go_at_call 92; first | with_reducible exact Calls.quiet_of_same (l03Turn_6 _ b4 _) | with_reducible exact Calls.quiet_of_same (l03Turn_11 _ b4 _) | with_reducible exact Calls.quiet_of_same (l03Turn_25 _ b4 _)))
              rw [sgE_int b4]
              have m1 := sgE_lt b4
              generalize hy1 : sgE v4 = y1 at *
              have Hy1 := Lib.hid hy1
              clear hy1
              go_upto_region 18 with fail
              rw [chW_int b4 b5 b6]
              have m2 := chW_lt (f := v5) (g := v6) b4
              generalize hy2 : chW v4 v5 v6 = y2 at *
              have Hy2 := Lib.hid hy2
              clear hy2
              go_wp2_with fail
              go_quiet (fail)
              rw [rndT_int2 (v := ⟨v0, v1, v2, v3, v4, v5, v6, v7⟩) Hy1.out Hy2.out]
              have m3 := rndT_lt ⟨v0, v1, v2, v3, v4, v5, v6, v7⟩ x y
              generalize ht : rndT ⟨v0, v1, v2, v3, v4, v5, v6, v7⟩ x y = t at *
              have Ht := Lib.hid ht
              clear ht ck cw
              go_wp2_with fail
              go_quiet ((go_at_call 92; first | with_reducible exact Calls.quiet_of_same (l03Turn_2 _ b0 _) | with_reducible exact Calls.quiet_of_same (l03Turn_13 _ b0 _) | with_reducible exact Calls.quiet_of_same (l03Turn_22 _ b0 _) | with_reducible exact quiet_add_same (l03Turn_2 _ b0 _) | with_reducible exact quiet_add_same (l03Turn_13 _ b0 _) | with_reducible exact quiet_add_same (l03Turn_22 _ b0 _)))
              rw [sgO_int b0]
              have m4 := sgO_lt b0
              generalize hy3 : sgO v0 = y3 at *
              have Hy3 := Lib.hid hy3
              clear hy3
              go_upto_region 21 with fail
              rw [majW_int b0 b1 b2]
              have m5 := majW_lt (c := v2) b0 b1
              generalize hy4 : majW v0 v1 v2 = y4 at *
              have Hy4 := Lib.hid hy4
              clear hy4
              go_upto_region 22 with fail
              rw [rndU_int (v := ⟨v0, v1, v2, v3, v4, v5, v6, v7⟩) Hy3.out Hy4.out]
              have m6 := rndU_lt ⟨v0, v1, v2, v3, v4, v5, v6, v7⟩
              generalize hu : rndU ⟨v0, v1, v2, v3, v4, v5, v6, v7⟩ = u at *
              have Hu := Lib.hid hu
              clear hu
              go_wp2_with fail
              refine ⟨⟨k + 1, (t + u) % 4294967296, v0, v1, v2, (v3 + t) % 4294967296, v4, v5, v6, by omega, by go_num, ?_, ?_, ?_⟩, by simp [intOf]; omega⟩
              · show W8.Ok _ ∧ _
                have hst : rnd ⟨v0, v1, v2, v3, v4, v5, v6, v7⟩ x y = ⟨(t + u) % 4294967296, v0, v1, v2, (v3 + t) % 4294967296, v4, v5, v6⟩ := by rw [rnd, Ht.out, Hu.out]
                exact ⟨by rw [← hst]; exact rnd_ok HC.out.1 _ _, by rw [Hnext.out, hst]⟩
              · rw [← sum_int, ← sum_int]
                exact ((((((((kw.drewN _).set_ 7 _).set_ 6 _).set_ 5 _).set_ 4 _).set_ 3 _).set_ 2 _).set_ 1 _).set_ 0 _
              · exact ((((((((bDrewN hb _).setCell (Nat.le_refl _) _).setCell (Nat.le_refl _) _).setCell (Nat.le_refl _) _).setCell (Nat.le_refl _) _).setCell (Nat.le_refl _) _).setCell (Nat.le_refl _) _).setCell (Nat.le_refl _) _).setCell (Nat.le_refl _) _
            · obtain rfl : k = 64 := by omega
              clear hlt hk
              have hp2 := j2.below hb (by omega)
              have hp0 := j0.below hb (by omega)
              have hbw := hbW3.trans (hb.mono (by omega))
              obtain ⟨z, hz⟩ : ∃ z : W8, z = ⟨v0, v1, v2, v3, v4, v5, v6, v7⟩ := ⟨_, rfl⟩
              obtain ⟨s, hs⟩ : ∃ s : W8, s = ⟨a0, a1, a2, a3, a4, a5, a6, a7⟩ := ⟨_, rfl⟩
              have kz : Blk wr m 87 (natC z.toL) := by rw [hz]; exact kw
              have ks : Blk wr n 87 (natC s.toL) := by rw [hs]; exact hp0
              have Hz : Hid (z.Ok ∧ rndF f q s 64 = z) := by show _ ∧ _; rw [hz, hs]; exact HC.out
              have Hs' : Hid s.Ok := by show s.Ok; rw [hs]; exact Hs.out
              clear hz kw hp0 HC HC0 Hft Hq HK hb hbW3 j0 j1 j2 j3 Hs
              go_wp2_with fail
              go_loopw [20] (fun i wr => ∃ (k : Nat) (cs : List Value), k ≤ 8 ∧ i = .int .i64 k ∧ Hid (cs.length = 8 ∧ (∀ j, j < k → cs[j]? = some (.int .u32 ((addW s z).at_ j : Nat))) ∧ ∀ j, k ≤ j → j < 8 → cs[j]? = some (.int .u32 (s.at_ j : Nat))) ∧ Blk wr n 87 cs ∧ Blk wr m 87 (natC z.toL) ∧ Blk wr (n + 2) 87 [.int .u32 0, .int .u32 0, .int .u32 0, .int .u32 0, .int .u32 0, .int .u32 0, .int .u32 0, .int .u32 0] ∧ Below n w wr) (fun i _ => 8 - (intOf i).toNat)
              case atStart => exact ⟨0, _, by omega, rfl, ⟨rfl, fun j hj => by omega, fun j _ hj => s.cell_at j hj⟩, ks, kz, hp2, hbw⟩
              case round =>
                clear hp2 hbw kz ks
                obtain ⟨k, cs, hk, rfl, HC, ks, kz, hp2, hb⟩ := hrel
                by_cases hlt : k < 8
                · have l0 := W8.at_lt Hs'.out k
                  have l1 := W8.at_lt Hz.out.1 k
                  have c0 : wr.cell? ⟨n, k, none⟩ = some (.int .u32 (s.at_ k : Nat)) := by rw [ks.cell]; exact HC.out.2.2 k (Nat.le_refl _) hlt
                  have c1 : wr.cell? ⟨m, k, none⟩ = some (.int .u32 (z.at_ k : Nat)) := by rw [kz.cell]; exact z.cell_at k hlt
                  have f0 := ks.frozen k
                  have e := addW_at s z k hlt
                  generalize s.at_ k = x at *
                  generalize z.at_ k = y at *
                  have E := Lib.hid e
                  clear e
                  go_wp2_with fail
                  refine wp_region_quiet_tail 9 Tryd.checked.mixed (by kernel_rfl) ?_
                  simp only [List.take_succ_cons, List.take_zero, List.drop_succ_cons, List.drop_zero]
                  repeat (first | go_big_quiet_skip | (go_big_quiet_want; go_big_quiet_op; first | go_big_quiet_on | (apply Exists.intro; refine ⟨?_, ?_⟩; (focus (fail)); go_big_quiet_on)))
                  refine wpQuiet_nil ?_
                  go_wp2_with fail
                  exact ⟨⟨k + 1, _, by omega, by go_num, mix_set HC.out hlt (by rw [E.out, ← sum_int]), (ks.drew).set_ k _, (kz.drew).far (by simp; omega) _, (hp2.drew).far (by simp) _, ((hb.drew)).setCell (by simp) _⟩, by simp [intOf]; omega⟩
                · obtain rfl : k = 8 := by omega
                  obtain ⟨r, hr⟩ : ∃ r : W8, r = addW s z := ⟨_, rfl⟩
                  have he : cs = natC r.toL := by rw [hr]; exact w8_of HC.out.1 HC.out.2.1
                  rw [he] at ks
                  have Hr := Lib.hid hr
                  clear hr he HC
                  obtain ⟨r0, r1, r2, r3, r4, r5, r6, r7⟩ := r
                  have c0 := ks.cell 0
                  have c1 := ks.cell 1
                  have c2 := ks.cell 2
                  have c3 := ks.cell 3
                  have c4 := ks.cell 4
                  have c5 := ks.cell 5
                  have c6 := ks.cell 6
                  have c7 := ks.cell 7
                  simp only [natC, W8.toL, List.map_cons, List.map_nil, List.getElem?_cons_zero, List.getElem?_cons_succ] at c0 c1 c2 c3 c4 c5 c6 c7
                  go_upto_region 34 with fail
                  refine wp_region_lit ?_
                  refine wpList_load_row rfl 87 (.tmp 3) rfl n rfl 87 (natC (W8.toL ⟨r0, r1, r2, r3, r4, r5, r6, r7⟩)).toArray (0, 0) _ ks Tryd.underlying87 rfl Tryd.info8 ?_
                  refine wpList_store_row rfl 87 (.tmp 6) (.tmp 223) rfl (n + 2) (natC (W8.toL ⟨r0, r1, r2, r3, r4, r5, r6, r7⟩)).toArray rfl rfl 87 _ hp2 Tryd.info8 rfl (natC_one _) ?_
                  go_wp2_with fail
                  refine bodyPost_ret (results_cell_row rfl _ _ (n + 2) 87 (natC (W8.toL ⟨r0, r1, r2, r3, r4, r5, r6, r7⟩)).toArray (0, 0) _ rfl (setRow_heap _ _ _ _ _ _ hp2) Tryd.underlying87 rfl Tryd.info8) rfl ?_
                  exact ⟨by rw [← Hf.out, ← hs, Hz.out.2, ← Hr.out], by rw [hn]; exact Below.setRow_ hb (Nat.le_add_right n 2) _⟩

theorem l03Block_any (s : W8) (hs : s.Ok) (b : ByteArray) (hb : b.size = 64) (w : World) :
    Calls Tryd.prog 88 #[.agg (natC s.toL).toArray, .string b, .agg (natC keyL).toArray] w fun e w' => e = .returned (.agg (natC (comp s b.data.toList).toL).toArray) ∧ Below w.heap.size w w' := by
  rw [comp_eq]
  exact l03Block_raw s.a s.b s.c s.d s.e s.f s.g s.h hs _ (fun i => keyL.getD i 0) keyL_cell keyL_getD_lt b hb w
end Go.Proofs.YtcehbmlibfalaaaDoor
