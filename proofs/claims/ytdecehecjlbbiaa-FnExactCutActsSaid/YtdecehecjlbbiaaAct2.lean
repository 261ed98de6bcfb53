/-
  The walks of a law's marks on operations and of their reading.
-/
import Derived.Test.YtdecehecjlbbiaaAct1
namespace Go.Proofs.Ytdecehecjlbbiaa
open Go.RowKit

set_option maxHeartbeats 2000000 in
theorem markActS_any (v : Value) (l : List Ac) (B K : Nat) (w : World) (hl : l.length ≤ 1048576) (h0 : 0 < K) (hK : K ≤ 1099500000000) (h : OwnA w B v l) :
    Calls Try.prog 40 #[v, .int .i64 K] w fun e w' => e = .returned (.int .i64 ((K : Int) + 4 * l.length)) ∧ OwnA w' B v (marksA K l.length) ∧ w.grownBy w' v.ownBlock := by
  rcases h with ⟨rfl, hn, _⟩ | ⟨g, cap, rfl, hB, r⟩
  · obtain rfl := List.eq_nil_of_length_eq_zero hn
    go_enter Try.func40, Try.ntmps40
    go_wp2_with fail
    refine wp_loop_rounds 1 ?_
    rw [rounds_succ]
    go_wp2_with fail
    go_ret
    exact ⟨by simp, Own.nil _ _ _, World.grownBy.refl _ _⟩
  · have hown : Own w B 4 (.slice (some ⟨g, 0, none⟩) l.length cap) l.length (actC l) := .inr ⟨g, cap, rfl, hB, r⟩
    have hgs := r.lt
    clear r
    generalize hN : l.length = N at *
    have HN : Hid ((actC l).length = N * 4) := Lib.hid (by rw [actC_length, hN])
    clear hN
    go_enter Try.func40, Try.ntmps40
    go_wp2_with fail
    go_loopw [1, 5] (fun q i wr => ∃ (k : Nat) (m : List Value), k ≤ N ∧ i = .int .i64 k ∧ q = .int .i64 ((K : Int) + 4 * k) ∧ Hid (m.length = N * 4 ∧ ∀ j y, j < k → (marksA K N)[j]? = some y → ActIs m j y) ∧ Own wr B 4 (.slice (some ⟨g, 0, none⟩) N cap) N m ∧ w.grownBy wr (some g)) (fun _ i _ => N - (intOf i).toNat)
    case atStart => exact ⟨0, _, Nat.zero_le _, rfl, by simp, ⟨HN.out, fun j y hj => by omega⟩, hown, World.grownBy.refl _ _⟩
    case round =>
      obtain ⟨k, m, hk, rfl, rfl, H, hm, hg⟩ := hrel
      have hgz := hg.size
      by_cases hlt : k < N
      · have HNX := Lib.hid (ActIs.grow4 (marksA_get K N k hlt) H.out.1 hlt H.out.2)
        obtain ⟨⟨u0, hu0⟩, hf0⟩ := hm.atC (k * 4) (by omega)
        have hv0 : ((K : Int) + 4 * k) = ((K + 4 * k : Nat) : Int) := by push_cast; omega
        have Hm0 := Lib.hid (hm.storeC (k * 4) (by omega) (.int .i64 ((K : Int) + 4 * k)))
        have Hg0 := Lib.hid (grownBy_set hg (k * 4) (.int .i64 ((K : Int) + 4 * k)))
        have Hv0 := Lib.hid hv0
        clear hm hg hv0
        go_wp2_with fail
        refine (markText_at _ (K + 4 * k + 1) (by push_cast; omega) (by omega) (by omega) _).mono ?_
        rintro e w1 ⟨rfl, hb1⟩
        have hm1 := Own.below Hm0.out hb1 (Nat.le_refl _)
        obtain ⟨⟨u1, hu1⟩, hf1⟩ := hm1.atC (k * 4 + 1) (by omega)
        have Hm1 := Lib.hid (hm1.storeC (k * 4 + 1) (by omega) (.string (markB (K + 4 * k + 1))))
        have Hg1 := Lib.hid (grownBy_set (grownBy_trans Hg0.out (grownBy_below hb1 (Nat.le_refl _) (some g))) (k * 4 + 1) (.string (markB (K + 4 * k + 1))))
        clear hm1 hb1 hu0 hf0
        go_wp2_with fail
        refine (markText_at _ (K + 4 * k + 2) (by push_cast; omega) (by omega) (by omega) _).mono ?_
        rintro e w2 ⟨rfl, hb2⟩
        have hm2 := Own.below Hm1.out hb2 (Nat.le_refl _)
        obtain ⟨⟨u2, hu2⟩, hf2⟩ := hm2.atC (k * 4 + 2) (by omega)
        have Hm2 := Lib.hid (hm2.storeC (k * 4 + 2) (by omega) (.string (markB (K + 4 * k + 2))))
        have Hg2 := Lib.hid (grownBy_set (grownBy_trans Hg1.out (grownBy_below hb2 (Nat.le_refl _) (some g))) (k * 4 + 2) (.string (markB (K + 4 * k + 2))))
        clear hm2 hb2 hu1 hf1
        go_wp2_with fail
        refine (markText_at _ (K + 4 * k + 3) (by push_cast; omega) (by omega) (by omega) _).mono ?_
        rintro e w3 ⟨rfl, hb3⟩
        have hm3 := Own.below Hm2.out hb3 (Nat.le_refl _)
        obtain ⟨⟨u3, hu3⟩, hf3⟩ := hm3.atC (k * 4 + 3) (by omega)
        have Hm3 := Lib.hid (hm3.storeC (k * 4 + 3) (by omega) (.string (markB (K + 4 * k + 3))))
        have Hg3 := Lib.hid (grownBy_set (grownBy_trans Hg2.out (grownBy_below hb3 (Nat.le_refl _) (some g))) (k * 4 + 3) (.string (markB (K + 4 * k + 3))))
        clear hm3 hb3 hu2 hf2
        go_wp2_with fail
        refine ⟨⟨k + 1, _, by omega, by go_num, by congr 1 <;> (push_cast; omega), ⟨by rw [List.length_set, List.length_set, List.length_set, List.length_set]; exact H.out.1, HNX.out⟩, ?_, Hg3.out⟩, by simp [intOf]; omega⟩
        have hm4 := Hm3.out
        rw [Hv0.out] at hm4
        exact hm4
      · obtain rfl : k = N := by omega
        have he := actC_of (l := marksA K k) (by rw [marksA_length]; exact H.out.1) (fun j y hy => H.out.2 j y (by have := (List.getElem?_eq_some_iff.1 hy).1; rw [marksA_length] at this; exact this) hy)
        have He := Lib.hid he
        have Hm := Lib.hid hm
        have Hg := Lib.hid hg
        clear he H hm hg
        go_wp2_with fail
        go_ret
        refine ⟨rfl, ?_, Hg.out⟩
        unfold OwnA
        rw [marksA_length, ← He.out]
        exact Hm.out

set_option maxHeartbeats 2000000 in
theorem heldActS_any (ao : Option Addr) (cap N K : Nat) (w : World) (hl : N ≤ 1048576) (h0 : 0 < K) (hK : K ≤ 1099500000000) (h : RdA w ao (marksA K N)) :
    Calls Try.prog 41 #[.slice ao N cap, .int .i64 K] w fun e w' => e = .returned (.int .i64 ((K : Int) + 4 * N)) ∧ Below w.heap.size w w' := by
  have H := Lib.hid h
  clear h
  go_enter Try.func41, Try.ntmps41
  go_wp2_with fail
  go_loopw [1, 5] (fun q i wr => ∃ k : Nat, k ≤ N ∧ i = .int .i64 k ∧ q = .int .i64 ((K : Int) + 4 * k) ∧ Below w.heap.size w wr) (fun _ i _ => N - (intOf i).toNat)
  case atStart => exact ⟨0, Nat.zero_le _, rfl, by simp, Below.refl _ _⟩
  case round =>
    obtain ⟨k, hk, rfl, rfl, hb⟩ := hrel
    have hbs := hb.size
    by_cases hlt : k < N
    · obtain ⟨b, o, rfl, hc0, hc1, hc2, hc3⟩ := (RdA.below H.out hb (Nat.le_refl _)).at_ k _ (marksA_get K N k hlt)
      unfold markA at hc0 hc1 hc2 hc3
      simp only at hc0 hc1 hc2 hc3
      have C1 := Lib.hid (fun wx => markText_at ((K : Int) + 4 * k + 1) (K + 4 * k + 1) (by push_cast; omega) (by omega) (by omega) wx)
      have C2 := Lib.hid (fun wx => markText_at ((K : Int) + 4 * k + 1 + 1) (K + 4 * k + 2) (by push_cast; omega) (by omega) (by omega) wx)
      have C3 := Lib.hid (fun wx => markText_at ((K : Int) + 4 * k + 1 + 1 + 1) (K + 4 * k + 3) (by push_cast; omega) (by omega) (by omega) wx)
      have hv3 : (((K + 4 * k : Nat) : Int) != ((K : Int) + 4 * k)) = false := by rw [bne_eq_false_iff_eq]; push_cast; omega
      have hv4 : (((K : Int) + 4 * k) != ((K + 4 * k : Nat) : Int)) = false := by rw [bne_eq_false_iff_eq]; push_cast; omega
      generalize markB (K + 4 * k + 1) = m1 at *
      generalize markB (K + 4 * k + 2) = m2 at *
      generalize markB (K + 4 * k + 3) = m3 at *
      generalize hmz : (((K + 4 * k : Nat) : Int)) = m0 at *
      have Hmz := Lib.hid hmz
      clear hmz
      go_wp2_with fail
      try go_quiet (fail)
      go_wp2_with fail
      refine wp_region_quiet_below Try.checked.mixed (by kernel_rfl) ?_
      have hc' := cell_regrown hc1
      repeat (any_goals (first
        | go_big_quiet_step ((go_at_call 85; exact Calls.regrown_of (C1.out _)))
        | quiet_step ((go_at_call 85; exact Calls.regrown_of (C1.out _)))))
      refine wpQuiet_nil ?_
      intro w2 hw'
      have hb2 : Below wr.heap.size wr w2 := by obtain ⟨⟨dq, osq⟩, hw''⟩ := hw'; rw [hw'']; exact below_regrown wr dq osq
      have hlb := World.block_lt_of_cell? _ _ hc1
      have hc2 := (hb2.cell (p := ⟨b, o + k * 4 + 2, none⟩) hlb).trans hc2
      have hc3 := (hb2.cell (p := ⟨b, o + k * 4 + 3, none⟩) hlb).trans hc3
      have HB2 := Lib.hid (hb.trans (hb2.mono hbs))
      have hbs2 := HB2.out.size
      clear hc' hb2 hw' hc1
      go_wp2_with fail
      refine wp_region_quiet_below Try.checked.mixed (by kernel_rfl) ?_
      have hc' := cell_regrown hc2
      repeat (any_goals (first
        | go_big_quiet_step ((go_at_call 85; exact Calls.regrown_of (C2.out _)))
        | quiet_step ((go_at_call 85; exact Calls.regrown_of (C2.out _)))))
      refine wpQuiet_nil ?_
      intro w3 hw'
      have hb3 : Below w2.heap.size w2 w3 := by obtain ⟨⟨dq, osq⟩, hw''⟩ := hw'; rw [hw'']; exact below_regrown w2 dq osq
      have hlb := World.block_lt_of_cell? _ _ hc2
      have hc3 := (hb3.cell (p := ⟨b, o + k * 4 + 3, none⟩) hlb).trans hc3
      have HB3 := Lib.hid (HB2.out.trans (hb3.mono hbs2))
      have hbs3 := HB3.out.size
      clear hc' hb3 hw' hc2
      go_wp2_with fail
      refine wp_region_quiet_below Try.checked.mixed (by kernel_rfl) ?_
      have hc' := cell_regrown hc3
      repeat (any_goals (first
        | go_big_quiet_step ((go_at_call 85; exact Calls.regrown_of (C3.out _)))
        | quiet_step ((go_at_call 85; exact Calls.regrown_of (C3.out _)))))
      refine wpQuiet_nil ?_
      intro w4 hw'
      have hb4 : Below w3.heap.size w3 w4 := by obtain ⟨⟨dq, osq⟩, hw''⟩ := hw'; rw [hw'']; exact below_regrown w3 dq osq
      have HB4 := Lib.hid (HB3.out.trans (hb4.mono hbs3))
      clear hc' hb4 hw' hc3
      go_wp2_with fail
      exact ⟨⟨k + 1, by omega, by go_num, by congr 1 <;> (push_cast; omega), by first | exact HB4.out | exact below_drewN HB4.out _⟩, by simp [intOf]; omega⟩
    · go_wp2_with fail
      obtain rfl : k = N := by omega
      go_ret
      exact ⟨rfl, hb⟩

end Go.Proofs.Ytdecehecjlbbiaa
