/-
  The walks of a law's marks on files and of their reading; of disks as a whole.
-/
import Derived.Test.YtdecehecjlbbiaaJFile1
import Derived.Test.YtdecehecjlbbiaaBase4
import Derived.Test.YtdecehecjlbbiaaBase7
namespace Go.Proofs.Ytdecehecjlbbiaa
open Go.RowKit

theorem markText_at (x : Int) (K : Nat) (hx : x = K) (h0 : 0 < K) (hK : K ≤ 1099511627776) (w : World) :
    Calls Try.prog 85 #[.int .i64 x] w fun e w' => e = .returned (.string (markB K)) ∧ Below w.heap.size w w' := by
  subst hx
  exact markText_any K h0 hK w

set_option maxHeartbeats 1000000 in
theorem markFileS_any (v : Value) (l : List Fl) (B K : Nat) (w : World) (hl : l.length ≤ 1048576) (h0 : 0 < K) (hK : K ≤ 1099500000000) (h : OwnF w B v l) :
    Calls Try.prog 72 #[v, .int .i64 K] w fun e w' => e = .returned (.int .i64 ((K : Int) + 3 * l.length)) ∧ OwnF w' B v (marksF K l.length) ∧ w.grownBy w' v.ownBlock := by
  rcases h with ⟨rfl, hn, _⟩ | ⟨g, cap, rfl, hB, r⟩
  · obtain rfl := List.eq_nil_of_length_eq_zero hn
    go_enter Try.func72, Try.ntmps72
    go_wp2_with fail
    refine wp_loop_rounds 1 ?_
    rw [rounds_succ]
    go_wp2_with fail
    go_ret
    exact ⟨by simp, Own.nil _ _ _, World.grownBy.refl _ _⟩
  · have hown : Own w B 3 (.slice (some ⟨g, 0, none⟩) l.length cap) l.length (fileC l) := .inr ⟨g, cap, rfl, hB, r⟩
    have hgs := r.lt
    clear r
    generalize hN : l.length = N at *
    have HN : Hid ((fileC l).length = N * 3) := Lib.hid (by rw [fileC_length, hN])
    clear hN
    go_enter Try.func72, Try.ntmps72
    go_wp2_with fail
    go_loopw [1, 5] (fun q i wr => ∃ (k : Nat) (m : List Value), k ≤ N ∧ i = .int .i64 k ∧ q = .int .i64 ((K : Int) + 3 * k) ∧ Hid (m.length = N * 3 ∧ ∀ j, j < k → m[j * 3]? = some (.string (markB (K + 3 * j))) ∧ m[j * 3 + 1]? = some (.string (markB (K + 3 * j + 1))) ∧ m[j * 3 + 2]? = some (.int .i64 ((K + 3 * j + 2 : Nat) : Int))) ∧ Own wr B 3 (.slice (some ⟨g, 0, none⟩) N cap) N m ∧ w.grownBy wr (some g)) (fun _ i _ => N - (intOf i).toNat)
    case atStart => exact ⟨0, _, Nat.zero_le _, rfl, by simp, ⟨HN.out, fun j hj => by omega⟩, hown, World.grownBy.refl _ _⟩
    case round =>
      obtain ⟨k, m, hk, rfl, rfl, H, hm, hg⟩ := hrel
      have hgz := hg.size
      by_cases hlt : k < N
      · have Hm := Lib.hid hm
        have Hg := Lib.hid hg
        clear hm hg
        go_wp2_with fail
        refine (markText_at _ (K + 3 * k) (by push_cast; omega) (by omega) (by omega) _).mono ?_
        rintro e w1 ⟨rfl, hb1⟩
        have hm1 := Own.below Hm.out hb1 (Nat.le_refl _)
        obtain ⟨⟨u0, hu0⟩, hf0⟩ := hm1.atC (k * 3) (by omega)
        have Hm1 := Lib.hid (hm1.storeC (k * 3) (by omega) (.string (markB (K + 3 * k))))
        have Hg1 := Lib.hid (grownBy_set (grownBy_trans Hg.out (grownBy_below hb1 (Nat.le_refl _) (some g))) (k * 3) (.string (markB (K + 3 * k))))
        clear hm1 hb1
        go_wp2_with fail
        refine (markText_at _ (K + 3 * k + 1) (by push_cast; omega) (by omega) (by omega) _).mono ?_
        rintro e w2 ⟨rfl, hb2⟩
        have hm2 := Own.below Hm1.out hb2 (Nat.le_refl _)
        obtain ⟨⟨u1, hu1⟩, hf1⟩ := hm2.atC (k * 3 + 1) (by omega)
        have Hm2 := Lib.hid (hm2.storeC (k * 3 + 1) (by omega) (.string (markB (K + 3 * k + 1))))
        have Hg2 := Lib.hid (grownBy_set (grownBy_trans Hg1.out (grownBy_below hb2 (Nat.le_refl _) (some g))) (k * 3 + 1) (.string (markB (K + 3 * k + 1))))
        obtain ⟨⟨u2, hu2⟩, hf2⟩ := Hm2.out.atC (k * 3 + 2) (by omega)
        have hv3 : ((K : Int) + 3 * k + 1 + 1) = ((K + 3 * k + 2 : Nat) : Int) := by push_cast; omega
        have Hv3 := Lib.hid hv3
        clear hm2 hb2 hv3 hu0 hf0
        go_wp2_with fail
        refine ⟨⟨k + 1, ((m.set (k * 3) (.string (markB (K + 3 * k)))).set (k * 3 + 1) (.string (markB (K + 3 * k + 1)))).set (k * 3 + 2) (.int .i64 ((K + 3 * k + 2 : Nat) : Int)), by omega, by go_num, by congr 1 <;> (push_cast; omega), ⟨by rw [List.length_set, List.length_set, List.length_set]; exact H.out.1, fun j hj => ?_⟩, by rw [← Hv3.out]; exact Hm2.out.storeC (k * 3 + 2) (by omega) _, grownBy_set Hg2.out _ _⟩, by simp [intOf]; omega⟩
        have hml := H.out.1
        by_cases hjk : j = k
        · subst hjk
          exact ⟨by rw [List.getElem?_set_ne (by omega), List.getElem?_set_ne (by omega), List.getElem?_set_self (by omega)], by rw [List.getElem?_set_ne (by omega), List.getElem?_set_self (by rw [List.length_set]; omega)], by rw [List.getElem?_set_self (by rw [List.length_set, List.length_set]; omega)]⟩
        · obtain ⟨z1, z2, z3⟩ := H.out.2 j (by omega)
          exact ⟨by rw [List.getElem?_set_ne (by omega), List.getElem?_set_ne (by omega), List.getElem?_set_ne (by omega)]; exact z1, by rw [List.getElem?_set_ne (by omega), List.getElem?_set_ne (by omega), List.getElem?_set_ne (by omega)]; exact z2, by rw [List.getElem?_set_ne (by omega), List.getElem?_set_ne (by omega), List.getElem?_set_ne (by omega)]; exact z3⟩
      · obtain rfl : k = N := by omega
        have he := marksF_eq H.out.1 H.out.2
        have He := Lib.hid he
        have Hm := Lib.hid hm
        have Hg := Lib.hid hg
        clear he H hm hg
        go_wp2_with fail
        go_ret
        refine ⟨rfl, ?_, Hg.out⟩
        unfold OwnF
        rw [marksF_length, ← He.out]
        exact Hm.out

set_option maxHeartbeats 1000000 in
theorem heldFileS_any (ao : Option Addr) (cap N K : Nat) (w : World) (hl : N ≤ 1048576) (h0 : 0 < K) (hK : K ≤ 1099500000000) (h : RdF w ao (marksF K N)) :
    Calls Try.prog 73 #[.slice ao N cap, .int .i64 K] w fun e w' => e = .returned (.int .i64 ((K : Int) + 3 * N)) ∧ Below w.heap.size w w' := by
  have H := Lib.hid h
  clear h
  go_enter Try.func73, Try.ntmps73
  go_wp2_with fail
  go_loopw [1, 5] (fun q i wr => ∃ k : Nat, k ≤ N ∧ i = .int .i64 k ∧ q = .int .i64 ((K : Int) + 3 * k) ∧ Below w.heap.size w wr) (fun _ i _ => N - (intOf i).toNat)
  case atStart => exact ⟨0, Nat.zero_le _, rfl, by simp, Below.refl _ _⟩
  case round =>
    obtain ⟨k, hk, rfl, rfl, hb⟩ := hrel
    have hbs := hb.size
    by_cases hlt : k < N
    · obtain ⟨b, o, rfl, hc1, hc2, hc3⟩ := (RdF.below H.out hb (Nat.le_refl _)).at_ k _ (marksF_get K N k hlt)
      simp only at hc1 hc2 hc3
      have C1 := Lib.hid (fun wx => markText_at ((K : Int) + 3 * k) (K + 3 * k) (by push_cast; omega) (by omega) (by omega) wx)
      have C2 := Lib.hid (fun wx => markText_at ((K : Int) + 3 * k + 1) (K + 3 * k + 1) (by push_cast; omega) (by omega) (by omega) wx)
      have hv3 : (((K : Int) + 3 * k + 1 + 1) != ((K + 3 * k + 2 : Nat) : Int)) = false := by rw [bne_eq_false_iff_eq]; push_cast; omega
      have hv4 : ((((K + 3 * k + 2 : Nat) : Int)) != ((K : Int) + 3 * k + 1 + 1)) = false := by rw [bne_eq_false_iff_eq]; push_cast; omega
      generalize markB (K + 3 * k) = m1 at *
      generalize markB (K + 3 * k + 1) = m2 at *
      generalize hmz : (((K + 3 * k + 2 : Nat) : Int)) = m3 at *
      have Hmz := Lib.hid hmz
      clear hmz
      go_wp2_with fail
      refine wp_region_quiet_below Try.checked.mixed (by kernel_rfl) ?_
      have hc' := cell_regrown hc1
      repeat (any_goals (first
        | go_big_quiet_step ((go_at_call 85; exact Calls.regrown_of (C1.out _)))
        | quiet_step ((go_at_call 85; exact Calls.regrown_of (C1.out _)))))
      refine wpQuiet_nil ?_
      intro w2 hw'
      have hb2 : Below wr.heap.size wr w2 := by obtain ⟨⟨dq, osq⟩, hw''⟩ := hw'; rw [hw'']; exact below_regrown wr dq osq
      have hlb := World.block_lt_of_cell? _ _ hc1
      have hc2 := (hb2.cell (p := ⟨b, o + k * 3 + 1, none⟩) hlb).trans hc2
      have hc3 := (hb2.cell (p := ⟨b, o + k * 3 + 2, none⟩) hlb).trans hc3
      have HB2 := Lib.hid (hb.trans (hb2.mono hbs))
      have hbs2 := HB2.out.size
      clear hc' hb2 hw' hc1
      go_wp2_with fail
      refine wp_region_quiet_below Try.checked.mixed (by kernel_rfl) ?_
      have hc' := cell_regrown hc2
      repeat (any_goals (first
        | go_big_quiet_step ((go_at_call 85; exact Calls.regrown_of (C2.out _)))
        | quiet_step ((go_at_call 85; exact Calls.regrown_of (C2.out _)))))
      refine wpQuiet_nil ?_
      intro w3 hw'
      have hb3 : Below w2.heap.size w2 w3 := by obtain ⟨⟨dq, osq⟩, hw''⟩ := hw'; rw [hw'']; exact below_regrown w2 dq osq
      have hlb := World.block_lt_of_cell? _ _ hc2
      have hc3 := (hb3.cell (p := ⟨b, o + k * 3 + 2, none⟩) hlb).trans hc3
      have HB3 := Lib.hid (HB2.out.trans (hb3.mono hbs2))
      clear hc' hb3 hw' hc2
      go_wp2_with fail
      try go_quiet (fail)
      go_wp2_with fail
      exact ⟨⟨k + 1, by omega, by go_num, by congr 1 <;> (push_cast; omega), by first | exact HB3.out | exact below_drewN HB3.out _⟩, by simp [intOf]; omega⟩
    · go_wp2_with fail
      obtain rfl : k = N := by omega
      go_ret
      exact ⟨rfl, hb⟩

end Go.Proofs.Ytdecehecjlbbiaa
