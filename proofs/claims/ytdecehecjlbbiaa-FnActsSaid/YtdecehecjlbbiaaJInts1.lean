/-
  The walks of the laws' helpers over rows of integers.
-/
import Derived.Test.YtdecehecjlbbiaaChecked
import Derived.Test.YtdecehecjlbbiaaBase4
namespace Go.Proofs.Ytdecehecjlbbiaa
open Go.RowKit

theorem Try.infoInt : (Try.prog.info? 3).map (fun i => (i.zero, i.size, i.bytes)) = some (some (.int .i64 0), 1, 8) := by kernel_rfl

set_option maxHeartbeats 1000000 in
theorem eqIntS_any (a1 a2 : Option Addr) (c1 c2 : Nat) (l1 l2 : List Int) (w : World) (hl1 : l1.length ≤ 1099511627776) (_hl2 : l2.length ≤ 1099511627776) (h1 : RdI w a1 l1) (h2 : RdI w a2 l2) :
    Calls Try.prog 27 #[.slice a1 l1.length c1, .slice a2 l2.length c2] w fun e w' => e = .returned (.bool (decide (l1 = l2))) ∧ Below w.heap.size w w' := by
  have H1 := Lib.hid h1
  have H2 := Lib.hid h2
  clear h1 h2
  by_cases hlen : l1.length = l2.length
  · have e1 : ((l1.length : Int) != l2.length) = false := by rw [bne_eq_false_iff_eq]; omega
    have Hlen := Lib.hid hlen
    clear hlen
    go_enter Try.func27, Try.ntmps27
    go_wp2_with fail
    go_loopw [5] (fun i wr => ∃ k : Nat, k ≤ l1.length ∧ i = .int .i64 k ∧ Hid (l1.take k = l2.take k) ∧ Below w.heap.size w wr) (fun i _ => l1.length - (intOf i).toNat)
    case atStart => exact ⟨0, Nat.zero_le _, rfl, rfl, Below.refl _ _⟩
    case round =>
      obtain ⟨k, hk, rfl, H, hb⟩ := hrel
      by_cases hlt : k < l1.length
      · obtain ⟨x, hx⟩ : ∃ x, l1[k]? = some x := ⟨_, List.getElem?_eq_getElem hlt⟩
        obtain ⟨y, hy⟩ : ∃ y, l2[k]? = some y := ⟨_, List.getElem?_eq_getElem (by rw [← Hlen.out]; exact hlt)⟩
        obtain ⟨b1, o1, rfl, hc1⟩ := (RdI.below H1.out hb (Nat.le_refl _)).at_ k x hx
        obtain ⟨b2, o2, rfl, hc2⟩ := (RdI.below H2.out hb (Nat.le_refl _)).at_ k y hy
        have hlt2 : k < l2.length := by rw [← Hlen.out]; exact hlt
        have Hx := Lib.hid hx
        have Hy := Lib.hid hy
        clear hx hy
        by_cases hxy : x = y
        · have e2 : (x != y) = false := by rw [hxy]; exact bne_self_eq_false _
          have Hxy := Lib.hid hxy
          clear hxy
          go_wp2_with fail
          go_quiet (fail)
          go_wp2_with fail
          exact ⟨⟨k + 1, by omega, by go_num, int_step Hx.out Hy.out Hxy.out H.out, below_drewN hb _⟩, by simp [intOf]; omega⟩
        · have e2 : (x != y) = true := by rw [bne_iff_ne]; exact hxy
          have Hne : Hid (¬ l1 = l2) := fun h => by
            have e := Hx.out
            rw [h, Hy.out] at e
            exact hxy (Option.some.inj e).symm
          clear hxy
          go_wp2_with fail
          go_quiet (fail)
          go_wp2_with fail
          go_ret
          exact ⟨by rw [decide_eq_false Hne.out]; rfl, below_drewN hb _⟩
      · have He : Hid (l1 = l2) := by
          have := H.out
          rw [List.take_of_length_le (by omega), List.take_of_length_le (by rw [← Hlen.out]; omega)] at this
          exact this
        clear H
        go_wp2_with fail
        go_ret
        exact ⟨by rw [decide_eq_true He.out]; rfl, hb⟩
  · have e1 : ((l1.length : Int) != l2.length) = true := by rw [bne_iff_ne]; omega
    have Hne : Hid (¬ l1 = l2) := fun h => hlen (by rw [h])
    clear hlen
    go_enter Try.func27, Try.ntmps27
    go_wp2_with fail
    go_ret
    exact ⟨by rw [decide_eq_false Hne.out]; rfl, Below.refl _ _⟩

set_option maxHeartbeats 1000000 in
theorem markIntS_any (v : Value) (l : List Int) (B : Nat) (K : Nat) (w : World) (hl : l.length ≤ 1048576) (h0 : 0 < K) (hK : K ≤ 1099510579200) (h : OwnI w B v l) :
    Calls Try.prog 29 #[v, .int .i64 K] w fun e w' => e = .returned (.int .i64 ((K : Int) + l.length)) ∧ OwnI w' B v (nums K l.length) ∧ w.grownBy w' v.ownBlock := by
  rcases h with ⟨rfl, hn, _⟩ | ⟨g, cap, rfl, hB, r⟩
  · obtain rfl := List.eq_nil_of_length_eq_zero hn
    go_enter Try.func29, Try.ntmps29
    go_wp2_with fail
    refine wp_loop_rounds 1 ?_
    rw [rounds_succ]
    go_wp2_with fail
    go_ret
    exact ⟨by simp, Own.nil _ _ _, World.grownBy.refl _ _⟩
  · have hown : Own w B 1 (.slice (some ⟨g, 0, none⟩) l.length cap) l.length (intC l) := .inr ⟨g, cap, rfl, hB, r⟩
    clear r
    generalize hN : l.length = N at *
    have HN : Hid ((intC l).length = N) := Lib.hid (by rw [intC_length]; exact hN)
    clear hN
    go_enter Try.func29, Try.ntmps29
    go_wp2_with fail
    go_loopw [1, 5] (fun q i wr => ∃ (k : Nat) (m : List Value), k ≤ N ∧ i = .int .i64 k ∧ q = .int .i64 ((K : Int) + k) ∧ Hid (m.length = N ∧ ∀ j, j < k → m[j]? = some (.int .i64 ((K : Int) + j))) ∧ Own wr B 1 (.slice (some ⟨g, 0, none⟩) N cap) N m ∧ w.grownBy wr (some g)) (fun _ i _ => N - (intOf i).toNat)
    case atStart => exact ⟨0, _, Nat.zero_le _, rfl, by simp, ⟨HN.out, fun j hj => by omega⟩, hown, World.grownBy.refl _ _⟩
    case round =>
      obtain ⟨k, m, hk, rfl, rfl, H, hm, hg⟩ := hrel
      have hgz := hg.size
      by_cases hlt : k < N
      · obtain ⟨⟨u, hu⟩, hf⟩ := hm.at1 k hlt
        have Hm := Lib.hid hm
        clear hm
        go_wp2_with fail
        refine ⟨⟨k + 1, m.set k (.int .i64 ((K : Int) + k)), by omega, by go_num, by push_cast; rw [Int.add_assoc], ⟨by rw [List.length_set]; exact H.out.1, fun j hj => ?_⟩, Hm.out.store1 k hlt _, ?_⟩, by simp [intOf]; omega⟩
        · by_cases hjk : j = k
          · subst hjk; rw [List.getElem?_set_self (by rw [H.out.1]; exact hlt)]
          · rw [List.getElem?_set_ne (by omega)]; exact H.out.2 j (by omega)
        · refine ⟨by rw [← hg.os]; rfl, by rw [← hg.tape]; rfl, by rw [← hg.output]; rfl, by simp [World.setCell]; omega, fun i hi hne => ?_⟩
          rw [Below.heap_setCell _ _ _ _ (by intro e; exact hne (by rw [e])), hg.block i hi hne]
      · obtain rfl : k = N := by omega
        have he := nums_eq H.out.1 H.out.2
        have He := Lib.hid he
        clear he H
        go_wp2_with fail
        go_ret
        refine ⟨rfl, ?_, hg⟩
        unfold OwnI
        rw [nums_length, ← He.out]
        exact hm

end Go.Proofs.Ytdecehecjlbbiaa
