/-
  The walks of the laws' own helpers over slices of strings: equality, marks, sizes, copies.
-/
import Derived.Test.YtcehbmlibfalaaaDoorChecked
import Derived.Test.YtcehbmlibfalaaaDoorBase4
import Derived.Test.YtcehbmlibfalaaaDoorJSums2
namespace Go.Proofs.YtcehbmlibfalaaaDoor
open Go.RowKit

theorem Tryd.infoStr : (Tryd.prog.info? 9).map (fun i => (i.zero, i.size, i.bytes)) = some (some (.string ⟨#[]⟩), 1, 16) := by kernel_rfl

set_option maxHeartbeats 1000000 in
set_option maxRecDepth 100000 in
theorem markText_any (K : Nat) (h0 : 0 < K) (hK : K ≤ 1099511627776) (w : World) :
    Calls Tryd.prog 53 #[.int .i64 K] w fun e w' => e = .returned (.string (markB K)) ∧ Below w.heap.size w w' := by
  have hne : K ≠ 0 := by omega
  go_enter Tryd.func53, Tryd.ntmps53
  go_wp2_with fail
  go_loopw [0, 3] (fun a b wr => ∃ (n : Nat) (l : List UInt8), n ≤ K ∧ a = .int .i64 n ∧ b = .string (txt l) ∧ l.length + n ≤ K ∧ Hid (digL n ++ l = digL K) ∧ Below w.heap.size w wr) (fun a _ _ => (intOf a).toNat)
  case atStart => exact ⟨K, [], Nat.le_refl _, rfl, rfl, by simp, by show _ = _; simp, Below.refl _ _⟩
  case round =>
    obtain ⟨n, l, hn, rfl, rfl, hl, H, hb⟩ := hrel
    have hbs := hb.size
    by_cases hlt : 0 < n
    · have hts : (txt l).size ≤ 1099511627776 := by rw [txt_size]; omega
      have hc := built_txt (P := Tryd.prog) Tryd.underlying32 Tryd.underlying5 Tryd.underlying9 wr [Value.int .u8 (48 + (n : Int) % 10)] [digB n] (u8_cell (digB_val n).symm) 1 1 rfl 5
      have hs1 : (txt [digB n]).size ≤ 1 := by rw [txt_size]; exact Nat.le_refl _
      go_wp2_with fail
      refine ⟨⟨n / 10, digB n :: l, by omega, by go_num, by rw [txt_join2]; rfl, by rw [List.length_cons]; omega, ?_, hb.alloc hbs _⟩, by simp [intOf]; omega⟩
      show _ = _
      rw [← H.out, digL_pos hlt, List.append_assoc]; rfl
    · have hn0 : n = 0 := by omega
      have H0 : Hid (l = digL K) := by show _ = _; rw [← H.out, hn0, digL_zero]; rfl
      have hts : (txt l).size ≤ 1099511627776 := by rw [txt_size]; omega
      clear H hn0
      go_wp2_with fail
      go_ret
      exact ⟨by unfold markB; rw [← H0.out, show (109 :: l) = [109] ++ l from rfl, ← txt_join2]; rfl, hb⟩

theorem take_step {l1 l2 : List ByteArray} {k : Nat} {x y : ByteArray} (hx : l1[k]? = some x) (hy : l2[k]? = some y) (h : x = y) (ht : l1.take k = l2.take k) : l1.take (k + 1) = l2.take (k + 1) := by
  rw [List.take_add_one, List.take_add_one, hx, hy, h, ht]

set_option maxHeartbeats 1000000 in
theorem eqStringS_any (a1 a2 : Option Addr) (c1 c2 : Nat) (l1 l2 : List ByteArray) (w : World) (hl1 : l1.length ≤ 1099511627776) (_hl2 : l2.length ≤ 1099511627776) (h1 : RdS w a1 l1) (h2 : RdS w a2 l2) :
    Calls Tryd.prog 17 #[.slice a1 l1.length c1, .slice a2 l2.length c2] w fun e w' => e = .returned (.bool (decide (l1 = l2))) ∧ Below w.heap.size w w' := by
  have H1 := Lib.hid h1
  have H2 := Lib.hid h2
  clear h1 h2
  by_cases hlen : l1.length = l2.length
  · have e1 : ((l1.length : Int) != l2.length) = false := by rw [bne_eq_false_iff_eq]; omega
    have Hlen := Lib.hid hlen
    clear hlen
    go_enter Tryd.func17, Tryd.ntmps17
    go_wp2_with fail
    go_loopw [5] (fun i wr => ∃ k : Nat, k ≤ l1.length ∧ i = .int .i64 k ∧ Hid (l1.take k = l2.take k) ∧ Below w.heap.size w wr) (fun i _ => l1.length - (intOf i).toNat)
    case atStart => exact ⟨0, Nat.zero_le _, rfl, rfl, Below.refl _ _⟩
    case round =>
      obtain ⟨k, hk, rfl, H, hb⟩ := hrel
      by_cases hlt : k < l1.length
      · obtain ⟨x, hx⟩ : ∃ x, l1[k]? = some x := ⟨_, List.getElem?_eq_getElem hlt⟩
        obtain ⟨y, hy⟩ : ∃ y, l2[k]? = some y := ⟨_, List.getElem?_eq_getElem (by rw [← Hlen.out]; exact hlt)⟩
        obtain ⟨b1, o1, rfl, hc1⟩ := (RdS.below H1.out hb (Nat.le_refl _)) k x hx
        obtain ⟨b2, o2, rfl, hc2⟩ := (RdS.below H2.out hb (Nat.le_refl _)) k y hy
        have hlt2 : k < l2.length := by rw [← Hlen.out]; exact hlt
        have Hx := Lib.hid hx
        have Hy := Lib.hid hy
        clear hx hy
        by_cases hxy : x = y
        · have e2 : (x.toList == y.toList) = true := by rw [hxy]; exact beq_self_eq_true _
          have Hxy := Lib.hid hxy
          clear hxy
          go_wp2_with fail
          go_quiet (fail)
          go_wp2_with fail
          exact ⟨⟨k + 1, by omega, by go_num, take_step Hx.out Hy.out Hxy.out H.out, below_drewN hb _⟩, by simp [intOf]; omega⟩
        · have e2 : (x.toList == y.toList) = false := by rw [same_bytes]; simp; exact fun h => hxy (ByteArray.ext h)
          have Hne : Hid (¬ l1 = l2) := fun h => by
            have e := Hx.out
            rw [h, Hy.out] at e
            exact hxy (Option.some.inj e).symm
          clear hxy
          go_wp2_with fail
          go_quiet (fail)
          go_wp2_with fail
          go_ret
          exact ⟨by rw [decide_eq_false Hne.out]; rfl, below_drewN hb _⟩
      · have He : Hid (l1 = l2) := by
          have := H.out
          rw [List.take_of_length_le (by omega), List.take_of_length_le (by rw [← Hlen.out]; omega)] at this
          exact this
        clear H
        go_wp2_with fail
        go_ret
        exact ⟨by rw [decide_eq_true He.out]; rfl, hb⟩
  · have e1 : ((l1.length : Int) != l2.length) = true := by rw [bne_iff_ne]; omega
    have Hne : Hid (¬ l1 = l2) := fun h => hlen (by rw [h])
    clear hlen
    go_enter Tryd.func17, Tryd.ntmps17
    go_wp2_with fail
    go_ret
    exact ⟨by rw [decide_eq_false Hne.out]; rfl, Below.refl _ _⟩

set_option maxHeartbeats 1000000 in
theorem markStringS_any (v : Value) (l : List ByteArray) (B : Nat) (K : Nat) (w : World) (hl : l.length ≤ 1048576) (h0 : 0 < K) (hK : K ≤ 1099510579200) (h : OwnS w B v l) :
    Calls Tryd.prog 20 #[v, .int .i64 K] w fun e w' => e = .returned (.int .i64 ((K : Int) + l.length)) ∧ OwnS w' B v (marks K l.length) ∧ w.grownBy w' v.ownBlock := by
  rcases h with ⟨rfl, hn, _⟩ | ⟨g, cap, rfl, hB, r⟩
  · obtain rfl := List.eq_nil_of_length_eq_zero hn
    go_enter Tryd.func20, Tryd.ntmps20
    go_wp2_with fail
    refine wp_loop_rounds 1 ?_
    rw [rounds_succ]
    go_wp2_with fail
    go_ret
    exact ⟨by simp, Own.nil _ _ _, World.grownBy.refl _ _⟩
  · have hown : OwnS w B (.slice (some ⟨g, 0, none⟩) l.length cap) l := .inr ⟨g, cap, rfl, hB, r⟩
    have hgs := r.lt
    clear r
    generalize hN : l.length = N at *
    have HN := Lib.hid hN
    clear hN
    go_enter Tryd.func20, Tryd.ntmps20
    go_wp2_with fail
    go_loopw [1, 5] (fun q i wr => ∃ (k : Nat) (m : List ByteArray), k ≤ N ∧ i = .int .i64 k ∧ q = .int .i64 ((K : Int) + k) ∧ Hid (m.length = N ∧ ∀ j, j < k → m[j]? = some (markB (K + j))) ∧ OwnS wr B (.slice (some ⟨g, 0, none⟩) N cap) m ∧ w.grownBy wr (some g)) (fun _ i _ => N - (intOf i).toNat)
    case atStart => exact ⟨0, l, Nat.zero_le _, rfl, by simp, ⟨HN.out, fun j hj => by omega⟩, hown, World.grownBy.refl _ _⟩
    case round =>
      obtain ⟨k, m, hk, rfl, rfl, H, hm, hg⟩ := hrel
      have hgz := hg.size
      by_cases hlt : k < N
      · go_wp2_with fail
        refine (markText_any (K + k) (by omega) (by omega) _).mono ?_
        rintro e w1 ⟨rfl, hb1⟩
        have hm1 := hm.below hb1 (Nat.le_refl _)
        have hml : m.length = N := H.out.1
        obtain ⟨⟨u, hu⟩, hf⟩ := hm1.at_ k (by rw [hml]; exact hlt)
        have Hml := Lib.hid hml
        have Hm1 := Lib.hid hm1
        clear hml hm1 hm
        have hgw : w1.heap.size > g := by have := hb1.size; omega
        go_wp2_with fail
        have hml := Hml.out
        have hs := OwnS.store (B := B) (g := g) (cap := cap) (l := m) (by rw [hml]; exact Hm1.out) k (by rw [hml]; exact hlt) (markB (K + k))
        rw [List.length_set, hml] at hs
        refine ⟨⟨k + 1, m.set k (markB (K + k)), by omega, by go_num, by push_cast; rw [Int.add_assoc], ⟨by rw [List.length_set, hml], fun j hj => ?_⟩, hs, ?_⟩, by simp [intOf]; omega⟩
        · by_cases hjk : j = k
          · subst hjk; rw [List.getElem?_set_self (by omega)]
          · rw [List.getElem?_set_ne (by omega)]; exact H.out.2 j (by omega)
        · refine ⟨by rw [← hg.os, ← hb1.os]; rfl, by rw [← hg.tape, ← hb1.tape]; rfl, by rw [← hg.output, ← hb1.output]; rfl, by have := hb1.size; simp [World.setCell]; omega, fun i hi hne => ?_⟩
          rw [Below.heap_setCell _ _ _ _ (by intro e; exact hne (by rw [e])), hb1.block i (by omega), hg.block i hi hne]
      · obtain rfl : k = N := by omega
        have hml : m.length = k := H.out.1
        have he : m = marks K k := marks_eq hml H.out.2
        have He := Lib.hid he
        clear he hml H
        go_wp2_with fail
        go_ret
        exact ⟨rfl, by rw [← He.out]; exact hm, hg⟩

set_option maxHeartbeats 1000000 in
theorem heldStringS_any (ao : Option Addr) (cap N K : Nat) (w : World) (hl : N ≤ 1048576) (h0 : 0 < K) (hK : K ≤ 1099510579200) (h : RdS w ao (marks K N)) :
    Calls Tryd.prog 21 #[.slice ao N cap, .int .i64 K] w fun e w' => e = .returned (.int .i64 ((K : Int) + N)) ∧ Below w.heap.size w w' := by
  have H := Lib.hid h
  clear h
  go_enter Tryd.func21, Tryd.ntmps21
  go_wp2_with fail
  go_loopw [1, 5] (fun q i wr => ∃ k : Nat, k ≤ N ∧ i = .int .i64 k ∧ q = .int .i64 ((K : Int) + k) ∧ Below w.heap.size w wr) (fun _ i _ => N - (intOf i).toNat)
  case atStart => exact ⟨0, Nat.zero_le _, rfl, by simp, Below.refl _ _⟩
  case round =>
    obtain ⟨k, hk, rfl, rfl, hb⟩ := hrel
    have hbs := hb.size
    by_cases hlt : k < N
    · obtain ⟨b, o, rfl, hc⟩ := (RdS.below H.out hb (Nat.le_refl _)) k _ (marks_get K N k hlt)
      go_wp2_with fail
      refine wp_region_quiet_below Tryd.checked.mixed (by kernel_rfl) ?_
      have hc' := cell_regrown hc
      repeat (any_goals (first
        | go_big_quiet_step ((go_at_call 53; exact Calls.regrown_of (markText_any (K + k) (by omega) (by omega) _)))
        | quiet_step ((go_at_call 53; exact Calls.regrown_of (markText_any (K + k) (by omega) (by omega) _)))))
      refine wpQuiet_nil ?_
      intro _ hw'
      obtain ⟨⟨dq, osq⟩, hw''⟩ := hw'
      subst hw''
      clear hc'
      go_wp2_with fail
      exact ⟨⟨k + 1, by omega, by go_num, by push_cast; rw [Int.add_assoc], hb.trans ((below_regrown wr dq osq).mono hbs)⟩, by simp [intOf]; omega⟩
    · go_wp2_with fail
      obtain rfl : k = N := by omega
      go_ret
      exact ⟨rfl, hb⟩

set_option maxHeartbeats 1000000 in
theorem szStringS_any (ao : Option Addr) (cap : Nat) (l : List ByteArray) (left : Int) (w : World) (hl : l.length ≤ 9223372036854775807) (hs : ∀ x ∈ l, x.size ≤ 9223372036854775807) (h0 : 0 ≤ left) (h1 : left ≤ 1048576) (h : RdS w ao l) :
    Calls Tryd.prog 13 #[.slice ao l.length cap, .int .i64 left] w fun e w' => e = .returned (.int .i64 (szV l left)) ∧ w = w' := by
  have H := Lib.hid h
  have HS := Lib.hid hs
  clear h hs
  by_cases hlen : (l.length : Int) ≤ left
  · go_enter Tryd.func13, Tryd.ntmps13
    go_wp2_with fail
    go_loop [1, 5] (fun q i => ∃ k : Nat, k ≤ l.length ∧ i = .int .i64 k ∧ q = .int .i64 (left - l.length - (sumS (l.take k) : Int)) ∧ (sumS (l.take k) : Int) ≤ left - l.length) (fun _ i => l.length - (intOf i).toNat)
    case atStart => exact ⟨0, Nat.zero_le _, rfl, by simp [sumS], by simp [sumS]; omega⟩
    case round =>
      obtain ⟨k, hk, rfl, rfl, hle⟩ := hrel
      by_cases hlt : k < l.length
      · obtain ⟨x, hx⟩ : ∃ x, l[k]? = some x := ⟨_, List.getElem?_eq_getElem hlt⟩
        obtain ⟨b, o, rfl, hc⟩ := H.out k x hx
        have hxs := HS.out x (List.mem_of_getElem? hx)
        have Hx := Lib.hid (sumS_step hx)
        have Hl := Lib.hid (sumS_le (l := l) (k + 1))
        clear hx
        generalize hS : sumS (l.take k) = S at *
        have HSS := Lib.hid hS
        clear hS
        by_cases hneg : left - l.length - S - x.size < 0
        · go_wp2_with fail
          go_ret
          exact ⟨by rw [szV_no (by have := Hx.out; have := Hl.out; rw [totS_eq]; push_cast; omega)]; rfl, rfl⟩
        · go_wp2_with fail
          exact ⟨⟨k + 1, by omega, by go_num, by rw [Hx.out]; congr 1; push_cast; omega, by rw [Hx.out]; push_cast; omega⟩, by simp [intOf]; omega⟩
      · obtain rfl : k = l.length := by omega
        rw [List.take_length] at hle
        have e : szV l left = left - l.length - (sumS l : Int) := by rw [szV_yes (by rw [totS_eq]; push_cast; omega), totS_eq]; push_cast; omega
        have He := Lib.hid e
        clear e
        rw [List.take_length]
        go_wp2_with fail
        go_ret
        exact ⟨by rw [He.out]; rfl, rfl⟩
  · have e : szV l left = -1 := szV_no (by rw [totS_eq]; push_cast; omega)
    have He := Lib.hid e
    clear e
    go_enter Tryd.func13, Tryd.ntmps13
    go_wp2_with fail
    go_ret
    exact ⟨by rw [He.out]; rfl, rfl⟩

set_option maxHeartbeats 1000000 in
theorem toStringS_any (ao : Option Addr) (cap : Nat) (l : List ByteArray) (w : World) (hl : l.length ≤ 1048576) (h : RdS w ao l) :
    Calls Tryd.prog 15 #[.slice ao l.length cap] w fun e w' => (∃ v, e = .returned v ∧ OwnS w' w.heap.size v l) ∧ Below w.heap.size w w' := by
  have H := Lib.hid h
  clear h
  obtain ⟨i, hi, hz0, hz1, hz2⟩ := info_parts Tryd.infoStr
  have Hi := Lib.hid (And.intro hi (And.intro hz0 (And.intro hz1 hz2)))
  clear hi hz0 hz1 hz2
  go_enter Tryd.func15, Tryd.ntmps15
  go_wp2_with (at_make; refine wpList_make_full _ rfl _ _ 24 rfl w.heap.size 9 i _ 1 Tryd.underlying24 Hi.out.1 Hi.out.2.1 Hi.out.2.2.1 .i64 .i64 _ _ l.length rfl rfl rfl rfl (by rw [Hi.out.2.2.2]; omega) (by unfold maxLen; omega) (Nat.le_refl _) ?_; intro w1 hown hg)
  have hown := Own.of_ownsRow hown
  have hb1 : Below w.heap.size w w1 := (Below.refl _ w).grown hg (Nat.le_refl _) (fun k h => by cases h)
  clear hg
  generalize hgg : w.heap.size = g at *
  have Hg := Lib.hid hgg
  clear hgg
  go_loopw [4] (fun i wr => ∃ (k : Nat) (cs : List Value), k ≤ l.length ∧ i = .int .i64 k ∧ Hid (cs.length = l.length ∧ ∀ j, j < k → cs[j]? = (l[j]?).map Value.string) ∧ Own wr g 1 (.slice (some ⟨g, 0, none⟩) l.length l.length) l.length cs ∧ Below g w wr) (fun i _ => l.length - (intOf i).toNat)
  case atStart => exact ⟨0, _, Nat.zero_le _, rfl, ⟨by have := hown.len; omega, fun j hj => by omega⟩, hown, hb1⟩
  case round =>
    obtain ⟨k, cs, hk, rfl, HC, hown, hb⟩ := hrel
    have hbs := hb.size
    by_cases hlt : k < l.length
    · obtain ⟨x, hx⟩ : ∃ x, l[k]? = some x := ⟨_, List.getElem?_eq_getElem hlt⟩
      obtain ⟨b, o, rfl, hc⟩ := (RdS.below H.out hb (by rw [Hg.out]; exact Nat.le_refl _)) k x hx
      obtain ⟨⟨u, hu⟩, hf⟩ := hown.at1 k hlt
      have Hx := Lib.hid hx
      have Ho := Lib.hid hown
      clear hx hown
      go_wp2_with fail
      refine ⟨⟨k + 1, cs.set k (.string x), by omega, by go_num, ⟨by rw [List.length_set]; exact HC.out.1, fun j hj => ?_⟩, Ho.out.store1 k hlt _, hb.setCell (Nat.le_refl _) _⟩, by simp [intOf]; omega⟩
      by_cases hjk : j = k
      · subst hjk; rw [List.getElem?_set_self (by rw [HC.out.1]; exact hlt), Hx.out]; rfl
      · rw [List.getElem?_set_ne (by omega)]; exact HC.out.2 j (by omega)
    · obtain rfl : k = l.length := by omega
      have he := Lib.hid (strC_of HC.out.1 HC.out.2)
      go_wp2_with fail
      go_ret
      exact ⟨⟨_, rfl, by unfold OwnS; rw [← he.out, Hg.out]; exact hown⟩, by rw [Hg.out]; exact hb⟩

end Go.Proofs.YtcehbmlibfalaaaDoor
