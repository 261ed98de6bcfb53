/-
  The walks of what a law does with operations: their size, their copy, the test for sameness, their marks and their reading.
-/
import Derived.Test.YtdecehecjlbbiaaPuAct
import Derived.Test.YtdecehecjlbbiaaFile2
namespace Go.Proofs.Ytdecehecjlbbiaa
open Go.RowKit

theorem szAct_any (x : Ac) (left : Int) (w : World) (h1 : AcSmall x 9223372036854775807) (l0 : 0 ≤ left) (l1 : left ≤ 1048576) :
    Calls Try.prog 51 #[.agg #[.int .i64 x.1, .string x.2.1, .string x.2.2.1, .string x.2.2.2], .int .i64 left] w fun e w' => e = .returned (.int .i64 (if (acLen x : Int) ≤ left then left - acLen x else -1)) ∧ Below w.heap.size w w' := by
  obtain ⟨k, a, b, c⟩ := x
  obtain ⟨h1, h2, h3⟩ := h1
  simp only at h1 h2 h3 ⊢
  unfold acLen
  simp only
  have HB := Lib.hid ((Below.refl w.heap.size w).alloc (Nat.le_refl _) (.cells #[.int .i64 k, .string a, .string b, .string c] 64))
  by_cases t1 : (a.size : Int) ≤ left
  · by_cases t2 : (a.size : Int) + b.size ≤ left
    · by_cases t3 : (a.size : Int) + b.size + c.size ≤ left
      · rw [if_pos (by push_cast; omega)]
        have n1 : ¬ (left - (a.size : Int) < 0) := by omega
        have n2 : ¬ (left - (a.size : Int) - (b.size : Int) < 0) := by omega
        have n3 : ¬ (left - (a.size : Int) - (b.size : Int) - (c.size : Int) < 0) := by omega
        have e : left - ((a.size + b.size + c.size : Nat) : Int) = left - (a.size : Int) - (b.size : Int) - (c.size : Int) := by push_cast; omega
        rw [e]
        clear e
        go_enter Try.func51, Try.ntmps51
        go_wp2_with fail
        go_ret
        exact ⟨rfl, HB.out⟩
      · rw [if_neg (by push_cast; omega)]
        have n1 : ¬ (left - (a.size : Int) < 0) := by omega
        have n2 : ¬ (left - (a.size : Int) - (b.size : Int) < 0) := by omega
        have n3 : left - (a.size : Int) - (b.size : Int) - (c.size : Int) < 0 := by omega
        go_enter Try.func51, Try.ntmps51
        go_wp2_with fail
        go_ret
        exact ⟨rfl, HB.out⟩
    · rw [if_neg (by push_cast; omega)]
      have n1 : ¬ (left - (a.size : Int) < 0) := by omega
      have n2 : left - (a.size : Int) - (b.size : Int) < 0 := by omega
      go_enter Try.func51, Try.ntmps51
      go_wp2_with fail
      go_ret
      exact ⟨rfl, HB.out⟩
  · rw [if_neg (by push_cast; omega)]
    have n1 : left - (a.size : Int) < 0 := by omega
    go_enter Try.func51, Try.ntmps51
    go_wp2_with fail
    go_ret
    exact ⟨rfl, HB.out⟩

set_option maxHeartbeats 1000000 in
theorem szActS_any (ao : Option Addr) (cap : Nat) (l : List Ac) (left : Int) (w : World) (hl : l.length ≤ 9223372036854775807) (hs : ∀ x ∈ l, AcSmall x 9223372036854775807) (h0 : 0 ≤ left) (h1 : left ≤ 1048576) (h : RdA w ao l) :
    Calls Try.prog 55 #[.slice ao l.length cap, .int .i64 left] w fun e w' => e = .returned (.int .i64 (szAc l left)) ∧ Below w.heap.size w w' := by
  have H := Lib.hid h
  have HS := Lib.hid hs
  clear h hs
  by_cases hlen : (l.length : Int) ≤ left
  · go_enter Try.func55, Try.ntmps55
    go_wp2_with fail
    go_loopw [1, 5] (fun q i wr => ∃ k : Nat, k ≤ l.length ∧ i = .int .i64 k ∧ q = .int .i64 (left - l.length - (sumAc (l.take k) : Int)) ∧ (sumAc (l.take k) : Int) ≤ left - l.length ∧ Below w.heap.size w wr) (fun _ i _ => l.length - (intOf i).toNat)
    case atStart => exact ⟨0, Nat.zero_le _, rfl, by simp [sumAc], by simp [sumAc]; omega, Below.refl _ _⟩
    case round =>
      obtain ⟨k, hk, rfl, rfl, hle, hb⟩ := hrel
      have hbs := hb.size
      by_cases hlt : k < l.length
      · obtain ⟨x, hx⟩ : ∃ x, l[k]? = some x := ⟨_, List.getElem?_eq_getElem hlt⟩
        obtain ⟨b, o, rfl, hc1, hc2, hc3, hc4⟩ := (H.out.below hb (Nat.le_refl _)).at_ k x hx
        have hxs := HS.out x (List.mem_of_getElem? hx)
        have Hx := Lib.hid (sumAc_step hx)
        have Hl := Lib.hid (sumAc_le (l := l) (k + 1))
        have C0 := fun wx q0 q1 => szAct_any x (left - l.length - (sumAc (l.take k) : Int)) wx hxs q0 q1
        have C := Lib.hid (fun wx => C0 wx (by omega) (by omega))
        generalize hA : (acLen x : Int) = A at *
        have hA0 : 0 ≤ A := by omega
        have HA := Lib.hid hA
        obtain ⟨xk, xa, xb, xc⟩ := x
        simp only at hc1 hc2 hc3 hc4 C0
        clear hx C0 hxs hA
        by_cases hneg : A ≤ left - l.length - (sumAc (l.take k) : Int)
        · have C2 := fun wx => C.out wx
          simp only [if_pos hneg] at C2
          have hq : left - l.length - (sumAc (l.take k) : Int) - A = left - l.length - (sumAc (l.take (k + 1)) : Int) := by rw [Hx.out, ← HA.out]; push_cast; omega
          have hq2 : ¬ (left - l.length - (sumAc (l.take (k + 1)) : Int) < 0) := by rw [Hx.out]; have := HA.out; push_cast; omega
          have hq3 := Lib.hid (show (sumAc (l.take (k + 1)) : Int) ≤ left - l.length by rw [Hx.out]; have := HA.out; push_cast; omega)
          rw [hq] at C2
          have D := Lib.hid C2
          clear C2 C Hx hq hneg hle HA hA0
          generalize hS2 : (sumAc (l.take (k + 1)) : Int) = S2 at *
          have HS2 := Lib.hid hS2
          clear hS2
          generalize (sumAc (l.take k) : Int) = S at *
          go_wp2_with fail
          refine (D.out wr).mono ?_
          rintro e w2 ⟨rfl, hb2⟩
          have HB2 := Lib.hid (hb.trans (hb2.mono hbs))
          clear hb2
          go_wp2_with fail
          exact ⟨⟨k + 1, by omega, by go_num, by rw [HS2.out], by rw [HS2.out]; exact hq3.out, HB2.out⟩, by simp [intOf]; omega⟩
        · have C2 := fun wx => C.out wx
          simp only [if_neg hneg] at C2
          have D := Lib.hid C2
          have E := Lib.hid (szAc_no (l := l) (left := left) (by have := Hx.out; have := Hl.out; have := HA.out; push_cast; omega))
          clear C2 C Hx hneg Hl hle HA hA0
          generalize (sumAc (l.take k) : Int) = S at *
          go_wp2_with fail
          refine (D.out wr).mono ?_
          rintro e w2 ⟨rfl, hb2⟩
          have HB2 := Lib.hid (hb.trans (hb2.mono hbs))
          clear hb2
          go_wp2_with fail
          go_ret
          exact ⟨by rw [E.out]; rfl, HB2.out⟩
      · obtain rfl : k = l.length := by omega
        rw [List.take_length] at hle
        have He := Lib.hid (szAc_yes (l := l) (left := left) (by omega))
        rw [List.take_length]
        go_wp2_with fail
        go_ret
        exact ⟨by rw [He.out]; rfl, hb⟩
  · have He := Lib.hid (szAc_no (l := l) (left := left) (by omega))
    go_enter Try.func55, Try.ntmps55
    go_wp2_with fail
    go_ret
    exact ⟨by rw [He.out]; rfl, Below.refl _ _⟩

set_option maxHeartbeats 1000000 in
theorem toAct_any (x : Ac) (w : World) : Calls Try.prog 53 #[.agg #[.int .i64 x.1, .string x.2.1, .string x.2.2.1, .string x.2.2.2]] w fun e w' => e = .returned (.agg #[.int .i64 x.1, .string x.2.1, .string x.2.2.1, .string x.2.2.2]) ∧ Below w.heap.size w w' := by
  obtain ⟨n, a, b, c⟩ := x
  have hz1 := alloc_size w (.cells #[.int .i64 n, .string a, .string b, .string c] 64)
  have hz2 := alloc_size (w.alloc (.cells #[.int .i64 n, .string a, .string b, .string c] 64)) (.cells #[.int .i64 n, .string a, .string b, .string c] 67)
  have hB := (((Below.refl w.heap.size w).alloc (Nat.le_refl _) (.cells #[.int .i64 n, .string a, .string b, .string c] 64)).alloc (by omega) (.cells #[.int .i64 n, .string a, .string b, .string c] 67)).alloc (by omega) (.cells #[.int .i64 n, .string a, .string b, .string c] 67)
  have hD := (Blk.new (w.alloc (.cells #[.int .i64 n, .string a, .string b, .string c] 64)) 67 [.int .i64 n, .string a, .string b, .string c] _ rfl).alloc (.cells #[.int .i64 n, .string a, .string b, .string c] 67)
  rw [hz1] at hD
  have HB := Lib.hid hB
  have HD := Lib.hid hD
  clear hz1 hz2 hB hD
  go_enter Try.func53, Try.ntmps53
  go_wp2_with fail
  refine bodyPost_ret (results_cell_row rfl _ _ (w.heap.size + 1) 67 #[.int .i64 n, .string a, .string b, .string c] (0, 0) _ rfl HD.out Try.underlying67 rfl (by kernel_rfl)) rfl ?_
  exact ⟨rfl, HB.out⟩

set_option maxHeartbeats 1000000 in
theorem eqAct_same (x : Ac) (w : World) : Calls Try.prog 84 #[.agg #[.int .i64 x.1, .string x.2.1, .string x.2.2.1, .string x.2.2.2], .agg #[.int .i64 x.1, .string x.2.1, .string x.2.2.1, .string x.2.2.2]] w fun e w' => e = .returned (.bool true) ∧ Below w.heap.size w w' := by
  obtain ⟨n, a, b, c⟩ := x
  have hz1 := alloc_size w (.cells #[.int .i64 n, .string a, .string b, .string c] 67)
  have HB := Lib.hid (((Below.refl w.heap.size w).alloc (Nat.le_refl _) (.cells #[.int .i64 n, .string a, .string b, .string c] 67)).alloc (by omega) (.cells #[.int .i64 n, .string a, .string b, .string c] 67))
  clear hz1
  have e0 : (n != n) = false := by simp
  have e1 : (a.toList == a.toList) = true := beq_self_eq_true _
  have e2 : (b.toList == b.toList) = true := beq_self_eq_true _
  have e3 : (c.toList == c.toList) = true := beq_self_eq_true _
  go_enter Try.func84, Try.ntmps84
  go_wp2_with fail
  go_ret
  exact ⟨rfl, HB.out⟩

set_option maxHeartbeats 1000000 in
theorem eqActS_any (a1 a2 : Option Addr) (c1 c2 : Nat) (l : List Ac) (w : World) (hl : l.length ≤ 1048576) (h1 : RdA w a1 l) (h2 : RdA w a2 l) :
    Calls Try.prog 39 #[.slice a1 l.length c1, .slice a2 l.length c2] w fun e w' => e = .returned (.bool true) ∧ Below w.heap.size w w' := by
  have H1 := Lib.hid h1
  have H2 := Lib.hid h2
  clear h1 h2
  go_enter Try.func39, Try.ntmps39
  go_wp2_with fail
  go_loopw [5] (fun i wr => ∃ k : Nat, k ≤ l.length ∧ i = .int .i64 k ∧ Below w.heap.size w wr) (fun i _ => l.length - (intOf i).toNat)
  case atStart => exact ⟨0, Nat.zero_le _, rfl, Below.refl _ _⟩
  case round =>
    obtain ⟨k, hk, rfl, hb⟩ := hrel
    have hbs := hb.size
    by_cases hlt : k < l.length
    · obtain ⟨x, hx⟩ : ∃ x, l[k]? = some x := ⟨_, List.getElem?_eq_getElem hlt⟩
      obtain ⟨b1, o1, rfl, p1, p2, p3, p4⟩ := (H1.out.below hb (Nat.le_refl _)).at_ k x hx
      obtain ⟨b2, o2, rfl, q1, q2, q3, q4⟩ := (H2.out.below hb (Nat.le_refl _)).at_ k x hx
      have C := fun (W : World) => eqAct_same x W
      obtain ⟨xk, xa, xb, xc⟩ := x
      simp only at p1 p2 p3 p4 q1 q2 q3 q4 C
      have HC := Lib.hid C
      clear hx C
      go_wp2_with fail
      refine wp_region_quiet_below Try.checked.mixed (by kernel_rfl) ?_
      have p1' := cell_regrown p1
      have p2' := cell_regrown p2
      have q1' := cell_regrown q1
      have q2' := cell_regrown q2
      have p3' := cell_regrown p3
      have q3' := cell_regrown q3
      have p4' := cell_regrown p4
      have q4' := cell_regrown q4
      repeat (any_goals (first
        | go_big_quiet_step ((go_at_call 84; exact Calls.regrown_of (HC.out _)))
        | quiet_step ((go_at_call 84; exact Calls.regrown_of (HC.out _)))))
      refine wpQuiet_nil ?_
      intro _ hw'
      obtain ⟨⟨dq, osq⟩, hw''⟩ := hw'
      subst hw''
      clear p1' p2' q1' q2' p3' q3' p4' q4'
      go_wp2_with fail
      exact ⟨⟨k + 1, by omega, by go_num, hb.trans ((below_regrown wr dq osq).mono hbs)⟩, by simp [intOf]; omega⟩
    · obtain rfl : k = l.length := by omega
      go_wp2_with fail
      go_ret
      exact ⟨rfl, hb⟩

set_option maxHeartbeats 1000000 in
theorem toActS_any (ao : Option Addr) (cap : Nat) (l : List Ac) (w : World) (hl : l.length ≤ 1048576) (h : RdA w ao l) :
    Calls Try.prog 57 #[.slice ao l.length cap] w fun e w' => (∃ v, e = .returned v ∧ OwnA w' w.heap.size v l) ∧ Below w.heap.size w w' := by
  have H := Lib.hid h
  clear h
  obtain ⟨i, hi, hz0, hz1, hz2⟩ := info_parts (show (Try.prog.info? 67).map (fun i => (i.zero, i.size, i.bytes)) = some (some (.agg #[.int .i64 0, .string ⟨#[]⟩, .string ⟨#[]⟩, .string ⟨#[]⟩]), 4, 56) by kernel_rfl)
  have Hi := Lib.hid (And.intro hi (And.intro hz0 (And.intro hz1 hz2)))
  clear hi hz0 hz1 hz2
  go_enter Try.func57, Try.ntmps57
  go_wp2_with (at_make; refine wpList_make_full _ rfl _ _ 51 rfl w.heap.size 67 i _ 4 Try.underlying51 Hi.out.1 Hi.out.2.1 Hi.out.2.2.1 .i64 .i64 _ _ l.length rfl rfl rfl rfl (by rw [Hi.out.2.2.2]; omega) (by unfold maxLen; omega) (Nat.le_refl _) ?_; intro w1 hown hg)
  have hown := Own.of_ownsRow hown
  have hb1 : Below w.heap.size w w1 := (Below.refl _ w).grown hg (Nat.le_refl _) (fun k h => by cases h)
  clear hg
  generalize hgg : w.heap.size = g at *
  have Hg := Lib.hid hgg
  clear hgg
  go_loopw [4] (fun i wr => ∃ (k : Nat) (cs : List Value), k ≤ l.length ∧ i = .int .i64 k ∧ Hid (cs.length = l.length * 4 ∧ ∀ j x, j < k → l[j]? = some x → ActIs cs j x) ∧ Own wr g 4 (.slice (some ⟨g, 0, none⟩) l.length l.length) l.length cs ∧ Below g w wr) (fun i _ => l.length - (intOf i).toNat)
  case atStart => exact ⟨0, _, Nat.zero_le _, rfl, ⟨by have := hown.len; omega, fun j x hj => by omega⟩, hown, hb1⟩
  case round =>
    obtain ⟨k, cs, hk, rfl, HC, hown, hb⟩ := hrel
    have hbs := hb.size
    by_cases hlt : k < l.length
    · obtain ⟨x, hx⟩ : ∃ x, l[k]? = some x := ⟨_, List.getElem?_eq_getElem hlt⟩
      obtain ⟨b, o, rfl, hc1, hc2, hc3, hc4⟩ := (RdA.below H.out hb (by rw [Hg.out]; exact Nat.le_refl _)).at_ k x hx
      have Ho := Lib.hid hown
      have C := Lib.hid (toAct_any x wr)
      have HN := Lib.hid (ActIs.grow4 hx HC.out.1 hlt HC.out.2)
      obtain ⟨xk, xa, xb, xc⟩ := x
      simp only at hc1 hc2 hc3 hc4 C HN
      clear hx hown
      go_wp2_with fail
      refine C.out.mono ?_
      rintro e w2 ⟨rfl, hb2⟩
      have ho2 := Own.below Ho.out hb2 (Nat.le_refl _)
      obtain ⟨⟨u1, hu1⟩, hf1⟩ := ho2.atC (k * 4) (by omega)
      obtain ⟨⟨u2, hu2⟩, hf2⟩ := ho2.atC (k * 4 + 1) (by omega)
      obtain ⟨⟨u3, hu3⟩, hf3⟩ := ho2.atC (k * 4 + 2) (by omega)
      obtain ⟨⟨u4, hu4⟩, hf4⟩ := ho2.atC (k * 4 + 3) (by omega)
      have Ho2 := Lib.hid ho2
      have Hb2 := Lib.hid (hb.trans (hb2.mono (by have := hb.size; have := Ho.out.block g rfl; omega)))
      clear hb2 ho2
      go_wp2_with fail
      exact ⟨⟨k + 1, _, by omega, by go_num, ⟨by rw [List.length_set, List.length_set, List.length_set, List.length_set]; exact HC.out.1, HN.out⟩, (((Ho2.out.storeC (k * 4) (by omega) _).storeC (k * 4 + 1) (by omega) _).storeC (k * 4 + 2) (by omega) _).storeC (k * 4 + 3) (by omega) _, (((Hb2.out.setCell (Nat.le_refl _) _).setCell (Nat.le_refl _) _).setCell (Nat.le_refl _) _).setCell (Nat.le_refl _) _⟩, by simp [intOf]; omega⟩
    · obtain rfl : k = l.length := by omega
      have he := Lib.hid (actC_of HC.out.1 (fun j x hx => HC.out.2 j x (List.getElem?_eq_some_iff.1 hx).1 hx))
      go_wp2_with fail
      go_ret
      exact ⟨⟨_, rfl, by unfold OwnA; rw [← he.out, Hg.out]; exact hown⟩, by rw [Hg.out]; exact hb⟩

end Go.Proofs.Ytdecehecjlbbiaa
