/-
  The walks of what a law does with files: their size, their copy, the test for sameness.
-/
import Derived.Test.YtdecehecjlbbiaaBase4
import Derived.Test.YtdecehecjlbbiaaJStrs1
import Derived.Test.YtdecehecjlbbiaaBase7
namespace Go.Proofs.Ytdecehecjlbbiaa
open Go.RowKit

theorem szFile_any (x : Fl) (left : Int) (w : World) (h1 : x.1.size ≤ 9223372036854775807) (h2 : x.2.1.size ≤ 9223372036854775807) (l0 : 0 ≤ left) (l1 : left ≤ 1048576) :
    Calls Try.prog 97 #[.agg #[.string x.1, .string x.2.1, .int .i64 x.2.2], .int .i64 left] w fun e w' => e = .returned (.int .i64 (if (x.1.size : Int) + x.2.1.size ≤ left then left - x.1.size - x.2.1.size else -1)) ∧ Below w.heap.size w w' := by
  obtain ⟨a, b, n⟩ := x
  simp only at h1 h2 ⊢
  have HB := Lib.hid ((Below.refl w.heap.size w).alloc (Nat.le_refl _) (.cells #[.string a, .string b, .int .i64 n] 110))
  by_cases t1 : (a.size : Int) ≤ left
  · by_cases t2 : (a.size : Int) + b.size ≤ left
    · rw [if_pos t2]
      have n1 : ¬ (left - (a.size : Int) < 0) := by omega
      have n2 : ¬ (left - (a.size : Int) - (b.size : Int) < 0) := by omega
      go_enter Try.func97, Try.ntmps97
      go_wp2_with fail
      go_ret
      exact ⟨rfl, HB.out⟩
    · rw [if_neg t2]
      have n1 : ¬ (left - (a.size : Int) < 0) := by omega
      have n2 : left - (a.size : Int) - (b.size : Int) < 0 := by omega
      go_enter Try.func97, Try.ntmps97
      go_wp2_with fail
      go_ret
      exact ⟨rfl, HB.out⟩
  · rw [if_neg (by omega)]
    have n1 : left - (a.size : Int) < 0 := by omega
    go_enter Try.func97, Try.ntmps97
    go_wp2_with fail
    go_ret
    exact ⟨rfl, HB.out⟩

set_option maxHeartbeats 1000000 in
theorem szFileS_any (ao : Option Addr) (cap : Nat) (l : List Fl) (left : Int) (w : World) (hl : l.length ≤ 9223372036854775807) (hs : ∀ x ∈ l, x.1.size ≤ 9223372036854775807 ∧ x.2.1.size ≤ 9223372036854775807) (h0 : 0 ≤ left) (h1 : left ≤ 1048576) (h : RdF w ao l) :
    Calls Try.prog 62 #[.slice ao l.length cap, .int .i64 left] w fun e w' => e = .returned (.int .i64 (szFl l left)) ∧ Below w.heap.size w w' := by
  have H := Lib.hid h
  have HS := Lib.hid hs
  clear h hs
  by_cases hlen : (l.length : Int) ≤ left
  · go_enter Try.func62, Try.ntmps62
    go_wp2_with fail
    go_loopw [1, 5] (fun q i wr => ∃ k : Nat, k ≤ l.length ∧ i = .int .i64 k ∧ q = .int .i64 (left - l.length - (sumFl (l.take k) : Int)) ∧ (sumFl (l.take k) : Int) ≤ left - l.length ∧ Below w.heap.size w wr) (fun _ i _ => l.length - (intOf i).toNat)
    case atStart => exact ⟨0, Nat.zero_le _, rfl, by simp [sumFl], by simp [sumFl]; omega, Below.refl _ _⟩
    case round =>
      obtain ⟨k, hk, rfl, rfl, hle, hb⟩ := hrel
      have hbs := hb.size
      by_cases hlt : k < l.length
      · obtain ⟨x, hx⟩ : ∃ x, l[k]? = some x := ⟨_, List.getElem?_eq_getElem hlt⟩
        obtain ⟨b, o, rfl, hc1, hc2, hc3⟩ := (H.out.below hb (Nat.le_refl _)).at_ k x hx
        have hxs := HS.out x (List.mem_of_getElem? hx)
        have Hx := Lib.hid (sumFl_step hx)
        have Hl := Lib.hid (sumFl_le (l := l) (k + 1))
        have C0 := fun wx q0 q1 => szFile_any x (left - l.length - (sumFl (l.take k) : Int)) wx hxs.1 hxs.2 q0 q1
        have C := Lib.hid (fun wx => C0 wx (by omega) (by omega))
        obtain ⟨xa, xb, xn⟩ := x
        simp only at hc1 hc2 hc3 C0 Hx
        clear hx C0 hxs
        by_cases hneg : (xa.size : Int) + xb.size ≤ left - l.length - (sumFl (l.take k) : Int)
        · have C2 := fun wx => C.out wx
          simp only [if_pos hneg] at C2
          have hq : left - l.length - (sumFl (l.take k) : Int) - xa.size - xb.size = left - l.length - (sumFl (l.take (k + 1)) : Int) := by rw [Hx.out]; push_cast; omega
          have hq2 : ¬ (left - l.length - (sumFl (l.take (k + 1)) : Int) < 0) := by rw [Hx.out]; push_cast; omega
          have hq3 := Lib.hid (show (sumFl (l.take (k + 1)) : Int) ≤ left - l.length by rw [Hx.out]; push_cast; omega)
          rw [hq] at C2
          have D := Lib.hid C2
          clear C2 C Hx hq hneg hle
          generalize hS2 : (sumFl (l.take (k + 1)) : Int) = S2 at *
          have HS2 := Lib.hid hS2
          clear hS2
          generalize (sumFl (l.take k) : Int) = S at *
          go_wp2_with fail
          refine (D.out wr).mono ?_
          rintro e w2 ⟨rfl, hb2⟩
          have HB2 := Lib.hid (hb.trans (hb2.mono hbs))
          clear hb2
          go_wp2_with fail
          exact ⟨⟨k + 1, by omega, by go_num, by rw [HS2.out], by rw [HS2.out]; exact hq3.out, HB2.out⟩, by simp [intOf]; omega⟩
        · have C2 := fun wx => C.out wx
          simp only [if_neg hneg] at C2
          have D := Lib.hid C2
          have E := Lib.hid (szFl_no (l := l) (left := left) (by have := Hx.out; have := Hl.out; push_cast; omega))
          clear C2 C Hx hneg Hl hle
          generalize (sumFl (l.take k) : Int) = S at *
          go_wp2_with fail
          refine (D.out wr).mono ?_
          rintro e w2 ⟨rfl, hb2⟩
          have HB2 := Lib.hid (hb.trans (hb2.mono hbs))
          clear hb2
          go_wp2_with fail
          go_ret
          exact ⟨by rw [E.out]; rfl, HB2.out⟩
      · obtain rfl : k = l.length := by omega
        rw [List.take_length] at hle
        have He := Lib.hid (szFl_yes (l := l) (left := left) (by omega))
        rw [List.take_length]
        go_wp2_with fail
        go_ret
        exact ⟨by rw [He.out]; rfl, hb⟩
  · have He := Lib.hid (szFl_no (l := l) (left := left) (by omega))
    go_enter Try.func62, Try.ntmps62
    go_wp2_with fail
    go_ret
    exact ⟨by rw [He.out]; rfl, Below.refl _ _⟩

theorem toFile_any (x : Fl) (w : World) : Calls Try.prog 98 #[.agg #[.string x.1, .string x.2.1, .int .i64 x.2.2]] w fun e w' => e = .returned (.agg #[.string x.1, .string x.2.1, .int .i64 x.2.2]) ∧ Below w.heap.size w w' := by
  obtain ⟨a, b, n⟩ := x
  have hz1 := alloc_size w (.cells #[.string a, .string b, .int .i64 n] 110)
  have hz2 := alloc_size (w.alloc (.cells #[.string a, .string b, .int .i64 n] 110)) (.cells #[.string a, .string b, .int .i64 n] 49)
  have hB := (((Below.refl w.heap.size w).alloc (Nat.le_refl _) (.cells #[.string a, .string b, .int .i64 n] 110)).alloc (by omega) (.cells #[.string a, .string b, .int .i64 n] 49)).alloc (by omega) (.cells #[.string a, .string b, .int .i64 n] 49)
  have hD := (Blk.new (w.alloc (.cells #[.string a, .string b, .int .i64 n] 110)) 49 [.string a, .string b, .int .i64 n] _ rfl).alloc (.cells #[.string a, .string b, .int .i64 n] 49)
  rw [hz1] at hD
  have HB := Lib.hid hB
  have HD := Lib.hid hD
  clear hz1 hz2 hB hD
  go_enter Try.func98, Try.ntmps98
  go_wp2_with fail
  refine bodyPost_ret (results_cell_row rfl _ _ (w.heap.size + 1) 49 #[.string a, .string b, .int .i64 n] (0, 0) _ rfl HD.out Try.underlying49 rfl (by kernel_rfl)) rfl ?_
  exact ⟨rfl, HB.out⟩

theorem eqFile_any (x y : Fl) (w : World) : Calls Try.prog 99 #[.agg #[.string x.1, .string x.2.1, .int .i64 x.2.2], .agg #[.string y.1, .string y.2.1, .int .i64 y.2.2]] w fun e w' => e = .returned (.bool (decide (x = y))) ∧ Below w.heap.size w w' := by
  obtain ⟨a, b, n⟩ := x
  obtain ⟨c, d, m⟩ := y
  have hz1 := alloc_size w (.cells #[.string a, .string b, .int .i64 n] 49)
  have HB := Lib.hid (((Below.refl w.heap.size w).alloc (Nat.le_refl _) (.cells #[.string a, .string b, .int .i64 n] 49)).alloc (by omega) (.cells #[.string c, .string d, .int .i64 m] 49))
  clear hz1
  have key : ∀ x y : ByteArray, x ≠ y → (x.toList == y.toList) = false := fun x y h => by rw [same_bytes]; simp; exact fun h2 => h (ByteArray.ext h2)
  by_cases h1 : a = c
  · subst h1
    have e1 : (a.toList == a.toList) = true := beq_self_eq_true _
    by_cases h2 : b = d
    · subst h2
      have e2 : (b.toList == b.toList) = true := beq_self_eq_true _
      by_cases h3 : n = m
      · subst h3
        have e3 : (n != n) = false := by simp
        have HE : Hid (decide (((a, b, n) : Fl) = (a, b, n)) = true) := Lib.hid (decide_eq_true rfl)
        rw [HE.out]
        clear HE
        go_enter Try.func99, Try.ntmps99
        go_wp2_with fail
        go_ret
        exact ⟨rfl, HB.out⟩
      · have e3 : (n != m) = true := bne_iff_ne.2 h3
        have HE : Hid (decide (((a, b, n) : Fl) = (a, b, m)) = false) := Lib.hid (decide_eq_false (fun h => h3 (Prod.mk.inj (Prod.mk.inj h).2).2))
        clear h3
        go_enter Try.func99, Try.ntmps99
        go_wp2_with fail
        go_ret
        exact ⟨by rw [HE.out]; rfl, HB.out⟩
    · have e2 := key b d h2
      have HE : Hid (decide (((a, b, n) : Fl) = (a, d, m)) = false) := Lib.hid (decide_eq_false (fun h => h2 (Prod.mk.inj (Prod.mk.inj h).2).1))
      clear h2
      go_enter Try.func99, Try.ntmps99
      go_wp2_with fail
      go_ret
      exact ⟨by rw [HE.out]; rfl, HB.out⟩
  · have e1 := key a c h1
    have HE : Hid (decide (((a, b, n) : Fl) = (c, d, m)) = false) := Lib.hid (decide_eq_false (fun h => h1 (Prod.mk.inj h).1))
    clear h1
    go_enter Try.func99, Try.ntmps99
    go_wp2_with fail
    go_ret
    exact ⟨by rw [HE.out]; rfl, HB.out⟩

set_option maxHeartbeats 1000000 in
theorem eqFileS_any (a1 a2 : Option Addr) (c1 c2 : Nat) (l : List Fl) (w : World) (hl : l.length ≤ 1048576) (h1 : RdF w a1 l) (h2 : RdF w a2 l) :
    Calls Try.prog 68 #[.slice a1 l.length c1, .slice a2 l.length c2] w fun e w' => e = .returned (.bool true) ∧ Below w.heap.size w w' := by
  have H1 := Lib.hid h1
  have H2 := Lib.hid h2
  clear h1 h2
  go_enter Try.func68, Try.ntmps68
  go_wp2_with fail
  go_loopw [5] (fun i wr => ∃ k : Nat, k ≤ l.length ∧ i = .int .i64 k ∧ Below w.heap.size w wr) (fun i _ => l.length - (intOf i).toNat)
  case atStart => exact ⟨0, Nat.zero_le _, rfl, Below.refl _ _⟩
  case round =>
    obtain ⟨k, hk, rfl, hb⟩ := hrel
    have hbs := hb.size
    by_cases hlt : k < l.length
    · obtain ⟨x, hx⟩ : ∃ x, l[k]? = some x := ⟨_, List.getElem?_eq_getElem hlt⟩
      obtain ⟨b1, o1, rfl, p1, p2, p3⟩ := (H1.out.below hb (Nat.le_refl _)).at_ k x hx
      obtain ⟨b2, o2, rfl, q1, q2, q3⟩ := (H2.out.below hb (Nat.le_refl _)).at_ k x hx
      have C := fun (W : World) => eqFile_any x x W
      simp only [decide_true] at C
      obtain ⟨xa, xb, xn⟩ := x
      simp only at p1 p2 p3 q1 q2 q3 C
      have HC := Lib.hid C
      clear hx C
      go_wp2_with fail
      refine wp_region_quiet_below Try.checked.mixed (by kernel_rfl) ?_
      have p1' := cell_regrown p1
      have p2' := cell_regrown p2
      have q1' := cell_regrown q1
      have q2' := cell_regrown q2
      have p3' := cell_regrown p3
      have q3' := cell_regrown q3
      repeat (any_goals (first
        | go_big_quiet_step ((go_at_call 99; exact Calls.regrown_of (HC.out _)))
        | quiet_step ((go_at_call 99; exact Calls.regrown_of (HC.out _)))))
      refine wpQuiet_nil ?_
      intro _ hw'
      obtain ⟨⟨dq, osq⟩, hw''⟩ := hw'
      subst hw''
      clear p1' p2' q1' q2' p3' q3'
      go_wp2_with fail
      exact ⟨⟨k + 1, by omega, by go_num, hb.trans ((below_regrown wr dq osq).mono hbs)⟩, by simp [intOf]; omega⟩
    · obtain rfl : k = l.length := by omega
      go_wp2_with fail
      go_ret
      exact ⟨rfl, hb⟩

set_option maxHeartbeats 1000000 in
theorem toFileS_any (ao : Option Addr) (cap : Nat) (l : List Fl) (w : World) (hl : l.length ≤ 1048576) (h : RdF w ao l) :
    Calls Try.prog 65 #[.slice ao l.length cap] w fun e w' => (∃ v, e = .returned v ∧ OwnF w' w.heap.size v l) ∧ Below w.heap.size w w' := by
  have H := Lib.hid h
  clear h
  obtain ⟨i, hi, hz0, hz1, hz2⟩ := info_parts (show (Try.prog.info? 49).map (fun i => (i.zero, i.size, i.bytes)) = some (some (.agg #[.string ⟨#[]⟩, .string ⟨#[]⟩, .int .i64 0]), 3, 40) by kernel_rfl)
  have Hi := Lib.hid (And.intro hi (And.intro hz0 (And.intro hz1 hz2)))
  clear hi hz0 hz1 hz2
  go_enter Try.func65, Try.ntmps65
  go_wp2_with (at_make; refine wpList_make_full _ rfl _ _ 27 rfl w.heap.size 49 i _ 3 Try.underlying27 Hi.out.1 Hi.out.2.1 Hi.out.2.2.1 .i64 .i64 _ _ l.length rfl rfl rfl rfl (by rw [Hi.out.2.2.2]; omega) (by unfold maxLen; omega) (Nat.le_refl _) ?_; intro w1 hown hg)
  have hown := Own.of_ownsRow hown
  have hb1 : Below w.heap.size w w1 := (Below.refl _ w).grown hg (Nat.le_refl _) (fun k h => by cases h)
  clear hg
  generalize hgg : w.heap.size = g at *
  have Hg := Lib.hid hgg
  clear hgg
  go_loopw [4] (fun i wr => ∃ (k : Nat) (cs : List Value), k ≤ l.length ∧ i = .int .i64 k ∧ Hid (cs.length = l.length * 3 ∧ ∀ j x, j < k → l[j]? = some x → cs[j * 3]? = some (.string x.1) ∧ cs[j * 3 + 1]? = some (.string x.2.1) ∧ cs[j * 3 + 2]? = some (.int .i64 x.2.2)) ∧ Own wr g 3 (.slice (some ⟨g, 0, none⟩) l.length l.length) l.length cs ∧ Below g w wr) (fun i _ => l.length - (intOf i).toNat)
  case atStart => exact ⟨0, _, Nat.zero_le _, rfl, ⟨by have := hown.len; omega, fun j x hj => by omega⟩, hown, hb1⟩
  case round =>
    obtain ⟨k, cs, hk, rfl, HC, hown, hb⟩ := hrel
    have hbs := hb.size
    by_cases hlt : k < l.length
    · obtain ⟨x, hx⟩ : ∃ x, l[k]? = some x := ⟨_, List.getElem?_eq_getElem hlt⟩
      obtain ⟨b, o, rfl, hc1, hc2, hc3⟩ := (RdF.below H.out hb (by rw [Hg.out]; exact Nat.le_refl _)).at_ k x hx
      have Hx := Lib.hid hx
      have Ho := Lib.hid hown
      have C := Lib.hid (toFile_any x wr)
      obtain ⟨xa, xb, xn⟩ := x
      simp only at hc1 hc2 hc3 C
      clear hx hown
      go_wp2_with fail
      refine C.out.mono ?_
      rintro e w2 ⟨rfl, hb2⟩
      have ho2 := Own.below Ho.out hb2 (Nat.le_refl _)
      obtain ⟨⟨u1, hu1⟩, hf1⟩ := ho2.atC (k * 3) (by omega)
      obtain ⟨⟨u2, hu2⟩, hf2⟩ := ho2.atC (k * 3 + 1) (by omega)
      obtain ⟨⟨u3, hu3⟩, hf3⟩ := ho2.atC (k * 3 + 2) (by omega)
      have Ho2 := Lib.hid ho2
      have Hb2 := Lib.hid (hb.trans (hb2.mono (by have := hb.size; have := Ho.out.block g rfl; omega)))
      clear hb2 ho2
      go_wp2_with fail
      refine ⟨⟨k + 1, ((cs.set (k * 3) (.string xa)).set (k * 3 + 1) (.string xb)).set (k * 3 + 2) (.int .i64 xn), by omega, by go_num, ⟨by rw [List.length_set, List.length_set, List.length_set]; exact HC.out.1, fun j x hj hxj => ?_⟩, ((Ho2.out.storeC (k * 3) (by omega) _).storeC (k * 3 + 1) (by omega) _).storeC (k * 3 + 2) (by omega) _, ((Hb2.out.setCell (Nat.le_refl _) _).setCell (Nat.le_refl _) _).setCell (Nat.le_refl _) _⟩, by simp [intOf]; omega⟩
      have hcl := HC.out.1
      by_cases hjk : j = k
      · subst hjk
        rw [Hx.out] at hxj
        cases hxj
        exact ⟨by rw [List.getElem?_set_ne (by omega), List.getElem?_set_ne (by omega), List.getElem?_set_self (by omega)], by rw [List.getElem?_set_ne (by omega), List.getElem?_set_self (by rw [List.length_set]; omega)], by rw [List.getElem?_set_self (by rw [List.length_set, List.length_set]; omega)]⟩
      · obtain ⟨z1, z2, z3⟩ := HC.out.2 j x (by omega) hxj
        exact ⟨by rw [List.getElem?_set_ne (by omega), List.getElem?_set_ne (by omega), List.getElem?_set_ne (by omega)]; exact z1, by rw [List.getElem?_set_ne (by omega), List.getElem?_set_ne (by omega), List.getElem?_set_ne (by omega)]; exact z2, by rw [List.getElem?_set_ne (by omega), List.getElem?_set_ne (by omega), List.getElem?_set_ne (by omega)]; exact z3⟩
    · obtain rfl : k = l.length := by omega
      have he := Lib.hid (fileC_of HC.out.1 (fun j x hx => HC.out.2 j x (List.getElem?_eq_some_iff.1 hx).1 hx))
      go_wp2_with fail
      go_ret
      exact ⟨⟨_, rfl, by unfold OwnF; rw [← he.out, Hg.out]; exact hown⟩, by rw [Hg.out]; exact hb⟩

end Go.Proofs.Ytdecehecjlbbiaa
