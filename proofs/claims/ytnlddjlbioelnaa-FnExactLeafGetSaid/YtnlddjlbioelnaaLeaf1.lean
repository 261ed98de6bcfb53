/-
  The walks of what a law does with entries: their size, their copy, the test for sameness; and of the search, on both sides.
-/
import Derived.Test.YtnlddjlbioelnaaPuLeaf
import Derived.Test.YtnlddjlbioelnaaStrs1
import Derived.Test.YtnlddjlbioelnaaPuArr
namespace Go.Proofs.Ytnlddjlbioelnaa
open Go.RowKit

theorem szLeaf_any (x : Lf) (left : Int) (w : World) (h1 : x.1.size ≤ 9223372036854775807) (h2 : x.2.size ≤ 9223372036854775807) (l0 : 0 ≤ left) (l1 : left ≤ 1048576) :
    Calls Try.prog 33 #[.agg #[.string x.1, .string x.2], .int .i64 left] w fun e w' => e = .returned (.int .i64 (if (x.1.size : Int) + x.2.size ≤ left then left - x.1.size - x.2.size else -1)) ∧ Below w.heap.size w w' := by
  obtain ⟨a, b⟩ := x
  simp only at h1 h2 ⊢
  have HB := Lib.hid ((Below.refl w.heap.size w).alloc (Nat.le_refl _) (.cells #[.string a, .string b] 61))
  by_cases t1 : (a.size : Int) ≤ left
  · by_cases t2 : (a.size : Int) + b.size ≤ left
    · rw [if_pos t2]
      have n1 : ¬ (left - (a.size : Int) < 0) := by omega
      have n2 : ¬ (left - (a.size : Int) - (b.size : Int) < 0) := by omega
      go_enter Try.func33, Try.ntmps33
      go_wp2_with fail
      go_ret
      exact ⟨rfl, HB.out⟩
    · rw [if_neg t2]
      have n1 : ¬ (left - (a.size : Int) < 0) := by omega
      have n2 : left - (a.size : Int) - (b.size : Int) < 0 := by omega
      go_enter Try.func33, Try.ntmps33
      go_wp2_with fail
      go_ret
      exact ⟨rfl, HB.out⟩
  · rw [if_neg (by omega)]
    have n1 : left - (a.size : Int) < 0 := by omega
    go_enter Try.func33, Try.ntmps33
    go_wp2_with fail
    go_ret
    exact ⟨rfl, HB.out⟩

set_option maxHeartbeats 1000000 in
theorem szLeafS_any (ao : Option Addr) (cap : Nat) (l : List Lf) (left : Int) (w : World) (hl : l.length ≤ 9223372036854775807) (hs : ∀ x ∈ l, x.1.size ≤ 9223372036854775807 ∧ x.2.size ≤ 9223372036854775807) (h0 : 0 ≤ left) (h1 : left ≤ 1048576) (h : RdL w ao l) :
    Calls Try.prog 14 #[.slice ao l.length cap, .int .i64 left] w fun e w' => e = .returned (.int .i64 (szF l left)) ∧ Below w.heap.size w w' := by
  have H := Lib.hid h
  have HS := Lib.hid hs
  clear h hs
  by_cases hlen : (l.length : Int) ≤ left
  · go_enter Try.func14, Try.ntmps14
    go_wp2_with fail
    go_loopw [1, 5] (fun q i wr => ∃ k : Nat, k ≤ l.length ∧ i = .int .i64 k ∧ q = .int .i64 (left - l.length - (sumF (l.take k) : Int)) ∧ (sumF (l.take k) : Int) ≤ left - l.length ∧ Below w.heap.size w wr) (fun _ i _ => l.length - (intOf i).toNat)
    case atStart => exact ⟨0, Nat.zero_le _, rfl, by simp [sumF], by simp [sumF]; omega, Below.refl _ _⟩
    case round =>
      obtain ⟨k, hk, rfl, rfl, hle, hb⟩ := hrel
      have hbs := hb.size
      by_cases hlt : k < l.length
      · obtain ⟨x, hx⟩ : ∃ x, l[k]? = some x := ⟨_, List.getElem?_eq_getElem hlt⟩
        obtain ⟨b, o, rfl, hc1, hc2⟩ := (H.out.below hb (Nat.le_refl _)).at_ k x hx
        have hxs := HS.out x (List.mem_of_getElem? hx)
        have Hx := Lib.hid (sumF_step hx)
        have Hl := Lib.hid (sumF_le (l := l) (k + 1))
        have C0 := fun wx q0 q1 => szLeaf_any x (left - l.length - (sumF (l.take k) : Int)) wx hxs.1 hxs.2 q0 q1
        have C := Lib.hid (fun wx => C0 wx (by omega) (by omega))
        obtain ⟨xa, xb⟩ := x
        simp only at hc1 hc2 C0 Hx
        clear hx C0 hxs
        by_cases hneg : (xa.size : Int) + xb.size ≤ left - l.length - (sumF (l.take k) : Int)
        · have C2 := fun wx => C.out wx
          simp only [if_pos hneg] at C2
          have hq : left - l.length - (sumF (l.take k) : Int) - xa.size - xb.size = left - l.length - (sumF (l.take (k + 1)) : Int) := by rw [Hx.out]; push_cast; omega
          have hq2 : ¬ (left - l.length - (sumF (l.take (k + 1)) : Int) < 0) := by rw [Hx.out]; push_cast; omega
          have hq3 := Lib.hid (show (sumF (l.take (k + 1)) : Int) ≤ left - l.length by rw [Hx.out]; push_cast; omega)
          rw [hq] at C2
          have D := Lib.hid C2
          clear C2 C Hx hq hneg hle
          generalize hS2 : (sumF (l.take (k + 1)) : Int) = S2 at *
          have HS2 := Lib.hid hS2
          clear hS2
          generalize (sumF (l.take k) : Int) = S at *
          go_wp2_with fail
          refine (D.out wr).mono ?_
          rintro e w2 ⟨rfl, hb2⟩
          have HB2 := Lib.hid (hb.trans (hb2.mono hbs))
          clear hb2
          go_wp2_with fail
          exact ⟨⟨k + 1, by omega, by go_num, by rw [HS2.out], by rw [HS2.out]; exact hq3.out, HB2.out⟩, by simp [intOf]; omega⟩
        · have C2 := fun wx => C.out wx
          simp only [if_neg hneg] at C2
          have D := Lib.hid C2
          have E := Lib.hid (szF_no (l := l) (left := left) (by have := Hx.out; have := Hl.out; push_cast; omega))
          clear C2 C Hx hneg Hl hle
          generalize (sumF (l.take k) : Int) = S at *
          go_wp2_with fail
          refine (D.out wr).mono ?_
          rintro e w2 ⟨rfl, hb2⟩
          have HB2 := Lib.hid (hb.trans (hb2.mono hbs))
          clear hb2
          go_wp2_with fail
          go_ret
          exact ⟨by rw [E.out]; rfl, HB2.out⟩
      · obtain rfl : k = l.length := by omega
        rw [List.take_length] at hle
        have He := Lib.hid (szF_yes (l := l) (left := left) (by omega))
        rw [List.take_length]
        go_wp2_with fail
        go_ret
        exact ⟨by rw [He.out]; rfl, hb⟩
  · have He := Lib.hid (szF_no (l := l) (left := left) (by omega))
    go_enter Try.func14, Try.ntmps14
    go_wp2_with fail
    go_ret
    exact ⟨by rw [He.out]; rfl, Below.refl _ _⟩

theorem toLeaf_any (x : Lf) (w : World) : Calls Try.prog 34 #[.agg #[.string x.1, .string x.2]] w fun e w' => e = .returned (.agg #[.string x.1, .string x.2]) ∧ Below w.heap.size w w' := by
  obtain ⟨a, b⟩ := x
  have hz1 := alloc_size w (.cells #[.string a, .string b] 61)
  have hz2 := alloc_size (w.alloc (.cells #[.string a, .string b] 61)) (.cells #[.string a, .string b] 62)
  have hB := (((Below.refl w.heap.size w).alloc (Nat.le_refl _) (.cells #[.string a, .string b] 61)).alloc (by omega) (.cells #[.string a, .string b] 62)).alloc (by omega) (.cells #[.string a, .string b] 62)
  have hD := (Blk.new (w.alloc (.cells #[.string a, .string b] 61)) 62 [.string a, .string b] _ rfl).alloc (.cells #[.string a, .string b] 62)
  rw [hz1] at hD
  have HB := Lib.hid hB
  have HD := Lib.hid hD
  clear hz1 hz2 hB hD
  go_enter Try.func34, Try.ntmps34
  go_wp2_with fail
  refine bodyPost_ret (results_cell_row rfl _ _ (w.heap.size + 1) 62 #[.string a, .string b] (0, 0) _ rfl HD.out Try.underlying62 rfl (by kernel_rfl)) rfl ?_
  exact ⟨rfl, HB.out⟩

theorem eqLeaf_any (x y : Lf) (w : World) : Calls Try.prog 35 #[.agg #[.string x.1, .string x.2], .agg #[.string y.1, .string y.2]] w fun e w' => e = .returned (.bool (decide (x = y))) ∧ Below w.heap.size w w' := by
  obtain ⟨a, b⟩ := x
  obtain ⟨c, d⟩ := y
  have hz1 := alloc_size w (.cells #[.string a, .string b] 62)
  have HB := Lib.hid (((Below.refl w.heap.size w).alloc (Nat.le_refl _) (.cells #[.string a, .string b] 62)).alloc (by omega) (.cells #[.string c, .string d] 62))
  clear hz1
  have key : ∀ x y : ByteArray, x ≠ y → (x.toList == y.toList) = false := fun x y h => by rw [same_bytes]; simp; exact fun h2 => h (ByteArray.ext h2)
  by_cases h1 : a = c
  · subst h1
    have e1 : (a.toList == a.toList) = true := beq_self_eq_true _
    by_cases h2 : b = d
    · subst h2
      have e2 : (b.toList == b.toList) = true := beq_self_eq_true _
      have HE : Hid (decide (((a, b) : Lf) = (a, b)) = true) := Lib.hid (decide_eq_true rfl)
      rw [HE.out]
      clear HE
      go_enter Try.func35, Try.ntmps35
      go_wp2_with fail
      go_ret
      exact ⟨rfl, HB.out⟩
    · have e2 := key b d h2
      have HE : Hid (decide (((a, b) : Lf) = (a, d)) = false) := Lib.hid (decide_eq_false (fun h => h2 (Prod.mk.inj h).2))
      clear h2
      go_enter Try.func35, Try.ntmps35
      go_wp2_with fail
      go_ret
      exact ⟨by rw [HE.out]; rfl, HB.out⟩
  · have e1 := key a c h1
    have HE : Hid (decide (((a, b) : Lf) = (c, d)) = false) := Lib.hid (decide_eq_false (fun h => h1 (Prod.mk.inj h).1))
    clear h1
    go_enter Try.func35, Try.ntmps35
    go_wp2_with fail
    go_ret
    exact ⟨by rw [HE.out]; rfl, HB.out⟩

set_option maxHeartbeats 1000000 in
theorem eqLeafS_any (a1 a2 : Option Addr) (c1 c2 : Nat) (l : List Lf) (w : World) (hl : l.length ≤ 1048576) (h1 : RdL w a1 l) (h2 : RdL w a2 l) :
    Calls Try.prog 18 #[.slice a1 l.length c1, .slice a2 l.length c2] w fun e w' => e = .returned (.bool true) ∧ Below w.heap.size w w' := by
  have H1 := Lib.hid h1
  have H2 := Lib.hid h2
  clear h1 h2
  go_enter Try.func18, Try.ntmps18
  go_wp2_with fail
  go_loopw [5] (fun i wr => ∃ k : Nat, k ≤ l.length ∧ i = .int .i64 k ∧ Below w.heap.size w wr) (fun i _ => l.length - (intOf i).toNat)
  case atStart => exact ⟨0, Nat.zero_le _, rfl, Below.refl _ _⟩
  case round =>
    obtain ⟨k, hk, rfl, hb⟩ := hrel
    have hbs := hb.size
    by_cases hlt : k < l.length
    · obtain ⟨x, hx⟩ : ∃ x, l[k]? = some x := ⟨_, List.getElem?_eq_getElem hlt⟩
      obtain ⟨b1, o1, rfl, p1, p2⟩ := (H1.out.below hb (Nat.le_refl _)).at_ k x hx
      obtain ⟨b2, o2, rfl, q1, q2⟩ := (H2.out.below hb (Nat.le_refl _)).at_ k x hx
      have C := fun (W : World) => eqLeaf_any x x W
      simp only [decide_true] at C
      obtain ⟨xa, xb⟩ := x
      simp only at p1 p2 q1 q2 C
      have HC := Lib.hid C
      clear hx C
      go_wp2_with fail
      refine wp_region_quiet_below Try.checked.mixed (by kernel_rfl) ?_
      have p1' := cell_regrown p1
      have p2' := cell_regrown p2
      have q1' := cell_regrown q1
      have q2' := cell_regrown q2
      repeat (any_goals (first
        | go_big_quiet_step ((go_at_call 35; exact Calls.regrown_of (HC.out _)))
        | quiet_step ((go_at_call 35; exact Calls.regrown_of (HC.out _)))))
      refine wpQuiet_nil ?_
      intro _ hw'
      obtain ⟨⟨dq, osq⟩, hw''⟩ := hw'
      subst hw''
      clear p1' p2' q1' q2'
      go_wp2_with fail
      exact ⟨⟨k + 1, by omega, by go_num, hb.trans ((below_regrown wr dq osq).mono hbs)⟩, by simp [intOf]; omega⟩
    · obtain rfl : k = l.length := by omega
      go_wp2_with fail
      go_ret
      exact ⟨rfl, hb⟩

set_option maxHeartbeats 1000000 in
theorem toLeafS_any (ao : Option Addr) (cap : Nat) (l : List Lf) (w : World) (hl : l.length ≤ 1048576) (h : RdL w ao l) :
    Calls Try.prog 16 #[.slice ao l.length cap] w fun e w' => (∃ v, e = .returned v ∧ OwnL w' w.heap.size v l) ∧ Below w.heap.size w w' := by
  have H := Lib.hid h
  clear h
  obtain ⟨i, hi, hz0, hz1, hz2⟩ := info_parts (show (Try.prog.info? 62).map (fun i => (i.zero, i.size, i.bytes)) = some (some (.agg #[.string ⟨#[]⟩, .string ⟨#[]⟩]), 2, 32) by kernel_rfl)
  have Hi := Lib.hid (And.intro hi (And.intro hz0 (And.intro hz1 hz2)))
  clear hi hz0 hz1 hz2
  go_enter Try.func16, Try.ntmps16
  go_wp2_with (at_make; refine wpList_make_full _ rfl _ _ 35 rfl w.heap.size 62 i _ 2 Try.underlying35 Hi.out.1 Hi.out.2.1 Hi.out.2.2.1 .i64 .i64 _ _ l.length rfl rfl rfl rfl (by rw [Hi.out.2.2.2]; omega) (by unfold maxLen; omega) (Nat.le_refl _) ?_; intro w1 hown hg)
  have hown := Own.of_ownsRow hown
  have hb1 : Below w.heap.size w w1 := (Below.refl _ w).grown hg (Nat.le_refl _) (fun k h => by cases h)
  clear hg
  generalize hgg : w.heap.size = g at *
  have Hg := Lib.hid hgg
  clear hgg
  go_loopw [4] (fun i wr => ∃ (k : Nat) (cs : List Value), k ≤ l.length ∧ i = .int .i64 k ∧ Hid (cs.length = l.length * 2 ∧ ∀ j x, j < k → l[j]? = some x → cs[j * 2]? = some (.string x.1) ∧ cs[j * 2 + 1]? = some (.string x.2)) ∧ Own wr g 2 (.slice (some ⟨g, 0, none⟩) l.length l.length) l.length cs ∧ Below g w wr) (fun i _ => l.length - (intOf i).toNat)
  case atStart => exact ⟨0, _, Nat.zero_le _, rfl, ⟨by have := hown.len; omega, fun j x hj => by omega⟩, hown, hb1⟩
  case round =>
    obtain ⟨k, cs, hk, rfl, HC, hown, hb⟩ := hrel
    have hbs := hb.size
    by_cases hlt : k < l.length
    · obtain ⟨x, hx⟩ : ∃ x, l[k]? = some x := ⟨_, List.getElem?_eq_getElem hlt⟩
      obtain ⟨b, o, rfl, hc1, hc2⟩ := (RdL.below H.out hb (by rw [Hg.out]; exact Nat.le_refl _)).at_ k x hx
      have Hx := Lib.hid hx
      have Ho := Lib.hid hown
      have C := Lib.hid (toLeaf_any x wr)
      obtain ⟨xa, xb⟩ := x
      simp only at hc1 hc2 C
      clear hx hown
      go_wp2_with fail
      refine C.out.mono ?_
      rintro e w2 ⟨rfl, hb2⟩
      have ho2 := Own.below Ho.out hb2 (Nat.le_refl _)
      obtain ⟨⟨u1, hu1⟩, hf1⟩ := ho2.atC (k * 2) (by omega)
      obtain ⟨⟨u2, hu2⟩, hf2⟩ := ho2.atC (k * 2 + 1) (by omega)
      have Ho2 := Lib.hid ho2
      have Hb2 := Lib.hid (hb.trans (hb2.mono (by have := hb.size; have := Ho.out.block g rfl; omega)))
      clear hb2 ho2
      go_wp2_with fail
      refine ⟨⟨k + 1, (cs.set (k * 2) (.string xa)).set (k * 2 + 1) (.string xb), by omega, by go_num, ⟨by rw [List.length_set, List.length_set]; exact HC.out.1, fun j x hj hxj => ?_⟩, (Ho2.out.storeC (k * 2) (by omega) _).storeC (k * 2 + 1) (by omega) _, (Hb2.out.setCell (Nat.le_refl _) _).setCell (Nat.le_refl _) _⟩, by simp [intOf]; omega⟩
      have hcl := HC.out.1
      by_cases hjk : j = k
      · subst hjk
        rw [Hx.out] at hxj
        cases hxj
        exact ⟨by rw [List.getElem?_set_ne (by omega), List.getElem?_set_self (by omega)], by rw [List.getElem?_set_self (by rw [List.length_set]; omega)]⟩
      · obtain ⟨z1, z2⟩ := HC.out.2 j x (by omega) hxj
        exact ⟨by rw [List.getElem?_set_ne (by omega), List.getElem?_set_ne (by omega)]; exact z1, by rw [List.getElem?_set_ne (by omega), List.getElem?_set_ne (by omega)]; exact z2⟩
    · obtain rfl : k = l.length := by omega
      have he := Lib.hid (leafC_of HC.out.1 (fun j x hx => HC.out.2 j x (List.getElem?_eq_some_iff.1 hx).1 hx))
      go_wp2_with fail
      go_ret
      exact ⟨⟨_, rfl, by unfold OwnL; rw [← he.out, Hg.out]; exact hown⟩, by rw [Hg.out]; exact hb⟩

def getL (l : List Lf) (n : ByteArray) : Value := match l.find? fun x => decide (x.1 = n) with
  | none => .tuple #[.string ⟨#[]⟩, .bool false]
  | some x => .tuple #[.string x.2, .bool true]
theorem getL_yes {l : List Lf} {n : ByteArray} {k : Nat} {x : Lf} (hx : l[k]? = some x) (h : ∀ y ∈ l.take k, y.1 ≠ n) (he : x.1 = n) : getL l n = .tuple #[.string x.2, .bool true] := by
  have e : l.find? (fun x => decide (x.1 = n)) = some x := by
    have hk := (List.getElem?_eq_some_iff.1 hx).1
    have hd : l = l.take k ++ x :: l.drop (k + 1) := by
      rw [← (List.getElem?_eq_some_iff.1 hx).2, List.getElem_cons_drop, List.take_append_drop]
    rw [hd, List.find?_append]
    have h0 : (l.take k).find? (fun x => decide (x.1 = n)) = none := List.find?_eq_none.2 (fun y hy => by simpa using h y hy)
    rw [h0]
    simp [he]
  unfold getL
  rw [e]
theorem getL_no {l : List Lf} {n : ByteArray} (h : ∀ y ∈ l, y.1 ≠ n) : getL l n = .tuple #[.string ⟨#[]⟩, .bool false] := by
  have e : l.find? (fun x => decide (x.1 = n)) = none := List.find?_eq_none.2 (fun y hy => by simpa using h y hy)
  unfold getL
  rw [e]
theorem lf_all {l : List Lf} {k : Nat} {x : Lf} {p : Lf → Prop} (hx : l[k]? = some x) (h : ∀ y ∈ l.take k, p y) (hp : p x) : ∀ y ∈ l.take (k + 1), p y := by
  intro y hy
  rw [List.take_add_one, hx] at hy
  rcases List.mem_append.1 hy with hy | hy
  · exact h y hy
  · simp at hy; rw [hy]; exact hp

set_option maxHeartbeats 1000000 in
theorem sLeafGet_any (ao : Option Addr) (cap : Nat) (l : List Lf) (n : ByteArray) (w : World) (hl : l.length ≤ 1048576) (h : RdL w ao l) :
    Calls Try.prog 15 #[.slice ao l.length cap, .string n] w fun e w' => e = .returned (getL l n) ∧ Below w.heap.size w w' := by
  have H := Lib.hid h
  clear h
  go_enter Try.func15, Try.ntmps15
  go_wp2_with fail
  go_loop [6] (fun i => ∃ k : Nat, k ≤ l.length ∧ i = .int .i64 k ∧ Hid (∀ y ∈ l.take k, y.1 ≠ n)) (fun i => l.length - (intOf i).toNat)
  case atStart => exact ⟨0, Nat.zero_le _, rfl, Lib.hid (fun y hy => by simp at hy)⟩
  case round =>
    obtain ⟨k, hk, rfl, HA⟩ := hrel
    by_cases hlt : k < l.length
    · obtain ⟨x, hx⟩ : ∃ x, l[k]? = some x := ⟨_, List.getElem?_eq_getElem hlt⟩
      obtain ⟨b, o, rfl, hc1, hc2⟩ := H.out.at_ k x hx
      have Hx := Lib.hid hx
      clear hx
      by_cases hn : x.1 = n
      · have e1 : (x.1.toList == n.toList) = true := by rw [hn]; exact beq_self_eq_true _
        have HE := Lib.hid (getL_yes Hx.out HA.out hn)
        clear hn
        go_wp2_with fail
        go_ret2
        exact ⟨by rw [HE.out]; rfl, Below.refl _ _⟩
      · have e1 : (x.1.toList == n.toList) = false := by rw [same_bytes]; simp; exact fun h2 => hn (ByteArray.ext h2)
        have HE := Lib.hid (lf_all Hx.out HA.out hn)
        clear hn
        go_wp2_with fail
        exact ⟨⟨k + 1, by omega, by go_num, HE⟩, by simp [intOf]; omega⟩
    · obtain rfl : k = l.length := by omega
      have HE := Lib.hid (getL_no (n := n) (by have := HA.out; rwa [List.take_length] at this))
      go_wp2_with fail
      go_ret2
      exact ⟨by rw [HE.out]; rfl, Below.refl _ _⟩

set_option maxHeartbeats 1000000 in
theorem iLeafGet_any (ao : Option Addr) (cap : Nat) (l : List Lf) (n : ByteArray) (w : World) (hl : l.length ≤ 1048576) (h : RdL w ao l) :
    Calls Try.prog 17 #[.slice ao l.length cap, .string n] w fun e w' => e = .returned (getL l n) ∧ Below w.heap.size w w' := by
  have H := Lib.hid h
  clear h
  go_enter Try.func17, Try.ntmps17
  go_wp2_with fail
  go_loopw [10] (fun i wr => ∃ k : Nat, k ≤ l.length ∧ i = .int .i64 k ∧ Hid (∀ y ∈ l.take k, y.1 ≠ n) ∧ Below w.heap.size w wr) (fun i _ => l.length - (intOf i).toNat)
  case atStart => exact ⟨0, Nat.zero_le _, rfl, Lib.hid (fun y hy => by simp at hy), Below.refl _ _⟩
  case round =>
    obtain ⟨k, hk, rfl, HA, hb⟩ := hrel
    have hbs := hb.size
    by_cases hlt : k < l.length
    · obtain ⟨x, hx⟩ : ∃ x, l[k]? = some x := ⟨_, List.getElem?_eq_getElem hlt⟩
      obtain ⟨b, o, rfl, hc1, hc2⟩ := (H.out.below hb (Nat.le_refl _)).at_ k x hx
      have Hx := Lib.hid hx
      have HB := Lib.hid (hb.alloc hbs (.cells #[.string x.1, .string x.2] 62))
      obtain ⟨xa, xb⟩ := x
      simp only at hc1 hc2 HB
      clear hx
      by_cases hn : xa = n
      · have e1 : (xa.toList == n.toList) = true := by rw [hn]; exact beq_self_eq_true _
        have HE := Lib.hid (getL_yes Hx.out HA.out hn)
        simp only at HE
        clear hn
        go_wp2_with fail
        go_ret2
        exact ⟨by rw [HE.out]; rfl, HB.out⟩
      · have e1 : (xa.toList == n.toList) = false := by rw [same_bytes]; simp; exact fun h2 => hn (ByteArray.ext h2)
        have HE := Lib.hid (lf_all (p := fun y => y.1 ≠ n) Hx.out HA.out hn)
        clear hn
        go_wp2_with fail
        exact ⟨⟨k + 1, by omega, by go_num, HE, HB.out⟩, by simp [intOf]; omega⟩
    · obtain rfl : k = l.length := by omega
      have HE := Lib.hid (getL_no (n := n) (by have := HA.out; rwa [List.take_length] at this))
      go_wp2_with fail
      go_ret2
      exact ⟨by rw [HE.out]; rfl, hb⟩

end Go.Proofs.Ytnlddjlbioelnaa
