/-
  Plain law: what an operation makes of a disk, as the reference tells it and as the program reaches it. No program in sight.
-/
import Derived.Test.YtdecehecjlbbiaaPuDiskOk
import Derived.Test.YtdecehecjlbbiaaPuAct
namespace Go.Proofs.Ytdecehecjlbbiaa
open Go.RowKit

def NameGood (s : ByteArray) : Prop := 1 ≤ s.size ∧ s.size ≤ 8
instance (s : ByteArray) : Decidable (NameGood s) := by unfold NameGood; infer_instance

/-- A file in its place. -/
def putL (l : List Fl) (f : Fl) : List Fl := l.filter (fun x => bless x.1 f.1) ++ f :: l.filter (fun x => bless f.1 x.1)
/-- All files but one. -/
def outL (l : List Fl) (n : ByteArray) : List Fl := l.filter fun x => decide (x.1 ≠ n)
theorem filter_step {p : Fl → Bool} {l : List Fl} {k : Nat} {x : Fl} (hx : l[k]? = some x) : (l.take (k + 1)).filter p = (l.take k).filter p ++ if p x then [x] else [] := by
  rw [List.take_add_one, hx, List.filter_append]
  congr 1
  simp only [Option.toList_some, List.filter_cons, List.filter_nil]
theorem filter_all {p : Fl → Bool} {l : List Fl} : (l.take l.length).filter p = l.filter p := by rw [List.take_length]

/-- An operation of the right form. -/
def ActGood (a : Ac) : Prop := NameGood a.2.1 ∧ (a.1 ≠ 3 → a.2.2.2.data.toList = []) ∧ (a.1 ≠ 1 → a.2.2.1.data.toList = [])
instance (a : Ac) : Decidable (ActGood a) := by unfold ActGood; infer_instance
/-- The file that an operation speaks of. -/
def fileOf (l : List Fl) (n : ByteArray) : Fl := match posF l n with
  | some k => l.getD k (n, ByteArray.empty, 0)
  | none => (n, ⟨#[]⟩, 0)
/-- The disk behind an operation, ahead of the last test. -/
def doTo (l : List Fl) (a : Ac) : Option (List Fl) :=
  if a.1 = 1 then some (putL l (a.2.1, (fileOf l a.2.1).2.1 ++ a.2.2.1, (fileOf l a.2.1).2.2))
  else match posF l a.2.1 with
    | none => none
    | some _ =>
      if a.1 = 2 then some (putL l (a.2.1, (fileOf l a.2.1).2.1, ((fileOf l a.2.1).2.1.size : Int)))
      else if a.1 = 3 then (if (fileOf l a.2.1).2.2 < ((fileOf l a.2.1).2.1.size : Int) ∨ a.2.2.2 = a.2.1 ∨ ¬ NameGood a.2.2.2 then none else some (putL (outL l a.2.1) (a.2.2.2, (fileOf l a.2.1).2.1, (fileOf l a.2.1).2.2)))
      else if a.1 = 4 then some (outL l a.2.1) else none
def doO (l : List Fl) (a : Ac) : Option (List Fl) :=
  if DiskGood l ∧ ActGood a then (match doTo l a with
    | none => none
    | some r => if DiskGood r then some r else none) else none
/-- The two results. -/
def doV (l : List Fl) (a : Ac) : List Fl × Bool := match doO l a with
  | none => ([], false)
  | some r => (r, true)
theorem doV_bad {l : List Fl} {a : Ac} (h : ¬ (DiskGood l ∧ ActGood a)) : doV l a = ([], false) := by unfold doV doO; rw [if_neg h]
theorem doV_none {l : List Fl} {a : Ac} (h : doTo l a = none) : doV l a = ([], false) := by
  unfold doV doO; rw [h]; split <;> simp_all
theorem doV_some {l r : List Fl} {a : Ac} (h : DiskGood l ∧ ActGood a) (hr : doTo l a = some r) (hg : DiskGood r) : doV l a = (r, true) := by
  unfold doV doO; rw [if_pos h, hr]; simp only [if_pos hg]
theorem doV_over {l r : List Fl} {a : Ac} (h : DiskGood l ∧ ActGood a) (hr : doTo l a = some r) (hg : ¬ DiskGood r) : doV l a = ([], false) := by
  unfold doV doO; rw [if_pos h, hr]; simp only [if_neg hg]

/-! ### Order and places -/

theorem name_ext {a b : ByteArray} (h1 : bless a b = false) (h2 : bless b a = false) : a = b := by
  rcases bless_tri a b with h | h | h
  · rw [h] at h1; cases h1
  · exact h
  · rw [h] at h2; cases h2
theorem filter_parts (l : List Fl) (f : ByteArray) : (l.filter (fun x => bless x.1 f) ++ l.filter (fun x => bless f x.1)).Perm (outL l f) := by
  induction l with
  | nil => exact List.Perm.refl _
  | cons y l ih =>
    unfold outL at ih ⊢
    simp only [List.filter_cons]
    rcases bless_tri y.1 f with h | h | h
    · have hne : y.1 ≠ f := by intro e; rw [e, bless_irr] at h; cases h
      rw [h, bless_as h, decide_eq_true hne]
      simp only [if_true, if_false, Bool.false_eq_true, List.cons_append]
      exact List.Perm.cons _ ih
    · rw [h, bless_irr, decide_eq_false (by simp)]
      simpa using ih
    · have hne : y.1 ≠ f := by intro e; rw [e, bless_irr] at h; cases h
      rw [h, bless_as h, decide_eq_true hne]
      simp only [if_true, if_false, Bool.false_eq_true]
      exact (List.perm_middle).trans (List.Perm.cons _ ih)
theorem putL_perm (l : List Fl) (f : Fl) : (putL l f).Perm (f :: outL l f.1) := (List.perm_middle).trans (List.Perm.cons _ (filter_parts l f.1))
theorem outL_none {l : List Fl} {n : ByteArray} (h : posF l n = none) : outL l n = l := by
  unfold outL
  rw [List.filter_eq_self]
  intro x hx
  exact decide_eq_true (posF_none h x hx)
theorem lower_ne {l : List Fl} (h : l.Pairwise Lower) {j k : Nat} {x y : Fl} (hx : l[j]? = some x) (hy : l[k]? = some y) (hne : j ≠ k) : x.1 ≠ y.1 := by
  intro e
  obtain ⟨hj, rfl⟩ := List.getElem?_eq_some_iff.1 hx
  obtain ⟨hk, rfl⟩ := List.getElem?_eq_some_iff.1 hy
  rcases Nat.lt_or_gt_of_ne hne with h1 | h1
  · have h2 : bless _ _ = true := List.pairwise_iff_getElem.1 h j k hj hk h1
    rw [e, bless_irr] at h2; cases h2
  · have h2 : bless _ _ = true := List.pairwise_iff_getElem.1 h k j hk hj h1
    rw [e, bless_irr] at h2; cases h2
theorem outL_some : ∀ {l : List Fl} (_ : l.Pairwise Lower) {k : Nat} {x : Fl} (_ : l[k]? = some x), outL l x.1 = l.eraseIdx k
  | [], _, k, x, hx => by simp at hx
  | y :: l, h, 0, x, hx => by
    simp at hx
    subst hx
    unfold outL
    rw [List.filter_cons, decide_eq_false (by simp), List.eraseIdx_zero]
    simp only [Bool.false_eq_true, if_false, List.tail_cons]
    rw [List.filter_eq_self]
    intro z hz
    have h2 : bless y.1 z.1 = true := (List.pairwise_cons.1 h).1 z hz
    refine decide_eq_true (fun e => ?_)
    rw [e, bless_irr] at h2; cases h2
  | y :: l, h, k + 1, x, hx => by
    rw [List.getElem?_cons_succ] at hx
    have hm := List.mem_of_getElem? hx
    have h2 : bless y.1 x.1 = true := (List.pairwise_cons.1 h).1 x hm
    have hne : y.1 ≠ x.1 := by intro e; rw [e, bless_irr] at h2; cases h2
    have ih := outL_some (List.pairwise_cons.1 h).2 hx
    unfold outL at ih ⊢
    rw [List.filter_cons, decide_eq_true hne, List.eraseIdx_cons_succ]
    simp only [if_true]
    rw [ih]
theorem set_perm : ∀ {l : List Fl} {k : Nat} (_ : k < l.length) (f : Fl), (l.set k f).Perm (f :: l.eraseIdx k)
  | [], k, hk, f => by simp at hk
  | y :: l, 0, _, f => by simp
  | y :: l, k + 1, hk, f => by
    rw [List.set_cons_succ, List.eraseIdx_cons_succ]
    exact (List.Perm.cons y (set_perm (by simpa using hk) f)).trans (List.Perm.swap f y _)
/-- The file at a place is changed, its name stays: the files are those of the reference. -/
theorem put_same {l : List Fl} (h : l.Pairwise Lower) {k : Nat} {x f : Fl} (hx : l[k]? = some x) (he : f.1 = x.1) : (l.set k f).Perm (putL l f) := by
  refine (set_perm (List.getElem?_eq_some_iff.1 hx).1 f).trans ((putL_perm l f).trans ?_).symm
  rw [he, outL_some h hx]
theorem put_new {l : List Fl} {f : Fl} (h : posF l f.1 = none) : (l ++ [f]).Perm (putL l f) := by
  refine (List.perm_append_comm (l₁ := l) (l₂ := [f])).trans ((putL_perm l f).trans ?_).symm
  rw [outL_none h]; exact List.Perm.refl _

/-! ### Sorted lists -/

theorem filter_lower {l : List Fl} (h : l.Pairwise Lower) (p : Fl → Bool) : (l.filter p).Pairwise Lower := h.filter p
theorem putL_lower {l : List Fl} (h : l.Pairwise Lower) (f : Fl) : (putL l f).Pairwise Lower := by
  unfold putL
  rw [List.pairwise_append]
  refine ⟨filter_lower h _, ?_, ?_⟩
  · rw [List.pairwise_cons]
    exact ⟨fun y hy => (List.mem_filter.1 hy).2, filter_lower h _⟩
  · intro a ha b hb
    have h1 : bless a.1 f.1 = true := (List.mem_filter.1 ha).2
    rcases List.mem_cons.1 hb with rfl | hb
    · exact h1
    · exact bless_tr h1 (List.mem_filter.1 hb).2
theorem outL_lower {l : List Fl} (h : l.Pairwise Lower) (n : ByteArray) : (outL l n).Pairwise Lower := filter_lower h _
theorem lower_unique : ∀ {l m : List Fl}, l.Pairwise Lower → m.Pairwise Lower → l.Perm m → l = m
  | [], m, _, _, h => by simpa using h.symm.eq_nil
  | x :: l, [], _, _, h => by have := h.length_eq; simp at this
  | x :: l, y :: m, hl, hm, h => by
    rw [List.pairwise_cons] at hl hm
    have hxy : x = y := by
      have h1 : x ∈ y :: m := h.mem_iff.1 (List.mem_cons_self ..)
      have h2 : y ∈ x :: l := h.mem_iff.2 (List.mem_cons_self ..)
      rcases List.mem_cons.1 h1 with e | e1
      · exact e
      · rcases List.mem_cons.1 h2 with e | e2
        · exact e.symm
        · have g1 : bless y.1 x.1 = true := hm.1 x e1
          have g2 : bless x.1 y.1 = true := hl.1 y e2
          rw [bless_as g1] at g2; cases g2
    subst hxy
    rw [lower_unique hl.2 hm.2 (List.perm_cons x |>.1 h)]
/-- What the library's sorting leaves, where the files' names differ. -/
theorem sorted_lower {l m : List Fl} (hm : m.Pairwise Lower) (hp : l.Perm m) (hs : l.Pairwise fun x y => bless y.1 x.1 = false) : l = m := by
  refine lower_unique ?_ hm hp
  have hd : l.Pairwise fun x y => x.1 ≠ y.1 := by
    have h1 : m.Pairwise fun x y => x.1 ≠ y.1 := hm.imp (fun {a b} (h : bless a.1 b.1 = true) e => by rw [e, bless_irr] at h; cases h)
    exact hp.symm.pairwise h1 (fun {a b} h e => h e.symm)
  refine (hs.and hd).imp (fun {a b} h => ?_)
  show bless a.1 b.1 = true
  rcases bless_tri a.1 b.1 with g | g | g
  · exact g
  · exact absurd g h.2
  · rw [h.1] at g; cases g

/-! ### The program's lists -/

theorem fileOf_some {l : List Fl} {n : ByteArray} {k : Nat} {x : Fl} (h : posF l n = some k) (hx : l[k]? = some x) : fileOf l n = x := by
  unfold fileOf; rw [h]; simp only; rw [List.getD_eq_getElem?_getD, hx]; rfl
theorem fileOf_none {l : List Fl} {n : ByteArray} (h : posF l n = none) : fileOf l n = (n, ⟨#[]⟩, 0) := by unfold fileOf; rw [h]
theorem doTo_add {l : List Fl} {a : Ac} (h : a.1 = 1) : doTo l a = some (putL l (a.2.1, (fileOf l a.2.1).2.1 ++ a.2.2.1, (fileOf l a.2.1).2.2)) := by unfold doTo; rw [if_pos h]
theorem doTo_none {l : List Fl} {a : Ac} (h : a.1 ≠ 1) (hp : posF l a.2.1 = none) : doTo l a = none := by unfold doTo; rw [if_neg h, hp]
theorem doTo_keep {l : List Fl} {a : Ac} {k : Nat} (h : a.1 = 2) (hp : posF l a.2.1 = some k) : doTo l a = some (putL l (a.2.1, (fileOf l a.2.1).2.1, ((fileOf l a.2.1).2.1.size : Int))) := by
  unfold doTo; rw [if_neg (by omega), hp]; simp only [if_pos h]
theorem doTo_move {l : List Fl} {a : Ac} {k : Nat} (h : a.1 = 3) (hp : posF l a.2.1 = some k) (hn : ¬ ((fileOf l a.2.1).2.2 < ((fileOf l a.2.1).2.1.size : Int) ∨ a.2.2.2 = a.2.1 ∨ ¬ NameGood a.2.2.2)) : doTo l a = some (putL (outL l a.2.1) (a.2.2.2, (fileOf l a.2.1).2.1, (fileOf l a.2.1).2.2)) := by
  unfold doTo; rw [if_neg (by omega), hp]; simp only [if_neg (show ¬ a.1 = 2 by omega), if_pos h, if_neg hn]
theorem doTo_stay {l : List Fl} {a : Ac} (h : a.1 = 3) (hn : (fileOf l a.2.1).2.2 < ((fileOf l a.2.1).2.1.size : Int) ∨ a.2.2.2 = a.2.1 ∨ ¬ NameGood a.2.2.2) : doTo l a = none := by
  unfold doTo; rw [if_neg (by omega)]
  split
  · rfl
  · rw [if_neg (by omega), if_pos h, if_pos hn]
theorem doTo_drop {l : List Fl} {a : Ac} {k : Nat} (h : a.1 = 4) (hp : posF l a.2.1 = some k) : doTo l a = some (outL l a.2.1) := by
  unfold doTo; rw [if_neg (by omega), hp]; simp only [if_neg (show ¬ a.1 = 2 by omega), if_neg (show ¬ a.1 = 3 by omega), if_pos h]
theorem doTo_other {l : List Fl} {a : Ac} (h : ¬ (1 ≤ a.1 ∧ a.1 ≤ 4)) : doTo l a = none := by
  unfold doTo; rw [if_neg (by omega)]
  split
  · rfl
  · rw [if_neg (by omega), if_neg (by omega), if_neg (by omega)]

theorem posF_at {l : List Fl} (h : l.Pairwise Lower) {k : Nat} {x : Fl} (hx : l[k]? = some x) : posF l x.1 = some k := by
  refine posF_yes hx (fun y hy => ?_) rfl
  obtain ⟨j, hj, rfl⟩ := List.mem_iff_getElem.1 hy
  rw [List.length_take] at hj
  rw [List.getElem_take]
  exact lower_ne h (List.getElem?_eq_getElem (by omega)) hx (by omega)
/-- Moving: the file of the other name is gone, the file's name is set. -/
theorem move_perm {l : List Fl} (h : l.Pairwise Lower) {k : Nat} {x : Fl} {t : ByteArray} (hx : l[k]? = some x) (hne : t ≠ x.1) {l' : List Fl} (hl' : l' = outL l t) {j : Nat} (hj : posF l' x.1 = some j) :
    (l'.set j (t, x.2.1, x.2.2)).Perm (putL (outL l x.1) (t, x.2.1, x.2.2)) ∧ l'[j]? = some x := by
  subst hl'
  have hlo := outL_lower h t
  obtain ⟨y, hy, he⟩ := posF_some hj
  have hyx : y = x := by
    have hm : y ∈ l := (List.mem_filter.1 (List.mem_of_getElem? hy)).1
    obtain ⟨i, hi, rfl⟩ := List.mem_iff_getElem.1 hm
    by_cases hik : i = k
    · subst hik
      rw [List.getElem?_eq_getElem hi] at hx
      cases hx; rfl
    · exact absurd he (lower_ne h (List.getElem?_eq_getElem hi) hx hik)
  subst hyx
  refine ⟨?_, hy⟩
  refine (set_perm (List.getElem?_eq_some_iff.1 hy).1 _).trans ((putL_perm _ _).trans ?_).symm
  refine List.Perm.cons _ ?_
  rw [← outL_some hlo hy]
  unfold outL
  rw [List.filter_filter, List.filter_filter]
  refine List.Perm.of_eq (List.filter_congr (fun z _ => ?_))
  exact Bool.and_comm _ _
theorem move_there {l : List Fl} {k : Nat} {x : Fl} {t : ByteArray} (hx : l[k]? = some x) (hne : t ≠ x.1) : ∃ j, posF (outL l t) x.1 = some j := by
  cases h : posF (outL l t) x.1 with
  | some j => exact ⟨j, rfl⟩
  | none =>
    have := posF_none h x (List.mem_filter.2 ⟨List.mem_of_getElem? hx, decide_eq_true (fun e => hne e.symm)⟩)
    exact absurd rfl this
theorem outL_at {l : List Fl} (h : l.Pairwise Lower) {n : ByteArray} {k : Nat} (hp : posF l n = some k) : outL l n = l.eraseIdx k := by
  obtain ⟨x, hx, rfl⟩ := posF_some hp
  exact outL_some h hx

end Go.Proofs.Ytdecehecjlbbiaa
