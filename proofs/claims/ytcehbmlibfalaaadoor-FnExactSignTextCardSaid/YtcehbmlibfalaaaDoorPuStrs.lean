/-
  Rows of strings: how they are read and owned; the letter m with a number behind it. No program in sight.
-/
import Derived.Test.YtcehbmlibfalaaaDoorKit3
import Derived.Test.YtcehbmlibfalaaaDoorPuPad
namespace Go.Proofs.YtcehbmlibfalaaaDoor
open Go.RowKit

/-- The cells that hold these strings. -/
def strC (l : List ByteArray) : List Value := l.map Value.string
theorem strC_length (l : List ByteArray) : (strC l).length = l.length := by simp [strC]
theorem strC_append (l m : List ByteArray) : strC (l ++ m) = strC l ++ strC m := by simp [strC]
theorem strC_get (l : List ByteArray) (j : Nat) : (strC l)[j]? = (l[j]?).map Value.string := by simp [strC]
theorem strC_one (l : List ByteArray) : ∀ u ∈ strC l, u.oneCell' = true := by
  intro u hu
  obtain ⟨_, _, rfl⟩ := List.mem_map.1 hu
  rfl

/-- A slice of strings that stands at ao reads as l. -/
def RdS (w : World) (ao : Option Addr) (l : List ByteArray) : Prop :=
  ∀ j x, l[j]? = some x → ∃ b off, ao = some ⟨b, off, none⟩ ∧ w.cell? ⟨b, off + j, none⟩ = some (.string x)

theorem RdS.below {w w' : World} {ao : Option Addr} {l : List ByteArray} {C : Nat} (h : RdS w ao l) (hb : Below C w w') (hC : w.heap.size ≤ C) : RdS w' ao l := by
  intro j x hx
  obtain ⟨b, off, e, hc⟩ := h j x hx
  have hlt := World.block_lt_of_cell? _ _ hc
  exact ⟨b, off, e, (hb.cell (p := ⟨b, off + j, none⟩) (Nat.lt_of_lt_of_le hlt hC)).trans hc⟩

/-- A row that stood before a world stands after another row of that world has been written. -/
theorem RdS.kept {w1 w w' : World} {ao : Option Addr} {l : List ByteArray} {row : Option Nat} (h : RdS w ao l) (h1 : RdS w1 ao l) (hg : w.grownBy w' row) (hr : ∀ k, row = some k → w1.heap.size ≤ k) : RdS w' ao l := by
  intro j x hx
  obtain ⟨b, off, e, hc⟩ := h j x hx
  obtain ⟨b', off', e', hc'⟩ := h1 j x hx
  have e2 : b = b' := by rw [e] at e'; cases e'; rfl
  subst e2
  have hlt := World.block_lt_of_cell? _ _ hc
  have hlt' := World.block_lt_of_cell? _ _ hc'
  refine ⟨b, off, e, (World.cell?_of_block (hg.block b hlt (fun hk => ?_))).trans hc⟩
  exact absurd (hr b hk.symm) (Nat.not_le_of_lt hlt')

theorem RdS.nil (w : World) (ao : Option Addr) : RdS w ao [] := fun j x h => by simp at h

/-- A []string of the call's own that holds l. -/
def OwnS (w : World) (B : Nat) (v : Value) (l : List ByteArray) : Prop := Own w B 1 v l.length (strC l)

theorem OwnS.nil (w : World) (B : Nat) : OwnS w B (.slice none 0 0) [] := Own.nil _ _ _
theorem OwnS.empty (w : World) (B : Nat) (e : TypeId) (hB : B ≤ w.heap.size) : OwnS (w.alloc (.cells #[] e)) B (.slice (some ⟨w.heap.size, 0, none⟩) 0 0) [] :=
  .inr ⟨w.heap.size, 0, rfl, hB, by simp, Nat.le_refl _, Nat.zero_le _, rfl, fun j hj => by simp at hj, fun j hj => by simp at hj⟩

theorem OwnS.rd {w : World} {B : Nat} {v : Value} {l : List ByteArray} (h : OwnS w B v l) : ∃ ao cap, v = .slice ao l.length cap ∧ RdS w ao l := by
  rcases h with ⟨rfl, h0, _⟩ | ⟨g, cap, rfl, _, r⟩
  · obtain rfl := List.eq_nil_of_length_eq_zero h0
    exact ⟨none, 0, rfl, RdS.nil _ _⟩
  · refine ⟨_, cap, rfl, fun j x hx => ⟨g, 0, rfl, ?_⟩⟩
    have hj : j < l.length := (List.getElem?_eq_some_iff.1 hx).1
    rw [Nat.zero_add, r.holds j (by omega), strC_get, hx]
    rfl

theorem OwnS.below {w w' : World} {B C : Nat} {v : Value} {l : List ByteArray} (h : OwnS w B v l) (hb : Below C w w') (hC : w.heap.size ≤ C) : OwnS w' B v l := Own.below h hb hC
theorem OwnS.drewN {w : World} {B : Nat} {v : Value} {l : List ByteArray} (h : OwnS w B v l) (q : Nat) : OwnS (w.drewN q) B v l := Own.drewN h q

/-- What a new block of strings yields. -/
theorem src_strs {P : Program} {t e' e : TypeId} (ht : P.underlying t = some (.slice e')) (w : World) (c m : Nat) (l : List ByteArray) (xs : List Value) (hm : l.length = m) (hx : xs = strC l) :
    Src P 1 t (.slice (some ⟨w.heap.size, 0, none⟩) m c) m (strC l) (w.alloc (.cells xs.toArray e)) := by
  subst hm
  subst hx
  refine Src.ofSlice _ ht _ _ _ _ (by rw [strC_length]; omega) (fun j u hu => ?_) (strC_one l)
  rw [Addr.add_lit, Nat.zero_add]
  have e1 : (w.alloc (.cells (strC l).toArray e)).cell? ⟨w.heap.size, j, none⟩ = _ := World.cell?_alloc_new w _ _ j
  rw [e1]
  simpa using hu

/-- 'append(b, x, y ..)' onto a []string of the call's own, for the walk. -/
theorem wpList_push_strs {P : Program} (w W : World) {ops : Array Oper} {rest : List Oper} {o : Oper} {a : Act} {Q : Exit → Act → World → Prop}
    (hg : o.guard = none) (s xo : Operand) (t : TypeId) (hop : o.op = Op.call { callee := Callee.builtin Builtin.append, args := #[s, xo], argTypes := #[t, t] })
    (e : TypeId) (ht : P.underlying t = some (.slice e)) (hinfo : (P.info? e).map (fun i => (i.zero, i.size, i.bytes)) = some (some (.string ⟨#[]⟩), 1, 16))
    (B : Nat) (v : Value) (l : List ByteArray) (hs : a.eval s = v) (hown : OwnS w B v l) (xs : List Value) (news : List ByteArray) (hx : xs = strC news) (m c : Nat) (hm : news.length = m)
    (H : Nat) (hxo : a.eval xo = .slice (some ⟨H, 0, none⟩) m c) (hH : w.heap.size = H) (hb : l.length + m ≤ 1099511627776) (hB : B ≤ w.heap.size) (hW : W = w.alloc (.cells xs.toArray e))
    (hK : ∀ v' w', OwnS w' B v' (l ++ news) → w.grownBy w' v.ownBlock → Below B w w' → wpList P ops Q rest (a.put o.dst v') w') :
    wpList P ops Q (o :: rest) a W := by
  subst hW
  subst hH
  have hsz : (w.alloc (.cells xs.toArray e)).heap.size = w.heap.size + 1 := by simp
  refine wpList_append_Own (P := P) _ hg s xo t t hop B e _ 1 16 ht hinfo rfl v l.length (strC l) hs (Own.alloc hown _) _ hxo m (strC news) (src_strs ht w c m news xs hm hx) (by unfold maxLen; omega) (by omega) (by omega) ?_
  intro v' w' h1 h2 _
  have hg' : w.grownBy w' v.ownBlock := ⟨h2.os, h2.tape, h2.output, by have := h2.size; omega, fun k hk hne => (h2.block k (by omega) hne).trans (Below.heap_alloc w _ k hk)⟩
  refine hK v' w' ?_ hg' ((Below.refl B w).grown hg' hB (fun k hk => (hown.block k hk).1))
  unfold OwnS
  rw [strC_append, List.length_append, hm]
  exact h1

/-- A cell of an owned row is written. -/
theorem OwnS.store {w : World} {B g cap : Nat} {l : List ByteArray} (h : OwnS w B (.slice (some ⟨g, 0, none⟩) l.length cap) l) (k : Nat) (hk : k < l.length) (x : ByteArray) :
    OwnS (w.setCell ⟨g, k, none⟩ (.string x)) B (.slice (some ⟨g, 0, none⟩) (l.set k x).length cap) (l.set k x) := by
  rcases h with ⟨h0, _⟩ | ⟨g', cap', he, hB, r⟩
  · cases h0
  · cases he
    refine .inr ⟨g, cap, by rw [List.length_set], hB, ?_⟩
    have hl := List.length_set (as := l) (i := k) (a := x)
    refine ⟨by simpa [World.setCell] using r.lt, by rw [hl]; exact r.le, r.max, by rw [strC_length, Nat.mul_one], fun j hj => ?_, fun j hj => ⟨?_, (World.frozen?_setCell _ _ _ _).trans (r.there j hj).2⟩⟩
    · by_cases hjk : j = k
      · subst hjk
        obtain ⟨u, hu⟩ := Option.isSome_iff_exists.1 (r.there j (by have := r.le; omega)).1
        rw [World.cell?_setCell_same _ _ _ hu, strC_get, List.getElem?_set_self hk]
        rfl
      · rw [World.cell?_setCell_other _ _ _ _ (by intro e; injection e; omega), r.holds j (by rw [hl] at hj; exact hj), strC_get, strC_get, List.getElem?_set_ne (by omega)]
    · by_cases hjk : j = k
      · subst hjk
        obtain ⟨u, hu⟩ := Option.isSome_iff_exists.1 (r.there j hj).1
        rw [World.cell?_setCell_same _ _ _ hu]; rfl
      · rw [World.cell?_setCell_other _ _ _ _ (by intro e; injection e; omega)]
        exact (r.there j hj).1

/-- A row as the guide's laws tell it. -/
theorem Own.of_ownsRow {w : World} {B size : Nat} {e : TypeId} {v : Value} {n : Nat} {xs : List Value} (h : w.ownsRow B e size v n xs) : Own w B size v n xs := by
  obtain ⟨hx, h | ⟨g, cap, cur, hv, hB, hg, hn, hm, hc, ht⟩⟩ := h
  · obtain ⟨rfl, rfl⟩ := h
    exact .inl ⟨rfl, rfl, List.eq_nil_of_length_eq_zero (by simpa using hx)⟩
  · refine .inr ⟨g, cap, hv, hB, (Array.getElem?_eq_some_iff.1 hg).1, hn, hm, hx, fun j hj => ?_, fun j hj => ⟨?_, ?_⟩⟩
    · have e1 : w.cell? ⟨g, j, none⟩ = cur[j]? := by unfold World.cell?; simp only [hg]; rfl
      rw [e1, ← ht, List.getElem?_take, if_pos hj, Array.getElem?_toList]
    · have e1 : w.cell? ⟨g, j, none⟩ = cur[j]? := by unfold World.cell?; simp only [hg]; rfl
      rw [e1, Array.getElem?_eq_getElem (by omega)]; rfl
    · unfold World.frozen?; simp only [hg]; simp

/-- A cell of an owned row (one cell an element) is written. -/
theorem Own.store1 {w : World} {B g n cap : Nat} {cs : List Value} (h : Own w B 1 (.slice (some ⟨g, 0, none⟩) n cap) n cs) (k : Nat) (hk : k < n) (x : Value) :
    Own (w.setCell ⟨g, k, none⟩ x) B 1 (.slice (some ⟨g, 0, none⟩) n cap) n (cs.set k x) := by
  rcases h with ⟨h0, _⟩ | ⟨g', cap', he, hB, r⟩
  · cases h0
  · cases he
    have hl := r.len
    refine .inr ⟨g, cap, rfl, hB, ?_⟩
    refine ⟨by simpa [World.setCell] using r.lt, r.le, r.max, by rw [List.length_set, hl], fun j hj => ?_, fun j hj => ⟨?_, (World.frozen?_setCell _ _ _ _).trans (r.there j hj).2⟩⟩
    · by_cases hjk : j = k
      · subst hjk
        obtain ⟨u, hu⟩ := Option.isSome_iff_exists.1 (r.there j (by have := r.le; omega)).1
        rw [World.cell?_setCell_same _ _ _ hu, List.getElem?_set_self (by omega)]
      · rw [World.cell?_setCell_other _ _ _ _ (by intro e; injection e; omega), r.holds j hj, List.getElem?_set_ne (by omega)]
    · by_cases hjk : j = k
      · subst hjk
        obtain ⟨u, hu⟩ := Option.isSome_iff_exists.1 (r.there j hj).1
        rw [World.cell?_setCell_same _ _ _ hu]; rfl
      · rw [World.cell?_setCell_other _ _ _ _ (by intro e; injection e; omega)]
        exact (r.there j hj).1
theorem Own.at1 {w : World} {B g n cap : Nat} {cs : List Value} (h : Own w B 1 (.slice (some ⟨g, 0, none⟩) n cap) n cs) (k : Nat) (hk : k < n) :
    (∃ u, w.cell? ⟨g, k, none⟩ = some u) ∧ w.frozen? ⟨g, k, none⟩ = false := by
  rcases h with ⟨h0, _⟩ | ⟨g', cap', he, hB, r⟩
  · cases h0
  · cases he
    have := r.there k (by have := r.le; omega)
    exact ⟨Option.isSome_iff_exists.1 this.1, this.2⟩
theorem strC_of {cs : List Value} {l : List ByteArray} (hl : cs.length = l.length) (h : ∀ j, j < l.length → cs[j]? = (l[j]?).map Value.string) : cs = strC l := by
  apply List.ext_getElem?
  intro j
  rw [strC_get]
  by_cases hj : j < l.length
  · exact h j hj
  · rw [List.getElem?_eq_none (by omega), List.getElem?_eq_none (by omega)]; rfl

/-- How much a list of strings holds. -/
def totS (l : List ByteArray) : Nat := l.length + (l.map ByteArray.size).sum
def sumS (l : List ByteArray) : Nat := (l.map ByteArray.size).sum
/-- What the size law's count comes to. -/
def szV (l : List ByteArray) (left : Int) : Int := if (totS l : Int) ≤ left then left - totS l else -1
theorem szV_yes {l : List ByteArray} {left : Int} (h : (totS l : Int) ≤ left) : szV l left = left - totS l := if_pos h
theorem szV_no {l : List ByteArray} {left : Int} (h : ¬ (totS l : Int) ≤ left) : szV l left = -1 := if_neg h
theorem totS_eq (l : List ByteArray) : totS l = l.length + sumS l := rfl
theorem sum_mem {l : List ByteArray} {x : ByteArray} (h : x ∈ l) : x.size ≤ sumS l := by
  unfold sumS
  induction l with
  | nil => simp at h
  | cons y l ih =>
    rw [List.map_cons, List.sum_cons]
    rcases List.mem_cons.1 h with rfl | h
    · omega
    · have := ih h; omega
theorem tot_mem {l : List ByteArray} {x : ByteArray} (h : x ∈ l) : x.size ≤ totS l := by
  have := sum_mem h; rw [totS_eq]; omega
theorem sumS_step {l : List ByteArray} {k : Nat} {x : ByteArray} (hx : l[k]? = some x) : sumS (l.take (k + 1)) = sumS (l.take k) + x.size := by
  unfold sumS; rw [List.take_add_one, hx]; simp
theorem sumS_le {l : List ByteArray} (k : Nat) : sumS (l.take k) ≤ sumS l := by
  have h : sumS l = sumS (l.take k) + sumS (l.drop k) := by
    unfold sumS
    rw [← List.sum_append, ← List.map_append, List.take_append_drop]
  omega

/-- A cell of an owned row may be written. -/
theorem OwnS.at_ {w : World} {B g n cap : Nat} {l : List ByteArray} (h : OwnS w B (.slice (some ⟨g, 0, none⟩) n cap) l) (k : Nat) (hk : k < l.length) :
    (∃ u, w.cell? ⟨g, k, none⟩ = some u) ∧ w.frozen? ⟨g, k, none⟩ = false := by
  rcases h with ⟨h0, _⟩ | ⟨g', cap', he, hB, r⟩
  · cases h0
  · cases he
    have := r.there k (by have := r.le; omega)
    exact ⟨Option.isSome_iff_exists.1 this.1, this.2⟩

/-! ### The letter m and a number -/

/-- The last decimal digit. -/
def digB (n : Nat) : UInt8 := UInt8.ofNat (48 + n % 10)
theorem digB_val (n : Nat) : ((digB n).toNat : Int) = 48 + (n : Int) % 10 := by unfold digB; rw [ofNat_mod]; omega

/-- The decimal digits of a number above 0 (none of 0). -/
def digL (n : Nat) : List UInt8 := if n = 0 then [] else digL (n / 10) ++ [digB n]
termination_by n
decreasing_by omega
theorem digL_zero : digL 0 = [] := by rw [digL]; rfl
theorem digL_pos {n : Nat} (h : 0 < n) : digL n = digL (n / 10) ++ [digB n] := by rw [digL, if_neg (by omega)]
theorem digL_length (n : Nat) : (digL n).length ≤ n := by
  induction n using Nat.strongRecOn with
  | _ n ih =>
    rcases Nat.eq_zero_or_pos n with rfl | h
    · rw [digL_zero]; exact Nat.le_refl _
    · rw [digL_pos h, List.length_append]
      have := ih (n / 10) (by omega)
      simp only [List.length_singleton]
      omega

/-- markText. -/
def markB (k : Nat) : ByteArray := txt (109 :: digL k)

/-- The marks from k on. -/
def marks (k : Nat) : Nat → List ByteArray
  | 0 => []
  | n + 1 => markB k :: marks (k + 1) n
theorem marks_length (k n : Nat) : (marks k n).length = n := by
  induction n generalizing k with
  | zero => rfl
  | succ n ih => simp [marks, ih]
theorem marks_get (k n j : Nat) (h : j < n) : (marks k n)[j]? = some (markB (k + j)) := by
  induction n generalizing k j with
  | zero => omega
  | succ n ih =>
    cases j with
    | zero => simp [marks]
    | succ j => simp only [marks, List.getElem?_cons_succ]; rw [ih (k + 1) j (by omega)]; congr 2; omega

theorem marks_eq {m : List ByteArray} {K N : Nat} (hl : m.length = N) (h : ∀ j, j < N → m[j]? = some (markB (K + j))) : m = marks K N := by
  apply List.ext_getElem?
  intro j
  by_cases hj : j < N
  · rw [h j hj, marks_get K N j hj]
  · rw [List.getElem?_eq_none (by omega), List.getElem?_eq_none (by rw [marks_length]; omega)]

end Go.Proofs.YtcehbmlibfalaaaDoor
