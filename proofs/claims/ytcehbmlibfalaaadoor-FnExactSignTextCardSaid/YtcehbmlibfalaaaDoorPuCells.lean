/-
  Rows of cells, whatever they hold: how they are read; appending onto a row of the call's own; rows of integers. No program in sight.
-/
import Derived.Test.YtcehbmlibfalaaaDoorPuStrs
namespace Go.Proofs.YtcehbmlibfalaaaDoor
open Go.RowKit

/-- A slice that stands at ao reads as these cells. -/
def RdC (w : World) (ao : Option Addr) (cs : List Value) : Prop :=
  ∀ j u, cs[j]? = some u → ∃ b off, ao = some ⟨b, off, none⟩ ∧ w.cell? ⟨b, off + j, none⟩ = some u

theorem RdC.below {w w' : World} {ao : Option Addr} {cs : List Value} {C : Nat} (h : RdC w ao cs) (hb : Below C w w') (hC : w.heap.size ≤ C) : RdC w' ao cs := by
  intro j x hx
  obtain ⟨b, off, e, hc⟩ := h j x hx
  have hlt := World.block_lt_of_cell? _ _ hc
  exact ⟨b, off, e, (hb.cell (p := ⟨b, off + j, none⟩) (Nat.lt_of_lt_of_le hlt hC)).trans hc⟩
theorem RdC.kept {w1 w w' : World} {ao : Option Addr} {cs : List Value} {row : Option Nat} (h : RdC w ao cs) (h1 : RdC w1 ao cs) (hg : w.grownBy w' row) (hr : ∀ k, row = some k → w1.heap.size ≤ k) : RdC w' ao cs := by
  intro j x hx
  obtain ⟨b, off, e, hc⟩ := h j x hx
  obtain ⟨b', off', e', hc'⟩ := h1 j x hx
  have e2 : b = b' := by rw [e] at e'; cases e'; rfl
  subst e2
  have hlt := World.block_lt_of_cell? _ _ hc
  have hlt' := World.block_lt_of_cell? _ _ hc'
  refine ⟨b, off, e, (World.cell?_of_block (hg.block b hlt (fun hk => ?_))).trans hc⟩
  exact absurd (hr b hk.symm) (Nat.not_le_of_lt hlt')
theorem RdC.nil (w : World) (ao : Option Addr) : RdC w ao [] := fun j x h => by simp at h

theorem Own.rdC {w : World} {B size n : Nat} {v : Value} {cs : List Value} (h : Own w B size v n cs) : ∃ ao cap, v = .slice ao n cap ∧ RdC w ao cs := by
  rcases h with ⟨rfl, rfl, rfl⟩ | ⟨g, cap, rfl, _, r⟩
  · exact ⟨none, 0, rfl, RdC.nil _ _⟩
  · refine ⟨_, cap, rfl, fun j x hx => ⟨g, 0, rfl, ?_⟩⟩
    have hj : j < cs.length := (List.getElem?_eq_some_iff.1 hx).1
    rw [Nat.zero_add, r.holds j (by rw [← r.len]; exact hj), hx]

theorem Own.empty (w : World) (B size : Nat) (e : TypeId) (hB : B ≤ w.heap.size) : Own (w.alloc (.cells #[] e)) B size (.slice (some ⟨w.heap.size, 0, none⟩) 0 0) 0 [] :=
  .inr ⟨w.heap.size, 0, rfl, hB, by simp, Nat.le_refl _, Nat.zero_le _, by simp, fun j hj => by simp at hj, fun j hj => by simp at hj⟩

/-- What a new block yields. -/
theorem src_cells {P : Program} {t e' e : TypeId} {size : Nat} (ht : P.underlying t = some (.slice e')) (w : World) (c m : Nat) (cs xs : List Value) (hm : cs.length = m * size) (hx : xs = cs) (h1 : ∀ u ∈ cs, u.oneCell' = true) :
    Src P size t (.slice (some ⟨w.heap.size, 0, none⟩) m c) m cs (w.alloc (.cells xs.toArray e)) := by
  subst hx
  refine Src.ofSlice _ ht _ _ _ _ hm (fun j u hu => ?_) h1
  rw [Addr.add_lit, Nat.zero_add]
  have e1 : (w.alloc (.cells xs.toArray e)).cell? ⟨w.heap.size, j, none⟩ = _ := World.cell?_alloc_new w _ _ j
  rw [e1]
  simpa using hu

/-- 'append(b, x, y ..)' onto a row of the call's own, for the walk. -/
theorem wpList_push_cells {P : Program} (w W : World) {ops : Array Oper} {rest : List Oper} {o : Oper} {a : Act} {Q : Exit → Act → World → Prop}
    (hg : o.guard = none) (s xo : Operand) (t : TypeId) (hop : o.op = Op.call { callee := Callee.builtin Builtin.append, args := #[s, xo], argTypes := #[t, t] })
    (e : TypeId) (ht : P.underlying t = some (.slice e)) (z : Value) (size bytes : Nat) (hzs : z.cells.size = size) (hinfo : (P.info? e).map (fun i => (i.zero, i.size, i.bytes)) = some (some z, size, bytes))
    (B : Nat) (v : Value) (n : Nat) (cs : List Value) (hs : a.eval s = v) (hown : Own w B size v n cs) (xs news : List Value) (hx : xs = news) (h1 : ∀ u ∈ news, u.oneCell' = true) (m c : Nat) (hm : news.length = m * size)
    (H : Nat) (hxo : a.eval xo = .slice (some ⟨H, 0, none⟩) m c) (hH : w.heap.size = H) (hb : n + m ≤ 1099511627776) (hbb : bytes ≤ 128) (hB : B ≤ w.heap.size) (hW : W = w.alloc (.cells xs.toArray e))
    (hK : ∀ v' w', Own w' B size v' (n + m) (cs ++ news) → w.grownBy w' v.ownBlock → Below B w w' → wpList P ops Q rest (a.put o.dst v') w') :
    wpList P ops Q (o :: rest) a W := by
  subst hW
  subst hH
  have hsz : (w.alloc (.cells xs.toArray e)).heap.size = w.heap.size + 1 := by simp
  have hbytes : (n + m) * bytes ≤ 140737488355328 := Nat.le_trans (Nat.mul_le_mul hb hbb) (by decide)
  refine wpList_append_Own (P := P) _ hg s xo t t hop B e _ size bytes ht hinfo hzs v n cs hs (Own.alloc hown _) _ hxo m news (src_cells ht w c m news xs hm hx h1) (by unfold maxLen; omega) hbytes (by omega) ?_
  intro v' w' h1 h2 _
  have hg' : w.grownBy w' v.ownBlock := ⟨h2.os, h2.tape, h2.output, by have := h2.size; omega, fun k hk hne => (h2.block k (by omega) hne).trans (Below.heap_alloc w _ k hk)⟩
  exact hK v' w' h1 hg' ((Below.refl B w).grown hg' hB (fun k hk => (hown.block k hk).1))

/-! ### Integers -/

def intC (l : List Int) : List Value := l.map (Value.int .i64)
theorem intC_length (l : List Int) : (intC l).length = l.length := by simp [intC]
theorem intC_append (l m : List Int) : intC (l ++ m) = intC l ++ intC m := by simp [intC]
theorem intC_get (l : List Int) (j : Nat) : (intC l)[j]? = (l[j]?).map (Value.int .i64) := by simp [intC]
theorem intC_one (l : List Int) : ∀ u ∈ intC l, u.oneCell' = true := by
  intro u hu
  obtain ⟨_, _, rfl⟩ := List.mem_map.1 hu
  rfl
def RdI (w : World) (ao : Option Addr) (l : List Int) : Prop := RdC w ao (intC l)
def OwnI (w : World) (B : Nat) (v : Value) (l : List Int) : Prop := Own w B 1 v l.length (intC l)
theorem RdI.at_ {w : World} {ao : Option Addr} {l : List Int} (h : RdI w ao l) (j : Nat) (x : Int) (hx : l[j]? = some x) : ∃ b off, ao = some ⟨b, off, none⟩ ∧ w.cell? ⟨b, off + j, none⟩ = some (.int .i64 x) :=
  h j _ (by rw [intC_get, hx]; rfl)
theorem RdI.below {w w' : World} {ao : Option Addr} {l : List Int} {C : Nat} (h : RdI w ao l) (hb : Below C w w') (hC : w.heap.size ≤ C) : RdI w' ao l := RdC.below h hb hC
theorem RdI.kept {w1 w w' : World} {ao : Option Addr} {l : List Int} {row : Option Nat} (h : RdI w ao l) (h1 : RdI w1 ao l) (hg : w.grownBy w' row) (hr : ∀ k, row = some k → w1.heap.size ≤ k) : RdI w' ao l := RdC.kept h h1 hg hr
theorem OwnI.nil (w : World) (B : Nat) : OwnI w B (.slice none 0 0) [] := Own.nil _ _ _
theorem OwnI.empty (w : World) (B : Nat) (e : TypeId) (hB : B ≤ w.heap.size) : OwnI (w.alloc (.cells #[] e)) B (.slice (some ⟨w.heap.size, 0, none⟩) 0 0) [] := Own.empty w B 1 e hB
theorem OwnI.rd {w : World} {B : Nat} {v : Value} {l : List Int} (h : OwnI w B v l) : ∃ ao cap, v = .slice ao l.length cap ∧ RdI w ao l := Own.rdC h
theorem OwnI.below {w w' : World} {B C : Nat} {v : Value} {l : List Int} (h : OwnI w B v l) (hb : Below C w w') (hC : w.heap.size ≤ C) : OwnI w' B v l := Own.below h hb hC

/-- 'append(b, x ..)' onto a []int of the call's own, for the walk. -/
theorem wpList_push_ints {P : Program} (w W : World) {ops : Array Oper} {rest : List Oper} {o : Oper} {a : Act} {Q : Exit → Act → World → Prop}
    (hg : o.guard = none) (s xo : Operand) (t : TypeId) (hop : o.op = Op.call { callee := Callee.builtin Builtin.append, args := #[s, xo], argTypes := #[t, t] })
    (e : TypeId) (ht : P.underlying t = some (.slice e)) (hinfo : (P.info? e).map (fun i => (i.zero, i.size, i.bytes)) = some (some (.int .i64 0), 1, 8))
    (B : Nat) (v : Value) (l : List Int) (hs : a.eval s = v) (hown : OwnI w B v l) (xs : List Value) (news : List Int) (hx : xs = intC news) (m c : Nat) (hm : news.length = m)
    (H : Nat) (hxo : a.eval xo = .slice (some ⟨H, 0, none⟩) m c) (hH : w.heap.size = H) (hb : l.length + m ≤ 1099511627776) (hB : B ≤ w.heap.size) (hW : W = w.alloc (.cells xs.toArray e))
    (hK : ∀ v' w', OwnI w' B v' (l ++ news) → w.grownBy w' v.ownBlock → Below B w w' → wpList P ops Q rest (a.put o.dst v') w') :
    wpList P ops Q (o :: rest) a W := by
  refine wpList_push_cells w W hg s xo t hop e ht _ 1 8 rfl hinfo B v l.length (intC l) hs hown xs (intC news) hx (intC_one _) m c (by rw [intC_length, hm, Nat.mul_one]) H hxo hH hb (by decide) hB hW ?_
  intro v' w' h1 h2 h3
  refine hK v' w' ?_ h2 h3
  unfold OwnI
  rw [intC_append, List.length_append, hm]
  exact h1

/-- The numbers from k on. -/
def nums (k : Int) : Nat → List Int
  | 0 => []
  | n + 1 => k :: nums (k + 1) n
theorem nums_length (k : Int) (n : Nat) : (nums k n).length = n := by
  induction n generalizing k with
  | zero => rfl
  | succ n ih => simp [nums, ih]
theorem nums_get (k : Int) (n j : Nat) (h : j < n) : (nums k n)[j]? = some (k + j) := by
  induction n generalizing k j with
  | zero => omega
  | succ n ih =>
    cases j with
    | zero => simp [nums]
    | succ j => simp only [nums, List.getElem?_cons_succ]; rw [ih (k + 1) j (by omega)]; congr 1; omega
theorem nums_eq {cs : List Value} {K : Int} {N : Nat} (hl : cs.length = N) (h : ∀ j, j < N → cs[j]? = some (.int .i64 (K + j))) : cs = intC (nums K N) := by
  apply List.ext_getElem?
  intro j
  by_cases hj : j < N
  · rw [h j hj, intC_get, nums_get K N j hj]; rfl
  · rw [List.getElem?_eq_none (by omega), List.getElem?_eq_none (by rw [intC_length, nums_length]; omega)]
theorem int_step {l1 l2 : List Int} {k : Nat} {x y : Int} (hx : l1[k]? = some x) (hy : l2[k]? = some y) (h : x = y) (ht : l1.take k = l2.take k) : l1.take (k + 1) = l2.take (k + 1) := by
  rw [List.take_add_one, List.take_add_one, hx, hy, h, ht]

end Go.Proofs.YtcehbmlibfalaaaDoor
