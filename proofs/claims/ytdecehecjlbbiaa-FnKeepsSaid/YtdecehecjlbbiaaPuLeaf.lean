/-
  Rows of entries (a name, a value): their cells, their size. No program in sight.
-/
import Derived.Test.YtdecehecjlbbiaaPuCells
namespace Go.Proofs.Ytdecehecjlbbiaa
open Go.RowKit

/-- An entry. -/
abbrev Lf := ByteArray × ByteArray
def leafC : List Lf → List Value
  | [] => []
  | x :: l => .string x.1 :: .string x.2 :: leafC l
theorem leafC_length (l : List Lf) : (leafC l).length = l.length * 2 := by
  induction l with
  | nil => rfl
  | cons x l ih => simp only [leafC, List.length_cons, ih]; omega
theorem leafC_get (l : List Lf) (k : Nat) (x : Lf) (h : l[k]? = some x) : (leafC l)[k * 2]? = some (.string x.1) ∧ (leafC l)[k * 2 + 1]? = some (.string x.2) := by
  induction l generalizing k with
  | nil => simp at h
  | cons y l ih =>
    cases k with
    | zero => simp at h; subst h; exact ⟨rfl, rfl⟩
    | succ k =>
      rw [List.getElem?_cons_succ] at h
      obtain ⟨h1, h2⟩ := ih k h
      refine ⟨?_, ?_⟩
      · rw [show (k + 1) * 2 = k * 2 + 1 + 1 by omega]; exact h1
      · rw [show (k + 1) * 2 + 1 = (k * 2 + 1) + 1 + 1 by omega]; exact h2
theorem leafC_of {cs : List Value} {l : List Lf} (hl : cs.length = l.length * 2) (h : ∀ k x, l[k]? = some x → cs[k * 2]? = some (.string x.1) ∧ cs[k * 2 + 1]? = some (.string x.2)) : cs = leafC l := by
  apply List.ext_getElem?
  intro j
  by_cases hj : j < l.length * 2
  · obtain ⟨x, hx⟩ : ∃ x, l[j / 2]? = some x := ⟨_, List.getElem?_eq_getElem (by omega)⟩
    obtain ⟨h1, h2⟩ := h _ _ hx
    obtain ⟨g1, g2⟩ := leafC_get _ _ _ hx
    rcases (show j = j / 2 * 2 ∨ j = j / 2 * 2 + 1 by omega) with e | e
    · rw [e, h1, g1]
    · rw [e, h2, g2]
  · rw [List.getElem?_eq_none (by omega), List.getElem?_eq_none (by rw [leafC_length]; omega)]
def RdL (w : World) (ao : Option Addr) (l : List Lf) : Prop := RdC w ao (leafC l)
def OwnL (w : World) (B : Nat) (v : Value) (l : List Lf) : Prop := Own w B 2 v l.length (leafC l)
theorem RdL.below {w w' : World} {ao : Option Addr} {l : List Lf} {C : Nat} (h : RdL w ao l) (hb : Below C w w') (hC : w.heap.size ≤ C) : RdL w' ao l := RdC.below h hb hC
theorem RdL.at_ {w : World} {ao : Option Addr} {l : List Lf} (h : RdL w ao l) (k : Nat) (x : Lf) (hx : l[k]? = some x) :
    ∃ b off, ao = some ⟨b, off, none⟩ ∧ w.cell? ⟨b, off + k * 2, none⟩ = some (.string x.1) ∧ w.cell? ⟨b, off + k * 2 + 1, none⟩ = some (.string x.2) := by
  obtain ⟨h1, h2⟩ := leafC_get l k x hx
  obtain ⟨b, off, e, c1⟩ := h _ _ h1
  obtain ⟨b', off', e', c2⟩ := h _ _ h2
  rw [e] at e'
  cases e'
  exact ⟨b, off, e, c1, c2⟩
theorem OwnL.rd {w : World} {B : Nat} {v : Value} {l : List Lf} (h : OwnL w B v l) : ∃ ao cap, v = .slice ao l.length cap ∧ RdL w ao l := Own.rdC h
theorem OwnL.below {w w' : World} {B C : Nat} {v : Value} {l : List Lf} (h : OwnL w B v l) (hb : Below C w w') (hC : w.heap.size ≤ C) : OwnL w' B v l := Own.below h hb hC

/-- The bytes of entries. -/
def sumF : List Lf → Nat
  | [] => 0
  | x :: l => x.1.size + x.2.size + sumF l
theorem sumF_step {l : List Lf} {k : Nat} {x : Lf} (hx : l[k]? = some x) : sumF (l.take (k + 1)) = sumF (l.take k) + (x.1.size + x.2.size) := by
  induction l generalizing k with
  | nil => simp at hx
  | cons y l ih =>
    cases k with
    | zero => simp at hx; subst hx; simp [sumF]
    | succ k => rw [List.getElem?_cons_succ] at hx; simp only [List.take_succ_cons, sumF, ih hx]; omega
theorem sumF_le {l : List Lf} (k : Nat) : sumF (l.take k) ≤ sumF l := by
  induction l generalizing k with
  | nil => simp [sumF]
  | cons y l ih =>
    cases k with
    | zero => simp [sumF]
    | succ k => have := ih k; simp only [List.take_succ_cons, sumF]; omega
theorem sumF_mem {l : List Lf} {x : Lf} (h : x ∈ l) : x.1.size + x.2.size ≤ sumF l := by
  induction l with
  | nil => cases h
  | cons y l ih =>
    rcases List.mem_cons.1 h with rfl | h
    · simp only [sumF]; omega
    · have := ih h; simp only [sumF]; omega
def szF (l : List Lf) (left : Int) : Int := if (l.length : Int) + sumF l ≤ left then left - l.length - sumF l else -1
theorem szF_yes {l : List Lf} {left : Int} (h : (l.length : Int) + sumF l ≤ left) : szF l left = left - l.length - sumF l := if_pos h
theorem szF_no {l : List Lf} {left : Int} (h : ¬ (l.length : Int) + sumF l ≤ left) : szF l left = -1 := if_neg h

/-- A cell of an owned row, whatever its elements' size. -/
theorem Own.storeC {w : World} {B size g n cap : Nat} {cs : List Value} (h : Own w B size (.slice (some ⟨g, 0, none⟩) n cap) n cs) (k : Nat) (hk : k < n * size) (x : Value) :
    Own (w.setCell ⟨g, k, none⟩ x) B size (.slice (some ⟨g, 0, none⟩) n cap) n (cs.set k x) := by
  rcases h with ⟨h0, _⟩ | ⟨g', cap', he, hB, r⟩
  · cases h0
  · cases he
    have hl := r.len
    have hle := Nat.mul_le_mul_right size r.le
    refine .inr ⟨g, cap, rfl, hB, ?_⟩
    refine ⟨by simpa [World.setCell] using r.lt, r.le, r.max, by rw [List.length_set, hl], fun j hj => ?_, fun j hj => ⟨?_, (World.frozen?_setCell _ _ _ _).trans (r.there j hj).2⟩⟩
    · by_cases hjk : j = k
      · subst hjk
        obtain ⟨u, hu⟩ := Option.isSome_iff_exists.1 (r.there j (by omega)).1
        rw [World.cell?_setCell_same _ _ _ hu, List.getElem?_set_self (by omega)]
      · rw [World.cell?_setCell_other _ _ _ _ (by intro e; injection e; omega), r.holds j hj, List.getElem?_set_ne (by omega)]
    · by_cases hjk : j = k
      · subst hjk
        obtain ⟨u, hu⟩ := Option.isSome_iff_exists.1 (r.there j hj).1
        rw [World.cell?_setCell_same _ _ _ hu]; rfl
      · rw [World.cell?_setCell_other _ _ _ _ (by intro e; injection e; omega)]; exact (r.there j hj).1
theorem Own.atC {w : World} {B size g n cap : Nat} {cs : List Value} (h : Own w B size (.slice (some ⟨g, 0, none⟩) n cap) n cs) (k : Nat) (hk : k < n * size) :
    (∃ u, w.cell? ⟨g, k, none⟩ = some u) ∧ w.frozen? ⟨g, k, none⟩ = false := by
  rcases h with ⟨h0, _⟩ | ⟨g', cap', he, hB, r⟩
  · cases h0
  · cases he
    have hle := Nat.mul_le_mul_right size r.le
    have := r.there k (by omega)
    exact ⟨Option.isSome_iff_exists.1 this.1, this.2⟩
theorem lf_step {l1 l2 : List Lf} {k : Nat} {x y : Lf} (hx : l1[k]? = some x) (hy : l2[k]? = some y) (h : x = y) (ht : l1.take k = l2.take k) : l1.take (k + 1) = l2.take (k + 1) := by
  rw [List.take_add_one, List.take_add_one, hx, hy, h, ht]

end Go.Proofs.Ytdecehecjlbbiaa
