/-
  Rows of files (a name, a text, how much is kept): their cells, their size. No program in sight.
-/
import Derived.Test.YtdecehecjlbbiaaPuLeaf
namespace Go.Proofs.Ytdecehecjlbbiaa
open Go.RowKit

/-- A file. -/
abbrev Fl := ByteArray × ByteArray × Int
def fileC : List Fl → List Value
  | [] => []
  | x :: l => .string x.1 :: .string x.2.1 :: .int .i64 x.2.2 :: fileC l
theorem fileC_length (l : List Fl) : (fileC l).length = l.length * 3 := by
  induction l with
  | nil => rfl
  | cons x l ih => simp only [fileC, List.length_cons, ih]; omega
theorem fileC_get (l : List Fl) (k : Nat) (x : Fl) (h : l[k]? = some x) : (fileC l)[k * 3]? = some (.string x.1) ∧ (fileC l)[k * 3 + 1]? = some (.string x.2.1) ∧ (fileC l)[k * 3 + 2]? = some (.int .i64 x.2.2) := by
  induction l generalizing k with
  | nil => simp at h
  | cons y l ih =>
    cases k with
    | zero => simp at h; subst h; exact ⟨rfl, rfl, rfl⟩
    | succ k =>
      rw [List.getElem?_cons_succ] at h
      obtain ⟨h1, h2, h3⟩ := ih k h
      refine ⟨?_, ?_, ?_⟩
      · rw [show (k + 1) * 3 = k * 3 + 1 + 1 + 1 by omega]; exact h1
      · rw [show (k + 1) * 3 + 1 = (k * 3 + 1) + 1 + 1 + 1 by omega]; exact h2
      · rw [show (k + 1) * 3 + 2 = (k * 3 + 2) + 1 + 1 + 1 by omega]; exact h3
theorem fileC_of {cs : List Value} {l : List Fl} (hl : cs.length = l.length * 3) (h : ∀ k x, l[k]? = some x → cs[k * 3]? = some (.string x.1) ∧ cs[k * 3 + 1]? = some (.string x.2.1) ∧ cs[k * 3 + 2]? = some (.int .i64 x.2.2)) : cs = fileC l := by
  apply List.ext_getElem?
  intro j
  by_cases hj : j < l.length * 3
  · obtain ⟨x, hx⟩ : ∃ x, l[j / 3]? = some x := ⟨_, List.getElem?_eq_getElem (by omega)⟩
    obtain ⟨h1, h2, h3⟩ := h _ _ hx
    obtain ⟨g1, g2, g3⟩ := fileC_get _ _ _ hx
    rcases (show j = j / 3 * 3 ∨ j = j / 3 * 3 + 1 ∨ j = j / 3 * 3 + 2 by omega) with e | e | e
    · rw [e, h1, g1]
    · rw [e, h2, g2]
    · rw [e, h3, g3]
  · rw [List.getElem?_eq_none (by omega), List.getElem?_eq_none (by rw [fileC_length]; omega)]
def RdF (w : World) (ao : Option Addr) (l : List Fl) : Prop := RdC w ao (fileC l)
def OwnF (w : World) (B : Nat) (v : Value) (l : List Fl) : Prop := Own w B 3 v l.length (fileC l)
theorem RdF.below {w w' : World} {ao : Option Addr} {l : List Fl} {C : Nat} (h : RdF w ao l) (hb : Below C w w') (hC : w.heap.size ≤ C) : RdF w' ao l := RdC.below h hb hC
theorem RdF.at_ {w : World} {ao : Option Addr} {l : List Fl} (h : RdF w ao l) (k : Nat) (x : Fl) (hx : l[k]? = some x) :
    ∃ b off, ao = some ⟨b, off, none⟩ ∧ w.cell? ⟨b, off + k * 3, none⟩ = some (.string x.1) ∧ w.cell? ⟨b, off + k * 3 + 1, none⟩ = some (.string x.2.1) ∧ w.cell? ⟨b, off + k * 3 + 2, none⟩ = some (.int .i64 x.2.2) := by
  obtain ⟨h1, h2, h3⟩ := fileC_get l k x hx
  obtain ⟨b, off, e, c1⟩ := h _ _ h1
  obtain ⟨b', off', e', c2⟩ := h _ _ h2
  obtain ⟨b2, off2, e2, c3⟩ := h _ _ h3
  rw [e] at e' e2
  cases e'
  cases e2
  exact ⟨b, off, e, c1, c2, c3⟩
theorem OwnF.rd {w : World} {B : Nat} {v : Value} {l : List Fl} (h : OwnF w B v l) : ∃ ao cap, v = .slice ao l.length cap ∧ RdF w ao l := Own.rdC h
theorem OwnF.below {w w' : World} {B C : Nat} {v : Value} {l : List Fl} (h : OwnF w B v l) (hb : Below C w w') (hC : w.heap.size ≤ C) : OwnF w' B v l := Own.below h hb hC

/-- The bytes of files. -/
def sumFl : List Fl → Nat
  | [] => 0
  | x :: l => x.1.size + x.2.1.size + sumFl l
theorem sumFl_step {l : List Fl} {k : Nat} {x : Fl} (hx : l[k]? = some x) : sumFl (l.take (k + 1)) = sumFl (l.take k) + (x.1.size + x.2.1.size) := by
  induction l generalizing k with
  | nil => simp at hx
  | cons y l ih =>
    cases k with
    | zero => simp at hx; subst hx; simp [sumFl]
    | succ k => rw [List.getElem?_cons_succ] at hx; simp only [List.take_succ_cons, sumFl, ih hx]; omega
theorem sumFl_le {l : List Fl} (k : Nat) : sumFl (l.take k) ≤ sumFl l := by
  induction l generalizing k with
  | nil => simp [sumFl]
  | cons y l ih =>
    cases k with
    | zero => simp [sumFl]
    | succ k => have := ih k; simp only [List.take_succ_cons, sumFl]; omega
theorem sumFl_mem {l : List Fl} {x : Fl} (h : x ∈ l) : x.1.size + x.2.1.size ≤ sumFl l := by
  induction l with
  | nil => cases h
  | cons y l ih =>
    rcases List.mem_cons.1 h with rfl | h
    · simp only [sumFl]; omega
    · have := ih h; simp only [sumFl]; omega
def szFl (l : List Fl) (left : Int) : Int := if (l.length : Int) + sumFl l ≤ left then left - l.length - sumFl l else -1
theorem szFl_yes {l : List Fl} {left : Int} (h : (l.length : Int) + sumFl l ≤ left) : szFl l left = left - l.length - sumFl l := if_pos h
theorem szFl_no {l : List Fl} {left : Int} (h : ¬ (l.length : Int) + sumFl l ≤ left) : szFl l left = -1 := if_neg h

theorem fl_step {l1 l2 : List Fl} {k : Nat} {x y : Fl} (hx : l1[k]? = some x) (hy : l2[k]? = some y) (h : x = y) (ht : l1.take k = l2.take k) : l1.take (k + 1) = l2.take (k + 1) := by
  rw [List.take_add_one, List.take_add_one, hx, hy, h, ht]

end Go.Proofs.Ytdecehecjlbbiaa
