/-
  Rows of operations on disks (a kind, a name, a text, another name): their cells, their size, their marks. No program in sight.
-/
import Derived.Test.YtdecehecjlbbiaaPuDisk
namespace Go.Proofs.Ytdecehecjlbbiaa
open Go.RowKit

/-- An operation. -/
abbrev Ac := Int × ByteArray × ByteArray × ByteArray
def actC : List Ac → List Value
  | [] => []
  | x :: l => .int .i64 x.1 :: .string x.2.1 :: .string x.2.2.1 :: .string x.2.2.2 :: actC l
theorem actC_length (l : List Ac) : (actC l).length = l.length * 4 := by
  induction l with
  | nil => rfl
  | cons x l ih => simp only [actC, List.length_cons, ih]; omega
/-- The four cells of an operation. -/
def ActIs (cs : List Value) (k : Nat) (x : Ac) : Prop :=
  cs[k * 4]? = some (.int .i64 x.1) ∧ cs[k * 4 + 1]? = some (.string x.2.1) ∧ cs[k * 4 + 2]? = some (.string x.2.2.1) ∧ cs[k * 4 + 3]? = some (.string x.2.2.2)
theorem actC_get (l : List Ac) (k : Nat) (x : Ac) (h : l[k]? = some x) : ActIs (actC l) k x := by
  unfold ActIs
  induction l generalizing k with
  | nil => simp at h
  | cons y l ih =>
    cases k with
    | zero => simp at h; subst h; exact ⟨rfl, rfl, rfl, rfl⟩
    | succ k =>
      rw [List.getElem?_cons_succ] at h
      obtain ⟨h1, h2, h3, h4⟩ := ih k h
      refine ⟨?_, ?_, ?_, ?_⟩
      · rw [show (k + 1) * 4 = k * 4 + 1 + 1 + 1 + 1 by omega]; exact h1
      · rw [show (k + 1) * 4 + 1 = (k * 4 + 1) + 1 + 1 + 1 + 1 by omega]; exact h2
      · rw [show (k + 1) * 4 + 2 = (k * 4 + 2) + 1 + 1 + 1 + 1 by omega]; exact h3
      · rw [show (k + 1) * 4 + 3 = (k * 4 + 3) + 1 + 1 + 1 + 1 by omega]; exact h4
theorem actC_of {cs : List Value} {l : List Ac} (hl : cs.length = l.length * 4) (h : ∀ k x, l[k]? = some x → ActIs cs k x) : cs = actC l := by
  apply List.ext_getElem?
  intro j
  by_cases hj : j < l.length * 4
  · obtain ⟨x, hx⟩ : ∃ x, l[j / 4]? = some x := ⟨_, List.getElem?_eq_getElem (by omega)⟩
    obtain ⟨h1, h2, h3, h4⟩ := h _ _ hx
    obtain ⟨g1, g2, g3, g4⟩ := actC_get _ _ _ hx
    rcases (show j = j / 4 * 4 ∨ j = j / 4 * 4 + 1 ∨ j = j / 4 * 4 + 2 ∨ j = j / 4 * 4 + 3 by omega) with e | e | e | e
    · rw [e, h1, g1]
    · rw [e, h2, g2]
    · rw [e, h3, g3]
    · rw [e, h4, g4]
  · rw [List.getElem?_eq_none (by omega), List.getElem?_eq_none (by rw [actC_length]; omega)]
theorem actC_one (l : List Ac) : ∀ u ∈ actC l, u.oneCell' = true := by
  induction l with
  | nil => intro u hu; simp [actC] at hu
  | cons x l ih =>
    intro u hu
    simp only [actC, List.mem_cons] at hu
    rcases hu with rfl | rfl | rfl | rfl | hu
    · rfl
    · rfl
    · rfl
    · rfl
    · exact ih u hu
theorem actC_append (l m : List Ac) : actC (l ++ m) = actC l ++ actC m := by
  induction l with
  | nil => rfl
  | cons x l ih => simp only [List.cons_append, actC, ih]
def RdA (w : World) (ao : Option Addr) (l : List Ac) : Prop := RdC w ao (actC l)
def OwnA (w : World) (B : Nat) (v : Value) (l : List Ac) : Prop := Own w B 4 v l.length (actC l)
theorem RdA.below {w w' : World} {ao : Option Addr} {l : List Ac} {C : Nat} (h : RdA w ao l) (hb : Below C w w') (hC : w.heap.size ≤ C) : RdA w' ao l := RdC.below h hb hC
/-- The four cells of an operation in memory. -/
def ActAt (w : World) (b o : Nat) (x : Ac) : Prop :=
  w.cell? ⟨b, o, none⟩ = some (.int .i64 x.1) ∧ w.cell? ⟨b, o + 1, none⟩ = some (.string x.2.1) ∧ w.cell? ⟨b, o + 2, none⟩ = some (.string x.2.2.1) ∧ w.cell? ⟨b, o + 3, none⟩ = some (.string x.2.2.2)
theorem RdA.at_ {w : World} {ao : Option Addr} {l : List Ac} (h : RdA w ao l) (k : Nat) (x : Ac) (hx : l[k]? = some x) :
    ∃ b off, ao = some ⟨b, off, none⟩ ∧ w.cell? ⟨b, off + k * 4, none⟩ = some (.int .i64 x.1) ∧ w.cell? ⟨b, off + k * 4 + 1, none⟩ = some (.string x.2.1) ∧ w.cell? ⟨b, off + k * 4 + 2, none⟩ = some (.string x.2.2.1) ∧ w.cell? ⟨b, off + k * 4 + 3, none⟩ = some (.string x.2.2.2) := by
  obtain ⟨h1, h2, h3, h4⟩ := actC_get l k x hx
  obtain ⟨b, off, e, c1⟩ := h _ _ h1
  obtain ⟨b', off', e', c2⟩ := h _ _ h2
  obtain ⟨b2, off2, e2, c3⟩ := h _ _ h3
  obtain ⟨b3, off3, e3, c4⟩ := h _ _ h4
  rw [e] at e' e2 e3
  cases e'
  cases e2
  cases e3
  exact ⟨b, off, e, c1, c2, c3, c4⟩
theorem OwnA.rd {w : World} {B : Nat} {v : Value} {l : List Ac} (h : OwnA w B v l) : ∃ ao cap, v = .slice ao l.length cap ∧ RdA w ao l := Own.rdC h
theorem OwnA.below {w w' : World} {B C : Nat} {v : Value} {l : List Ac} (h : OwnA w B v l) (hb : Below C w w') (hC : w.heap.size ≤ C) : OwnA w' B v l := Own.below h hb hC

/-- The bytes of operations. -/
def acLen (x : Ac) : Nat := x.2.1.size + x.2.2.1.size + x.2.2.2.size
def sumAc : List Ac → Nat
  | [] => 0
  | x :: l => acLen x + sumAc l
theorem sumAc_step {l : List Ac} {k : Nat} {x : Ac} (hx : l[k]? = some x) : sumAc (l.take (k + 1)) = sumAc (l.take k) + acLen x := by
  induction l generalizing k with
  | nil => simp at hx
  | cons y l ih =>
    cases k with
    | zero => simp at hx; subst hx; simp [sumAc]
    | succ k => rw [List.getElem?_cons_succ] at hx; simp only [List.take_succ_cons, sumAc, ih hx]; omega
theorem sumAc_le {l : List Ac} (k : Nat) : sumAc (l.take k) ≤ sumAc l := by
  induction l generalizing k with
  | nil => simp [sumAc]
  | cons y l ih =>
    cases k with
    | zero => simp [sumAc]
    | succ k => have := ih k; simp only [List.take_succ_cons, sumAc]; omega
theorem sumAc_mem {l : List Ac} {x : Ac} (h : x ∈ l) : acLen x ≤ sumAc l := by
  induction l with
  | nil => cases h
  | cons y l ih =>
    rcases List.mem_cons.1 h with rfl | h
    · simp only [sumAc]; omega
    · have := ih h; simp only [sumAc]; omega
def szAc (l : List Ac) (left : Int) : Int := if (l.length : Int) + sumAc l ≤ left then left - l.length - sumAc l else -1
theorem szAc_yes {l : List Ac} {left : Int} (h : (l.length : Int) + sumAc l ≤ left) : szAc l left = left - l.length - sumAc l := if_pos h
theorem szAc_no {l : List Ac} {left : Int} (h : ¬ (l.length : Int) + sumAc l ≤ left) : szAc l left = -1 := if_neg h
def AcSmall (x : Ac) (m : Nat) : Prop := x.2.1.size ≤ m ∧ x.2.2.1.size ≤ m ∧ x.2.2.2.size ≤ m

/-- The marks on operations from k on. -/
def markA (k : Nat) : Ac := ((k : Int), markB (k + 1), markB (k + 2), markB (k + 3))
def marksA (k : Nat) : Nat → List Ac
  | 0 => []
  | n + 1 => markA k :: marksA (k + 4) n
theorem marksA_length (k n : Nat) : (marksA k n).length = n := by
  induction n generalizing k with
  | zero => rfl
  | succ n ih => simp [marksA, ih]
theorem marksA_get (k n j : Nat) (h : j < n) : (marksA k n)[j]? = some (markA (k + 4 * j)) := by
  induction n generalizing k j with
  | zero => omega
  | succ n ih =>
    cases j with
    | zero => simp [marksA]
    | succ j =>
      simp only [marksA, List.getElem?_cons_succ]
      rw [ih (k + 4) j (by omega), show k + 4 + 4 * j = k + 4 * (j + 1) by omega]
theorem marksA_eq {cs : List Value} {K N : Nat} (hl : cs.length = N * 4) (h : ∀ j, j < N → ActIs cs j (markA (K + 4 * j))) : cs = actC (marksA K N) := by
  refine actC_of (by rw [marksA_length]; exact hl) (fun k x hx => ?_)
  have hk : k < N := by have := (List.getElem?_eq_some_iff.1 hx).1; rw [marksA_length] at this; exact this
  rw [marksA_get K N k hk] at hx
  cases hx
  exact h k hk
/-- One operation more is in its cells. -/
theorem ActIs.set4 {cs : List Value} {k n : Nat} (hl : cs.length = n * 4) (hk : k < n) (x : Ac) :
    ActIs ((((cs.set (k * 4) (.int .i64 x.1)).set (k * 4 + 1) (.string x.2.1)).set (k * 4 + 2) (.string x.2.2.1)).set (k * 4 + 3) (.string x.2.2.2)) k x := by
  unfold ActIs
  refine ⟨?_, ?_, ?_, ?_⟩
  · rw [List.getElem?_set_ne (by omega), List.getElem?_set_ne (by omega), List.getElem?_set_ne (by omega), List.getElem?_set_self (by omega)]
  · rw [List.getElem?_set_ne (by omega), List.getElem?_set_ne (by omega), List.getElem?_set_self (by rw [List.length_set]; omega)]
  · rw [List.getElem?_set_ne (by omega), List.getElem?_set_self (by rw [List.length_set, List.length_set]; omega)]
  · rw [List.getElem?_set_self (by rw [List.length_set, List.length_set, List.length_set]; omega)]
theorem ActIs.keep4 {cs : List Value} {k j : Nat} {y : Ac} (h : ActIs cs j y) (hj : j < k) (x : Ac) :
    ActIs ((((cs.set (k * 4) (.int .i64 x.1)).set (k * 4 + 1) (.string x.2.1)).set (k * 4 + 2) (.string x.2.2.1)).set (k * 4 + 3) (.string x.2.2.2)) j y := by
  obtain ⟨h1, h2, h3, h4⟩ := h
  unfold ActIs
  refine ⟨?_, ?_, ?_, ?_⟩
  · rw [List.getElem?_set_ne (by omega), List.getElem?_set_ne (by omega), List.getElem?_set_ne (by omega), List.getElem?_set_ne (by omega)]; exact h1
  · rw [List.getElem?_set_ne (by omega), List.getElem?_set_ne (by omega), List.getElem?_set_ne (by omega), List.getElem?_set_ne (by omega)]; exact h2
  · rw [List.getElem?_set_ne (by omega), List.getElem?_set_ne (by omega), List.getElem?_set_ne (by omega), List.getElem?_set_ne (by omega)]; exact h3
  · rw [List.getElem?_set_ne (by omega), List.getElem?_set_ne (by omega), List.getElem?_set_ne (by omega), List.getElem?_set_ne (by omega)]; exact h4
theorem ActIs.grow4 {l : List Ac} {cs : List Value} {k n : Nat} {x : Ac} (hx : l[k]? = some x) (hl : cs.length = n * 4) (hk : k < n) (h : ∀ j y, j < k → l[j]? = some y → ActIs cs j y) :
    ∀ j y, j < k + 1 → l[j]? = some y → ActIs ((((cs.set (k * 4) (.int .i64 x.1)).set (k * 4 + 1) (.string x.2.1)).set (k * 4 + 2) (.string x.2.2.1)).set (k * 4 + 3) (.string x.2.2.2)) j y := by
  intro j y hj hy
  by_cases hjk : j = k
  · subst hjk
    rw [hx] at hy
    cases hy
    exact ActIs.set4 hl hk x
  · exact (h j y (by omega) hy).keep4 (by omega) x
theorem ac_step {l1 l2 : List Ac} {k : Nat} {x y : Ac} (hx : l1[k]? = some x) (hy : l2[k]? = some y) (h : x = y) (ht : l1.take k = l2.take k) : l1.take (k + 1) = l2.take (k + 1) := by
  rw [List.take_add_one, List.take_add_one, hx, hy, h, ht]

end Go.Proofs.Ytdecehecjlbbiaa
