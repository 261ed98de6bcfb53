/-
  Plain law: the compression function over eight integers. No program in sight.
-/
import Derived.Test.YtnlddjlbioelnaaDoorPuDig
namespace Go.Proofs.YtnlddjlbioelnaaDoor
open Go.RowKit

/-- Whether these are the words of a state, and a block. -/
def BlkOk (l : List Int) (b : List UInt8) : Prop := l.length = 8 ∧ b.length = 64 ∧ ∀ x ∈ l, 0 ≤ x ∧ x ≤ 4294967295
instance (l : List Int) (b : List UInt8) : Decidable (BlkOk l b) := by unfold BlkOk; infer_instance
def wOf (l : List Int) (j : Nat) : Nat := (l.getD j 0).toNat
def w8Of (l : List Int) : W8 := ⟨wOf l 0, wOf l 1, wOf l 2, wOf l 3, wOf l 4, wOf l 5, wOf l 6, wOf l 7⟩
theorem w8Of_at (l : List Int) (j : Nat) (hj : j < 8) : (w8Of l).at_ j = wOf l j := by
  rcases (show j = 0 ∨ j = 1 ∨ j = 2 ∨ j = 3 ∨ j = 4 ∨ j = 5 ∨ j = 6 ∨ j = 7 by omega) with rfl | rfl | rfl | rfl | rfl | rfl | rfl | rfl <;> rfl
def intsOf (l : List Nat) : List Int := l.map fun (x : Nat) => (x : Int)
/-- What ShaBlock answers. -/
def shaB (l : List Int) (b : List UInt8) : List Int := if BlkOk l b then intsOf (comp (w8Of l) b).toL else l
theorem shaB_yes {l : List Int} {b : List UInt8} (h : BlkOk l b) : shaB l b = intsOf (comp (w8Of l) b).toL := if_pos h
theorem shaB_no {l : List Int} {b : List UInt8} (h : ¬ BlkOk l b) : shaB l b = l := if_neg h
theorem intsOf_length (l : List Nat) : (intsOf l).length = l.length := by simp [intsOf]
theorem shaB_length (l : List Int) (b : List UInt8) : (shaB l b).length = l.length := by
  unfold shaB; split
  · next h => rw [intsOf_length, h.1]; rfl
  · rfl
theorem wOf_val {l : List Int} (h : ∀ x ∈ l, 0 ≤ x ∧ x ≤ 4294967295) {j : Nat} {x : Int} (hx : l[j]? = some x) : x = (wOf l j : Nat) := by
  have := h x (List.mem_of_getElem? hx)
  unfold wOf
  rw [List.getD_eq_getElem?_getD, hx]
  simp only [Option.getD_some]
  omega
theorem w8Of_ok {l : List Int} (h : ∀ x ∈ l, 0 ≤ x ∧ x ≤ 4294967295) : (w8Of l).Ok := by
  have e : ∀ j, wOf l j < 4294967296 := by
    intro j
    unfold wOf
    rw [List.getD_eq_getElem?_getD]
    by_cases hj : j < l.length
    · rw [List.getElem?_eq_getElem hj]
      have := h _ (List.getElem_mem hj)
      simp only [Option.getD_some]
      omega
    · rw [List.getElem?_eq_none (by omega)]; decide
  exact ⟨e 0, e 1, e 2, e 3, e 4, e 5, e 6, e 7⟩
theorem intsOf_at (s : W8) (j : Nat) (hj : j < 8) : (intC (intsOf s.toL))[j]? = some (.int .i64 (s.at_ j : Nat)) := by
  rcases (show j = 0 ∨ j = 1 ∨ j = 2 ∨ j = 3 ∨ j = 4 ∨ j = 5 ∨ j = 6 ∨ j = 7 by omega) with rfl | rfl | rfl | rfl | rfl | rfl | rfl | rfl <;> rfl
theorem ints8_of {cs : List Value} {s : W8} (hl : cs.length = 8) (h : ∀ j, j < 8 → cs[j]? = some (.int .i64 (s.at_ j : Nat))) : cs = intC (intsOf s.toL) := by
  apply List.ext_getElem?
  intro j
  by_cases hj : j < 8
  · rw [h j hj, intsOf_at s j hj]
  · rw [List.getElem?_eq_none (by omega), List.getElem?_eq_none (by rw [intC_length, intsOf_length]; show 8 ≤ j; omega)]
theorem own_some {w : World} {B size n : Nat} {v : Value} {cs : List Value} (h : Own w B size v n cs) (hn : 0 < n) : ∃ g cap, v = .slice (some ⟨g, 0, none⟩) n cap := by
  rcases h with ⟨_, rfl, _⟩ | ⟨g, cap, rfl, _, _⟩
  · omega
  · exact ⟨g, cap, rfl⟩

/-- The eight cells of a state, and that they may be written. -/
theorem state8 {w : World} {g : Nat} {t : TypeId} {a b c d e f x y : Nat} (h : Blk w g t (natC (W8.toL ⟨a, b, c, d, e, f, x, y⟩))) :
    (w.cell? ⟨g, 0, none⟩ = some (.int .u32 a) ∧ w.cell? ⟨g, 1, none⟩ = some (.int .u32 b) ∧ w.cell? ⟨g, 2, none⟩ = some (.int .u32 c) ∧ w.cell? ⟨g, 3, none⟩ = some (.int .u32 d) ∧ w.cell? ⟨g, 4, none⟩ = some (.int .u32 e) ∧ w.cell? ⟨g, 5, none⟩ = some (.int .u32 f) ∧ w.cell? ⟨g, 6, none⟩ = some (.int .u32 x) ∧ w.cell? ⟨g, 7, none⟩ = some (.int .u32 y)) ∧
    (w.frozen? ⟨g, 0, none⟩ = false ∧ w.frozen? ⟨g, 1, none⟩ = false ∧ w.frozen? ⟨g, 2, none⟩ = false ∧ w.frozen? ⟨g, 3, none⟩ = false ∧ w.frozen? ⟨g, 4, none⟩ = false ∧ w.frozen? ⟨g, 5, none⟩ = false ∧ w.frozen? ⟨g, 6, none⟩ = false ∧ w.frozen? ⟨g, 7, none⟩ = false) :=
  ⟨⟨h.cell 0, h.cell 1, h.cell 2, h.cell 3, h.cell 4, h.cell 5, h.cell 6, h.cell 7⟩, h.frozen 0, h.frozen 1, h.frozen 2, h.frozen 3, h.frozen 4, h.frozen 5, h.frozen 6, h.frozen 7⟩

/-- Another block than the row's own is written. -/
theorem Own.far {w : World} {B size : Nat} {v : Value} {n : Nat} {cs : List Value} (h : Own w B size v n cs) {a : Addr} (hne : v.ownBlock ≠ some a.block) (u : Value) : Own (w.setCell a u) B size v n cs := by
  rcases h with h | ⟨g, cap, rfl, hB, r⟩
  · exact .inl h
  · exact .inr ⟨g, cap, rfl, hB, r.keep (by simp [World.setCell]) (Below.heap_setCell _ _ _ _ (by intro e; exact hne (by simp [Value.ownBlock, e])))⟩

/-- What a slice of integers that came in yields to append. -/
theorem RdI.src {P : Program} {t e' : TypeId} (ht : P.underlying t = some (.slice e')) {w : World} {ao : Option Addr} {l : List Int} (h : RdI w ao l) (c : Nat) :
    Src P 1 t (.slice ao l.length c) l.length (intC l) w := by
  cases ao with
  | none =>
    cases l with
    | nil => exact Src.ofNil w ht c
    | cons x r => obtain ⟨b, off, he, _⟩ := h 0 (.int .i64 x) rfl; cases he
  | some a =>
    refine Src.ofSlice _ ht _ _ _ _ (by rw [intC_length, Nat.mul_one]) (fun j u hu => ?_) (intC_one _)
    obtain ⟨b, off, he, hc⟩ := h j u hu
    cases he
    rw [Addr.add_lit]
    exact hc

end Go.Proofs.YtnlddjlbioelnaaDoor
