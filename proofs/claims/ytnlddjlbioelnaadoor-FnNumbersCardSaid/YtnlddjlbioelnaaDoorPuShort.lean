/-
  Plain law: a string behind its length. No program in sight.
-/
import Derived.Test.YtnlddjlbioelnaaDoorPuWords
import Derived.Test.YtnlddjlbioelnaaDoorKit3
namespace Go.Proofs.YtnlddjlbioelnaaDoor

theorem readVar_bounds {l : List UInt8} {p : Int} {n m : Nat} (h : readVar l p = some (n, m)) : n ≤ 1000000000 ∧ m ≤ l.length := by
  unfold readVar at h
  split at h
  · rename_i hp
    obtain ⟨⟨a, b⟩, hx, hy⟩ := Option.map_eq_some_iff.1 h
    simp only [Prod.mk.injEq] at hy
    obtain ⟨rfl, rfl⟩ := hy
    have key : ∀ (f k n0 : Nat) (r : List UInt8) (x y : Nat), rv f k n0 r = some (x, y) → x ≤ 1000000000 ∧ k < y ∧ y ≤ k + r.length := by
      intro f
      induction f with
      | zero => intro k n0 r x y h; simp [rv] at h
      | succ f ih =>
        intro k n0 r x y h
        cases r with
        | nil => simp [rv] at h
        | cons c r =>
          rw [rv] at h
          split at h
          · split at h
            · cases h
            · rename_i h2
              simp only [Option.some.injEq, Prod.mk.injEq] at h
              obtain ⟨rfl, rfl⟩ := h
              simp only [List.length_cons]
              omega
          · have := ih _ _ _ _ _ h
            simp only [List.length_cons]
            omega
    have := key _ _ _ _ _ _ hx
    rw [List.length_drop] at this
    omega
  · cases h

/-- The string that stands in l at place p, and the place behind it. -/
def readShort (l : List UInt8) (p : Int) : Option (List UInt8 × Nat) :=
  match readVar l p with
  | none => none
  | some (n, m) => if n ≤ 20000 ∧ n ≤ l.length - m then some ((l.drop m).take n, m + n) else none

def rsVal : Option (List UInt8 × Nat) → Value
  | none => .tuple #[.string ⟨#[]⟩, .int .i64 0, .bool false]
  | some (t, m) => .tuple #[.string (txt t), .int .i64 m, .bool true]

theorem readShort_none {l : List UInt8} {p : Int} (h : readVar l p = none) : rsVal (readShort l p) = .tuple #[.string ⟨#[]⟩, .int .i64 0, .bool false] := by
  unfold readShort; rw [h]; rfl
theorem readShort_no {l : List UInt8} {p : Int} {n m : Nat} (h : readVar l p = some (n, m)) (h' : ¬ (n ≤ 20000 ∧ n ≤ l.length - m)) : rsVal (readShort l p) = .tuple #[.string ⟨#[]⟩, .int .i64 0, .bool false] := by
  unfold readShort; rw [h]; simp only [if_neg h']; rfl
theorem readShort_yes {s : ByteArray} {p : Int} {n m : Nat} (h : readVar s.data.toList p = some (n, m)) (h' : n ≤ 20000 ∧ n ≤ s.data.toList.length - m) : rsVal (readShort s.data.toList p) = .tuple #[.string (s.extract m (m + n)), .int .i64 ((m : Int) + n), .bool true] := by
  unfold readShort; rw [h]; simp only [if_pos h', rsVal]
  rw [extract_txt, show m + n - m = n by omega]; push_cast; rfl

end Go.Proofs.YtnlddjlbioelnaaDoor
