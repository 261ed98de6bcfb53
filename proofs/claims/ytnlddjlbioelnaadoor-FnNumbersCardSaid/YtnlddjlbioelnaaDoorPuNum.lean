/-
  Plain law: a number is read back from its bytes, a string from behind its length. No program in sight.
-/
import Derived.Test.YtnlddjlbioelnaaDoorPuShort
namespace Go.Proofs.YtnlddjlbioelnaaDoor

theorem rv_varL : ∀ (n f k acc : Nat) (r : List UInt8), (varL n).length ≤ f → (0 < n ∨ k = 0) → acc + n * 128 ^ k ≤ 1000000000 → rv f k acc (varL n ++ r) = some (acc + n * 128 ^ k, k + (varL n).length) := by
  intro n
  induction n using Nat.strongRecOn with
  | _ n ih =>
    intro f k acc r hf h0 hb
    by_cases hn : n ≤ 127
    · rw [varL_small hn] at hf ⊢
      obtain ⟨f, rfl⟩ : ∃ g, f = g + 1 := ⟨f - 1, by simp at hf; omega⟩
      have e1 : (UInt8.ofNat n).toNat = n := by simp; omega
      have e2 : n % 128 = n := Nat.mod_eq_of_lt (by omega)
      rw [List.cons_append, List.nil_append, rv_good (b := UInt8.ofNat n) (r := r) rfl (by rw [e1]; omega) (by rw [e1, e2]; omega), e1, e2]
      simp
    · rw [varL_big (by omega)] at hf ⊢
      obtain ⟨f, rfl⟩ : ∃ g, f = g + 1 := ⟨f - 1, by simp at hf; omega⟩
      have e1 : (UInt8.ofNat (128 + n % 128)).toNat = 128 + n % 128 := by simp; omega
      have e2 : (128 + n % 128) % 128 = n % 128 := by omega
      have hp : 0 < 128 ^ k := Nat.pow_pos (by omega)
      have hsplit : n % 128 * 128 ^ k + n / 128 * 128 ^ (k + 1) = n * 128 ^ k := by
        rw [Nat.pow_succ, Nat.mul_comm (128 ^ k) 128, ← Nat.mul_assoc, ← Nat.add_mul]
        congr 1
        omega
      rw [List.cons_append, rv_more (b := UInt8.ofNat (128 + n % 128)) rfl (by rw [e1]; omega), e1, e2, ih (n / 128) (by omega) f (k + 1) _ r (by simp at hf; exact hf) (.inl (by omega)) (by omega)]
      simp only [List.length_cons, Option.some.injEq, Prod.mk.injEq]
      omega
theorem varL_len5 {n : Nat} (h : n ≤ 1000000000) : (varL n).length ≤ 5 := varL_length_le 4 n (by omega)
/-- 'x' and the number and 'y', read at place 1. -/
theorem readVar_back {n : Nat} (h : n ≤ 1000000000) (x : UInt8) (r : List UInt8) : readVar (x :: (varL n ++ r)) 1 = some (n, 1 + (varL n).length) := by
  rw [show (1 : Int) = ((1 : Nat) : Int) from rfl, readVar_in (by simp), List.drop_one, List.tail_cons, rv_varL n 5 0 0 r (varL_len5 h) (.inr rfl) (by omega)]
  simp
theorem readVar_front {n : Nat} (h : n ≤ 1000000000) (r : List UInt8) : readVar (varL n ++ r) 0 = some (n, (varL n).length) := by
  rw [show (0 : Int) = ((0 : Nat) : Int) from rfl, readVar_in (by simp), List.drop_zero, rv_varL n 5 0 0 r (varL_len5 h) (.inr rfl) (by omega)]
  simp
theorem readShort_back {l : List UInt8} (h : l.length ≤ 20000) : readShort (varL l.length ++ l) 0 = some (l, (varL l.length).length + l.length) := by
  unfold readShort
  rw [readVar_front (by omega)]
  simp only
  rw [if_pos ⟨h, by rw [List.length_append]; omega⟩, List.drop_left, List.take_length]

end Go.Proofs.YtnlddjlbioelnaaDoor
