/-
  Plain law: the words of the set (numbers, short strings, hexadecimal digits, lines) as functions on lists of bytes. No program in sight.
-/
import Derived.Test.YtcehbmlibfalaaaDoorKit
namespace Go.Proofs.YtcehbmlibfalaaaDoor

/-- A number in base 128, the lowest seven bits first. -/
def varL (n : Nat) : List UInt8 := if n ≤ 127 then [UInt8.ofNat n] else UInt8.ofNat (128 + n % 128) :: varL (n / 128)
termination_by n
decreasing_by omega

theorem varL_small {n : Nat} (h : n ≤ 127) : varL n = [UInt8.ofNat n] := by rw [varL, if_pos h]
theorem varL_big {n : Nat} (h : 127 < n) : varL n = UInt8.ofNat (128 + n % 128) :: varL (n / 128) := by rw [varL, if_neg (by omega)]

theorem varL_length_le : ∀ (k n : Nat), n < 128 ^ (k + 1) → (varL n).length ≤ k + 1 := by
  intro k
  induction k with
  | zero => intro n h; rw [varL_small (by omega)]; simp
  | succ k ih =>
    intro n h
    by_cases hs : n ≤ 127
    · rw [varL_small hs]; simp
    · rw [varL_big (by omega), List.length_cons]
      have : n / 128 < 128 ^ (k + 1) := by
        rw [Nat.pow_succ] at h
        exact Nat.div_lt_of_lt_mul (by omega)
      have := ih _ this
      omega

theorem varL_pos (n : Nat) : 0 < (varL n).length := by
  rw [varL]; split <;> simp

/-- Reading a number in base 128: at most f bytes more; k bytes have been read, they gave n. -/
def rv : Nat → Nat → Nat → List UInt8 → Option (Nat × Nat)
  | 0, _, _, _ => none
  | _ + 1, _, _, [] => none
  | f + 1, k, n, b :: r =>
    if b.toNat < 128 then (if (b.toNat = 0 ∧ 0 < k) ∨ 1000000000 < n + b.toNat % 128 * 128 ^ k then none else some (n + b.toNat % 128 * 128 ^ k, k + 1))
    else rv f (k + 1) (n + b.toNat % 128 * 128 ^ k) r

/-- The number that stands in l at place p, and the place behind it. -/
def readVar (l : List UInt8) (p : Int) : Option (Nat × Nat) :=
  if 0 ≤ p ∧ p ≤ l.length then (rv 5 0 0 (l.drop p.toNat)).map fun x => (x.1, p.toNat + x.2) else none

theorem readVar_in {l : List UInt8} {p : Nat} (h : p ≤ l.length) : readVar l p = (rv 5 0 0 (l.drop p)).map fun x => (x.1, p + x.2) := by
  rw [readVar, if_pos ⟨by omega, by omega⟩, Int.toNat_natCast]
theorem readVar_out {l : List UInt8} {p : Int} (h : ¬ (0 ≤ p ∧ p ≤ l.length)) : readVar l p = none := by rw [readVar, if_neg h]

theorem rv_more {f k n : Nat} {l : List UInt8} {b : UInt8} {r : List UInt8} (hl : l = b :: r) (h : 128 ≤ b.toNat) : rv (f + 1) k n l = rv f (k + 1) (n + b.toNat % 128 * 128 ^ k) r := by
  subst hl; rw [rv, if_neg (by omega)]
theorem rv_bad {f k n : Nat} {l : List UInt8} {b : UInt8} {r : List UInt8} (hl : l = b :: r) (h : b.toNat < 128) (h' : (b.toNat = 0 ∧ 0 < k) ∨ 1000000000 < n + b.toNat % 128 * 128 ^ k) : rv (f + 1) k n l = none := by
  subst hl; rw [rv, if_pos h, if_pos h']
theorem rv_good {f k n : Nat} {l : List UInt8} {b : UInt8} {r : List UInt8} (hl : l = b :: r) (h : b.toNat < 128) (h' : ¬ ((b.toNat = 0 ∧ 0 < k) ∨ 1000000000 < n + b.toNat % 128 * 128 ^ k)) : rv (f + 1) k n l = some (n + b.toNat % 128 * 128 ^ k, k + 1) := by
  subst hl; rw [rv, if_pos h, if_neg h']

theorem drop_at (s : ByteArray) (p : Nat) (h : p < s.size) : s.data.toList.drop p = s[p] :: s.data.toList.drop (p + 1) := by
  rw [List.drop_eq_getElem_cons (by simpa using h)]; rfl

theorem castT (b k : Nat) : ((b % 128 * 128 ^ k : Nat) : Int) = (b : Int) % 128 * 2 ^ (7 * k) := by
  rw [Int.natCast_mul, Int.natCast_pow, Int.pow_mul]; rfl

theorem boundT (b k : Nat) (hk : k < 5) : b % 128 * 128 ^ k ≤ 34091302912 := by
  have h1 : 128 ^ k ≤ 128 ^ 4 := Nat.pow_le_pow_right (by decide) (by omega)
  have h2 := Nat.mul_le_mul (show b % 128 ≤ 127 by omega) h1
  omega

theorem rv_nil (f k n : Nat) {l : List UInt8} (h : l.length = 0) : rv f k n l = none := by
  obtain rfl := List.eq_nil_of_length_eq_zero h
  cases f <;> rfl

/-- What the rounds come to, as the whole read's value. -/
theorem readVar_none {s : ByteArray} {p : Nat} (hp : p ≤ s.size) (h : rv 5 0 0 (s.data.toList.drop p) = none) : readVar s.data.toList p = none := by
  rw [readVar_in (by simpa using hp), h]; rfl
theorem readVar_some {s : ByteArray} {p n m : Nat} (hp : p ≤ s.size) (h : rv 5 0 0 (s.data.toList.drop p) = some (n, m)) : readVar s.data.toList p = some (n, p + m) := by
  rw [readVar_in (by simpa using hp), h]; rfl

/-- The number that digits in base 128 stand for. -/
def valL : List UInt8 → Nat
  | [] => 0
  | b :: r => b.toNat % 128 + 128 * valL r

theorem valL_snoc (l : List UInt8) (b : UInt8) : valL (l ++ [b]) = valL l + b.toNat % 128 * 128 ^ l.length := by
  induction l with
  | nil => simp [valL]
  | cons a r ih =>
    rw [List.cons_append, valL, ih, valL, List.length_cons, Nat.pow_succ]
    rw [Nat.mul_add, Nat.add_assoc, show b.toNat % 128 * (128 ^ r.length * 128) = 128 * (b.toNat % 128 * 128 ^ r.length) by rw [Nat.mul_comm (128 ^ r.length) 128, Nat.mul_left_comm]]

theorem varL_last : ∀ (n : Nat), 0 < n → ∀ l (b : UInt8), varL n = l ++ [b] → 0 < b.toNat := by
  intro n
  induction n using Nat.strongRecOn with
  | _ n ih =>
    intro hn l b h
    by_cases hs : n ≤ 127
    · rw [varL_small hs] at h
      cases l with
      | nil =>
        simp at h
        rw [← h, UInt8.toNat_ofNat_of_lt' (by show n < 256; omega)]
        exact hn
      | cons a r => simp at h
    · rw [varL_big (by omega)] at h
      cases l with
      | nil =>
        have := varL_pos (n / 128)
        have h2 := congrArg List.length h
        simp at h2
        rw [h2] at this
        simp at this
      | cons a r =>
        simp only [List.cons_append, List.cons.injEq] at h
        exact ih (n / 128) (by omega) (by omega) r b h.2

/-- Digits are the shortest ones just if the last of several is not 0. -/
theorem varL_valL (l : List UInt8) (b : UInt8) (hl : ∀ x ∈ l, 128 ≤ x.toNat) (hb : b.toNat < 128) : varL (valL (l ++ [b])) = l ++ [b] ↔ (l = [] ∨ b.toNat ≠ 0) := by
  constructor
  · intro h
    cases l with
    | nil => exact Or.inl rfl
    | cons a r =>
      refine Or.inr fun hb0 => ?_
      rcases Nat.eq_zero_or_pos (valL (a :: r ++ [b])) with h0 | h0
      · rw [h0, varL_small (by omega)] at h
        have := congrArg List.length h
        simp at this
      · have := varL_last _ h0 _ _ h
        omega
  · intro h
    induction l with
    | nil =>
      simp only [List.nil_append, valL]
      rw [varL_small (by omega)]
      have : b.toNat % 128 + 128 * 0 = b.toNat := by omega
      rw [this, UInt8.ofNat_toNat]
    | cons a r ih =>
      have hb0 : b.toNat ≠ 0 := h.resolve_left (by simp)
      have ih' := ih (fun x hx => hl x (List.mem_cons_of_mem _ hx)) (Or.inr hb0)
      have ha := hl a (List.mem_cons_self ..)
      have ha' := a.toNat_lt
      have hv : 0 < valL (r ++ [b]) := by
        rw [valL_snoc]
        have h1 : 0 < b.toNat % 128 * 128 ^ r.length := Nat.mul_pos (by omega) (Nat.pow_pos (by decide))
        omega
      rw [List.cons_append, valL, varL_big (by omega)]
      have e1 : 128 + (a.toNat % 128 + 128 * valL (r ++ [b])) % 128 = a.toNat := by omega
      have e2 : (a.toNat % 128 + 128 * valL (r ++ [b])) / 128 = valL (r ++ [b]) := by omega
      rw [e1, e2, ih', UInt8.ofNat_toNat]

/-- The three results of a read. -/
def rvVal : Option (Nat × Nat) → Value
  | none => .tuple #[.int .i64 0, .int .i64 0, .bool false]
  | some (n, m) => .tuple #[.int .i64 n, .int .i64 m, .bool true]

theorem rvVal_none {o : Option (Nat × Nat)} (h : o = none) : rvVal o = .tuple #[.int .i64 0, .int .i64 0, .bool false] := by rw [h]; rfl
theorem rvVal_some {o : Option (Nat × Nat)} {n m : Nat} (h : o = some (n, m)) : rvVal o = .tuple #[.int .i64 n, .int .i64 m, .bool true] := by rw [h]; rfl

end Go.Proofs.YtcehbmlibfalaaaDoor
