/-
  Plain law: framed records, and reading them. No program in sight.
-/
import Derived.Test.YtdecehecjlbbiaaPuShort
import Derived.Test.YtdecehecjlbbiaaPuSeal
import Derived.Test.YtdecehecjlbbiaaPuStrs
namespace Go.Proofs.Ytdecehecjlbbiaa

def frameL (l : List UInt8) : List UInt8 := varL l.length ++ crc4 l ++ l

/-- What a read number looks like. -/
theorem rv_digits : ∀ (f k n : Nat) (r : List UInt8) (x y : Nat), rv f k n r = some (x, y) →
    ∃ (pre : List UInt8) (b : UInt8) (rest : List UInt8), r = pre ++ b :: rest ∧ (∀ c ∈ pre, 128 ≤ c.toNat) ∧ b.toNat < 128 ∧ ((pre = [] ∧ k = 0) ∨ b.toNat ≠ 0) ∧ y = k + pre.length + 1 ∧ x = n + valL (pre ++ [b]) * 128 ^ k := by
  intro f
  induction f with
  | zero => intro k n r x y h; simp [rv] at h
  | succ f ih =>
    intro k n r x y h
    cases r with
    | nil => simp [rv] at h
    | cons c r =>
      rw [rv] at h
      split at h
      · rename_i h1
        split at h
        · cases h
        · rename_i h2
          simp only [Option.some.injEq, Prod.mk.injEq] at h
          obtain ⟨rfl, rfl⟩ := h
          refine ⟨[], c, r, rfl, fun c hc => by simp at hc, h1, ?_, by simp, ?_⟩
          · by_cases hk : k = 0
            · exact Or.inl ⟨rfl, hk⟩
            · exact Or.inr (fun h0 => h2 (Or.inl ⟨h0, by omega⟩))
          · simp [valL]
      · rename_i h1
        obtain ⟨pre, b, rest, hr, hp, hb, hz, hy, hx⟩ := ih _ _ _ _ _ h
        refine ⟨c :: pre, b, rest, by rw [hr]; rfl, fun d hd => ?_, hb, ?_, by rw [hy, List.length_cons]; omega, ?_⟩
        · rcases List.mem_cons.1 hd with rfl | hd
          · omega
          · exact hp d hd
        · rcases hz with ⟨_, h0⟩ | h0
          · omega
          · exact Or.inr h0
        · rw [hx, List.cons_append, valL, Nat.pow_succ, Nat.add_mul, Nat.add_assoc]
          congr 2
          rw [Nat.mul_comm 128 (valL _), Nat.mul_assoc, Nat.mul_comm 128 (128 ^ k)]

theorem readVar_canon {l : List UInt8} {p n m : Nat} (h : readVar l p = some (n, m)) : p < m ∧ m ≤ l.length ∧ (l.drop p).take (m - p) = varL n := by
  have hb := (readVar_bounds h).2
  unfold readVar at h
  split at h
  · rename_i hp
    obtain ⟨⟨a, b⟩, hx, hy⟩ := Option.map_eq_some_iff.1 h
    simp only [Prod.mk.injEq, Int.toNat_natCast] at hy hx
    obtain ⟨rfl, rfl⟩ := hy
    obtain ⟨pre, c, rest, hr, hpre, hc, hz, hy', hx'⟩ := rv_digits _ _ _ _ _ _ hx
    refine ⟨by omega, hb, ?_⟩
    have e1 : p + b - p = (pre ++ [c]).length := by rw [hy', List.length_append]; simp
    rw [e1, hr, show pre ++ c :: rest = (pre ++ [c]) ++ rest by simp, List.take_left]
    have e2 : a = valL (pre ++ [c]) := by rw [hx']; simp
    rw [e2]
    exact ((varL_valL pre c hpre hc).2 (hz.imp (fun h => h.1) id)).symm
  · cases h

/-- The record that stands in l at place p, and the place behind it. -/
def frameAt (l : List UInt8) (p : Nat) : Option (List UInt8 × Nat) :=
  match readVar l p with
  | none => none
  | some (n, m) =>
    if 1 ≤ n ∧ n ≤ 9000 ∧ n + 4 ≤ l.length - m ∧ (l.drop m).take 4 = crc4 ((l.drop (m + 4)).take n) then some ((l.drop (m + 4)).take n, m + 4 + n) else none

theorem frameAt_lt {l : List UInt8} {p q : Nat} {t : List UInt8} (h : frameAt l p = some (t, q)) : p < q ∧ q ≤ l.length := by
  unfold frameAt at h
  split at h
  · cases h
  · rename_i n m hr
    have := readVar_canon hr
    split at h
    · rename_i hc
      simp only [Option.some.injEq, Prod.mk.injEq] at h
      omega
    · cases h

/-- The records from place p on, and the place behind the last. -/
def unfr (l : List UInt8) : Nat → Nat → List (List UInt8) × Nat
  | 0, p => ([], p)
  | f + 1, p =>
    match frameAt l p with
    | none => ([], p)
    | some (t, q) => (t :: (unfr l f q).1, (unfr l f q).2)

theorem unfr_none {l : List UInt8} {p : Nat} (h : frameAt l p = none) (f : Nat) : unfr l f p = ([], p) := by
  cases f with
  | zero => rfl
  | succ f => rw [unfr, h]
theorem unfr_some {l : List UInt8} {p q : Nat} {t : List UInt8} (h : frameAt l p = some (t, q)) (f : Nat) : unfr l (f + 1) p = (t :: (unfr l f q).1, (unfr l f q).2) := by
  rw [unfr, h]
theorem unfr_length (l : List UInt8) : ∀ (f p : Nat), p ≤ l.length → (unfr l f p).1.length + p ≤ l.length := by
  intro f
  induction f with
  | zero => intro p hp; simp [unfr]; omega
  | succ f ih =>
    intro p hp
    cases h : frameAt l p with
    | none => rw [unfr_none h]; simp; omega
    | some x =>
      obtain ⟨t, q⟩ := x
      have := frameAt_lt h
      have := ih q (by omega)
      rw [unfr_some h, List.length_cons]
      omega

/-- All records of a file. -/
def unframeL (l : List UInt8) : List (List UInt8) × Nat := if l.length ≤ 20000 then unfr l (l.length + 1) 0 else ([], 0)

/-- The records from place p on (the fuel is enough). -/
def unfA (l : List UInt8) (p : Nat) : List (List UInt8) × Nat := unfr l (l.length + 1 - p) p
theorem unfr_fuel (l : List UInt8) : ∀ (f g p : Nat), p ≤ l.length → l.length - p < f → l.length - p < g → unfr l f p = unfr l g p := by
  intro f
  induction f with
  | zero => intro g p _ h; omega
  | succ f ih =>
    intro g p hp hf hg
    obtain ⟨g, rfl⟩ : ∃ k, g = k + 1 := ⟨g - 1, by omega⟩
    cases h : frameAt l p with
    | none => rw [unfr_none h, unfr_none h]
    | some x =>
      obtain ⟨t, q⟩ := x
      have := frameAt_lt h
      rw [unfr_some h, unfr_some h, ih g q (by omega) (by omega) (by omega)]
theorem unfA_none {l : List UInt8} {p : Nat} (h : frameAt l p = none) : unfA l p = ([], p) := unfr_none h _
theorem unfA_some {l : List UInt8} {p q : Nat} {t : List UInt8} (h : frameAt l p = some (t, q)) : unfA l p = (t :: (unfA l q).1, (unfA l q).2) := by
  have := frameAt_lt h
  unfold unfA
  rw [show l.length + 1 - p = (l.length - p) + 1 by omega, unfr_some h, unfr_fuel l (l.length - p) (l.length + 1 - q) q (by omega) (by omega) (by omega)]
theorem unframeL_yes {l : List UInt8} (h : l.length ≤ 20000) : unframeL l = unfA l 0 := if_pos h
theorem unframeL_no {l : List UInt8} (h : ¬ l.length ≤ 20000) : unframeL l = ([], 0) := if_neg h

theorem unframeL_len (l : List UInt8) : (unframeL l).1.length ≤ l.length := by
  unfold unframeL
  split
  · have := unfr_length l (l.length + 1) 0 (Nat.zero_le _); omega
  · simp
theorem unframeL_le (l : List UInt8) : (unframeL l).2 ≤ l.length := by
  unfold unframeL
  split
  · have : ∀ f p, p ≤ l.length → (unfr l f p).2 ≤ l.length := by
      intro f
      induction f with
      | zero => intro p hp; exact hp
      | succ f ih =>
        intro p hp
        cases h : frameAt l p with
        | none => rw [unfr_none h]; exact hp
        | some x => obtain ⟨t, q⟩ := x; rw [unfr_some h]; exact ih q (frameAt_lt h).2
    exact this _ 0 (Nat.zero_le _)
  · exact Nat.zero_le _

/-- What has been read at place q, so far. -/
def Reads (l : List UInt8) (acc : List (List UInt8)) (q : Nat) : Prop := unfA l 0 = (acc ++ (unfA l q).1, (unfA l q).2)
theorem Reads.zero (l : List UInt8) : Reads l [] 0 := by unfold Reads; simp
theorem Reads.stop {l : List UInt8} {acc : List (List UInt8)} {q : Nat} (h : Reads l acc q) (hn : frameAt l q = none) : unfA l 0 = (acc, q) := by
  unfold Reads at h; rw [h, unfA_none hn]; simp
theorem Reads.more {l : List UInt8} {acc : List (List UInt8)} {q r : Nat} {t : List UInt8} (h : Reads l acc q) (hn : frameAt l q = some (t, r)) : Reads l (acc ++ [t]) r := by
  unfold Reads at *; rw [h, unfA_some hn]; simp

theorem frameAt_none {l : List UInt8} {p : Nat} (h : readVar l p = none) : frameAt l p = none := by unfold frameAt; rw [h]
theorem frameAt_no {l : List UInt8} {p n m : Nat} (h : readVar l p = some (n, m)) (h' : ¬ (1 ≤ n ∧ n ≤ 9000 ∧ n + 4 ≤ l.length - m ∧ (l.drop m).take 4 = crc4 ((l.drop (m + 4)).take n))) : frameAt l p = none := by
  unfold frameAt; rw [h]; exact if_neg h'
theorem frameAt_yes {l : List UInt8} {p n m : Nat} (h : readVar l p = some (n, m)) (h' : 1 ≤ n ∧ n ≤ 9000 ∧ n + 4 ≤ l.length - m ∧ (l.drop m).take 4 = crc4 ((l.drop (m + 4)).take n)) : frameAt l p = some ((l.drop (m + 4)).take n, m + 4 + n) := by
  unfold frameAt; rw [h]; exact if_pos h'

/-- The reference's test of a record is the program's. -/
theorem frame_test {l : List UInt8} {p n m : Nat} (hr : readVar l p = some (n, m)) (hn : n + 4 ≤ l.length - m) :
    frameL ((l.drop (m + 4)).take n) = (l.drop p).take (m + 4 + n - p) ↔ (l.drop m).take 4 = crc4 ((l.drop (m + 4)).take n) := by
  obtain ⟨h1, h2, h3⟩ := readVar_canon hr
  have hl : ((l.drop (m + 4)).take n).length = n := by simp; omega
  have e : (l.drop p).take (m + 4 + n - p) = varL n ++ ((l.drop m).take 4 ++ (l.drop (m + 4)).take n) := by
    rw [show m + 4 + n - p = (m - p) + (4 + n) by omega, List.take_add, h3, List.drop_drop, show p + (m - p) = m by omega, List.take_add, List.drop_drop]
  rw [frameL, hl, e, List.append_assoc, List.append_cancel_left_eq]
  constructor
  · intro h
    exact (List.append_inj_left h (by rw [crc4_length]; simp; omega)).symm
  · intro h; rw [h]

end Go.Proofs.Ytdecehecjlbbiaa
