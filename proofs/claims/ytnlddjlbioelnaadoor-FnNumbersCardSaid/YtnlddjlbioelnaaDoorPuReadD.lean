/-
  Plain law: reading decimal digits back. No program in sight.
-/
import Derived.Test.YtnlddjlbioelnaaDoorPuDec
import Derived.Lib.Atoi
namespace Go.Proofs.YtnlddjlbioelnaaDoor

theorem digitVal_of {d : Nat} (h : d < 10) : Lib.digitVal (UInt8.ofNat (48 + d)) = some d := by
  unfold Lib.digitVal
  have e : (UInt8.ofNat (48 + d)).toNat = 48 + d := UInt8.toNat_ofNat_of_lt' (by show 48 + d < 256; omega)
  rw [e, if_pos (by omega)]
  congr 1
  omega
theorem digitVal_yes {b : UInt8} (h : 48 ≤ b.toNat ∧ b.toNat ≤ 57) : Lib.digitVal b = some (b.toNat - 48) := if_pos h
theorem digitVal_no {b : UInt8} (h : ¬ (48 ≤ b.toNat ∧ b.toNat ≤ 57)) : Lib.digitVal b = none := if_neg h
theorem decFrom_snoc (l : List UInt8) (b : UInt8) (acc : Nat) : Lib.decFrom acc (l ++ [b]) = (Lib.decFrom acc l).bind fun n => (Lib.digitVal b).map fun d => n * 10 + d := by
  induction l generalizing acc with
  | nil => simp only [List.nil_append, Lib.decFrom, Option.bind_some]; cases Lib.digitVal b <;> rfl
  | cons a l ih =>
    simp only [List.cons_append, Lib.decFrom]
    cases Lib.digitVal a with
    | none => rfl
    | some d => exact ih _
theorem decFrom_digits (m : Nat) : Lib.decFrom 0 (Lib.decDigits m) = some m := by
  induction m using Nat.strongRecOn with
  | _ m ih =>
    rw [Lib.decDigits]
    by_cases h : m < 10
    · rw [dif_pos h]
      simp only [Lib.decFrom, digitVal_of h]
      simp
    · rw [dif_neg h, decFrom_snoc, ih _ (by omega), digitVal_of (by omega)]
      simp only [Option.bind_some, Option.map_some]
      congr 1
      omega
theorem digits_ne (m : Nat) : Lib.decDigits m ≠ [] := by
  rw [Lib.decDigits]
  split <;> simp
theorem atoi_plain {l : List UInt8} {m : Nat} (hne : l ≠ []) (h : Lib.decFrom 0 l = some m) : Lib.atoi l = some (m : Int) := by
  cases l with
  | nil => exact absurd rfl hne
  | cons b r =>
    have h1 : ∃ d, Lib.digitVal b = some d := by
      rw [Lib.decFrom] at h
      cases hd : Lib.digitVal b with
      | none => rw [hd] at h; cases h
      | some d => exact ⟨d, rfl⟩
    obtain ⟨d, hd⟩ := h1
    have hb : 48 ≤ b.toNat := by
      unfold Lib.digitVal at hd
      split at hd
      · next hh => exact hh.1
      · cases hd
    have h45 : (b == 45) = false := by
      rw [beq_eq_false_iff_ne]; intro e; subst e; revert hb; decide
    have h43 : (b == 43) = false := by
      rw [beq_eq_false_iff_ne]; intro e; subst e; revert hb; decide
    unfold Lib.atoi
    simp only [h45, h43]
    unfold Lib.decNat
    simp only [List.isEmpty_cons, if_false, Bool.false_eq_true, h, Option.map_some]

/-- A number that is spelled rightly. -/
def readDec (l : List UInt8) : Option Nat :=
  match Lib.decFrom 0 l with
  | none => none
  | some m => if m ≤ 1000000000 ∧ Lib.decDigits m = l then some m else none
def rdV : Option Nat → Value
  | none => .tuple #[.int .i64 0, .bool false]
  | some m => .tuple #[.int .i64 m, .bool true]
theorem readDec_none {l : List UInt8} (h : Lib.decFrom 0 l = none) : readDec l = none := by unfold readDec; rw [h]
theorem readDec_yes {l : List UInt8} {m : Nat} (h : Lib.decFrom 0 l = some m) (h1 : m ≤ 1000000000) (h2 : Lib.decDigits m = l) : readDec l = some m := by
  unfold readDec; rw [h]; exact if_pos ⟨h1, h2⟩
theorem readDec_no {l : List UInt8} {m : Nat} (h : Lib.decFrom 0 l = some m) (h1 : ¬ (m ≤ 1000000000 ∧ Lib.decDigits m = l)) : readDec l = none := by
  unfold readDec; rw [h]; exact if_neg h1
theorem readDec_digits {m : Nat} (h : m ≤ 1000000000) : readDec (Lib.decDigits m) = some m := readDec_yes (decFrom_digits m) h rfl
theorem itoa_nat (m : Nat) : Lib.itoa (m : Int) = Lib.decDigits m := by
  unfold Lib.itoa; rw [if_neg (by omega)]; rfl
theorem digits_len {m : Nat} (h : m ≤ 1000000000) : (Lib.decDigits m).length ≤ 10 := by
  by_cases hm : m = 0
  · subst hm; decide +kernel
  · rw [← dec_pos hm]; exact dec_len 10 m (by omega)
theorem readDec_long {l : List UInt8} (h : 10 < l.length) : readDec l = none := by
  unfold readDec
  split
  · rfl
  · next m hm =>
    refine if_neg (fun h2 => ?_)
    have := digits_len h2.1
    rw [h2.2] at this
    omega
/-- What the library's reading tells. -/
theorem readDec_lib_none {l : List UInt8} (h : Lib.atoi l = none) : readDec l = none := by
  cases hd : Lib.decFrom 0 l with
  | none => exact readDec_none hd
  | some m =>
    refine readDec_no hd (fun h2 => ?_)
    have hne : l ≠ [] := by rw [← h2.2]; exact digits_ne m
    rw [atoi_plain hne hd] at h
    cases h
theorem readDec_lib_yes {l : List UInt8} {n : Int} (h : Lib.atoi l = some n) (h0 : 0 ≤ n) (h1 : n ≤ 1000000000) (h2 : Lib.itoa n = l) : readDec l = some n.toNat := by
  obtain ⟨m, rfl⟩ := Int.eq_ofNat_of_zero_le h0
  rw [itoa_nat] at h2
  rw [← h2]
  exact readDec_digits (by omega)
theorem readDec_lib_no {l : List UInt8} {n : Int} (h : Lib.atoi l = some n) (h1 : ¬ (0 ≤ n ∧ n ≤ 1000000000 ∧ Lib.itoa n = l)) : readDec l = none := by
  cases hd : Lib.decFrom 0 l with
  | none => exact readDec_none hd
  | some m =>
    refine readDec_no hd (fun h2 => h1 ?_)
    have hne : l ≠ [] := by rw [← h2.2]; exact digits_ne m
    rw [atoi_plain hne hd] at h
    cases h
    exact ⟨by omega, by omega, by rw [itoa_nat]; exact h2.2⟩
theorem decFrom_lt : ∀ (l : List UInt8) (n : Nat), Lib.decFrom 0 l = some n → n < 10 ^ l.length := by
  intro l
  generalize hk : l.length = k
  induction k generalizing l with
  | zero =>
    intro n h
    obtain rfl := List.eq_nil_of_length_eq_zero hk
    simp [Lib.decFrom] at h
    subst h; decide
  | succ k ih =>
    intro n h
    obtain ⟨t, b, rfl⟩ : ∃ t b, l = t ++ [b] := ⟨l.dropLast, l.getLast (by intro e; subst e; cases hk), (List.dropLast_concat_getLast _).symm⟩
    rw [decFrom_snoc] at h
    cases ht : Lib.decFrom 0 t with
    | none => rw [ht] at h; cases h
    | some q =>
      rw [ht] at h
      have hq := ih t (by simp at hk; exact hk) q ht
      cases hb : Lib.digitVal b with
      | none => rw [hb] at h; cases h
      | some d =>
        rw [hb] at h
        simp at h
        have hd : d < 10 := by
          unfold Lib.digitVal at hb
          split at hb
          · cases hb; omega
          · cases hb
        rw [Nat.pow_succ]
        omega
/-- One digit more. -/
theorem decFrom_next {s : ByteArray} {k v : Nat} (h : k < s.size) (hv : Lib.decFrom 0 (s.data.toList.take k) = some v) (hd : 48 ≤ (s[k]).toNat ∧ (s[k]).toNat ≤ 57) :
    Lib.decFrom 0 (s.data.toList.take (k + 1)) = some (10 * v + ((s[k]).toNat - 48)) := by
  rw [take_snoc s k h, decFrom_snoc, hv, digitVal_yes hd]
  simp only [Option.bind_some, Option.map_some]
  congr 1
  omega
theorem decFrom_bad {s : ByteArray} {k : Nat} (h : k < s.size) (hd : ¬ (48 ≤ (s[k]).toNat ∧ (s[k]).toNat ≤ 57)) :
    readDec s.data.toList = none := by
  refine readDec_none ?_
  cases hc : Lib.decFrom 0 s.data.toList with
  | none => rfl
  | some n =>
    obtain ⟨d, h2⟩ := Lib.digit_of_decFrom _ 0 n hc k s[k] (by rw [List.getElem?_eq_getElem (by simpa using h)]; rfl)
    rw [digitVal_no hd] at h2
    cases h2
theorem decFrom_small {s : ByteArray} {k v : Nat} (hk : k ≤ 10) (hv : Lib.decFrom 0 (s.data.toList.take k) = some v) : v < 10000000000 := by
  have h1 := decFrom_lt _ _ hv
  have h2 : (s.data.toList.take k).length ≤ 10 := by rw [List.length_take]; omega
  have h3 := Nat.pow_le_pow_right (n := 10) (by decide) h2
  have e : (10 : Nat) ^ 10 = 10000000000 := by decide
  omega

end Go.Proofs.YtnlddjlbioelnaaDoor
