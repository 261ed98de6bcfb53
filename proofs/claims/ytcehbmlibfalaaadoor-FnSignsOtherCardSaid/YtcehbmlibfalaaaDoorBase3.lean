/-
  What the walks of this claim lean on, joined: plain laws, no code of the seat.
-/
import Derived.Test.YtcehbmlibfalaaaDoorBase2
import Derived.Lib.ItoaNum

/-
  Plain law: decimal digits, from the right. No program in sight.
-/
namespace Go.Proofs.YtcehbmlibfalaaaDoor

/-- The digits of a number, none for zero. -/
def dec (m : Nat) : List UInt8 := if m = 0 then [] else Lib.decDigits m
theorem dec_zero : dec 0 = [] := rfl
theorem dec_pos {m : Nat} (h : m ≠ 0) : dec m = Lib.decDigits m := if_neg h
theorem dec_step {m : Nat} (h : m ≠ 0) : dec m = dec (m / 10) ++ [UInt8.ofNat (48 + m % 10)] := by
  rw [dec_pos h, Lib.decDigits]
  by_cases h10 : m < 10
  · rw [dif_pos h10, Nat.div_eq_of_lt h10, Nat.mod_eq_of_lt h10, dec_zero]; rfl
  · rw [dif_neg h10, dec_pos (by omega)]
theorem dec_all (n : Int) (h : n ≠ 0) : Lib.itoa n = (if n < 0 then [45] else []) ++ dec n.natAbs := by
  unfold Lib.itoa
  rw [dec_pos (by omega)]
  split
  · rfl
  · rw [show n.toNat = n.natAbs by omega]; rfl
theorem dec_len : ∀ (k m : Nat), m < 10 ^ k → (dec m).length ≤ k
  | 0, m, h => by
    obtain rfl : m = 0 := by simpa using h
    simp [dec_zero]
  | k + 1, m, h => by
    by_cases hm : m = 0
    · subst hm; simp [dec_zero]
    · rw [dec_step hm, List.length_append, List.length_singleton]
      have := dec_len k (m / 10) (by rw [Nat.pow_succ] at h; omega)
      omega
theorem tmod10 (x : Int) : x.tmod 10 = if 0 ≤ x then ((x.natAbs % 10 : Nat) : Int) else -((x.natAbs % 10 : Nat) : Int) := by
  cases x with
  | ofNat m => rfl
  | negSucc m => rfl
theorem tdiv10 (x : Int) : x.tdiv 10 = if 0 ≤ x then ((x.natAbs / 10 : Nat) : Int) else -((x.natAbs / 10 : Nat) : Int) := by
  cases x with
  | ofNat m => rfl
  | negSucc m =>
    show Int.tdiv (Int.negSucc m) 10 = -(((m + 1) / 10 : Nat) : Int)
    rw [Int.negSucc_eq, Int.neg_tdiv]
    congr 1
/-- One more digit in front. -/
theorem dec_next {m0 m r d : Nat} {t : ByteArray} (hm : m ≠ 0) (hd : m % 10 = d) (hr : m / 10 = r) (h : dec m ++ t.data.toList = dec m0) : dec r ++ (txt [fig d] ++ t).data.toList = dec m0 := by
  have h10 : d < 10 := by omega
  rw [fig, if_pos h10]
  subst hd hr
  rw [← h, dec_step hm, List.append_assoc]
  simp [txt]
theorem dec_size {m0 m : Nat} {t : ByteArray} (h : dec m ++ t.data.toList = dec m0) (hm : m0 ≤ 9223372036854775808) : t.size ≤ 20 := by
  have h1 := dec_len 20 m0 (by omega)
  have h2 : t.data.toList.length = t.size := by rw [Array.length_toList]; rfl
  rw [← h, List.length_append, h2] at h1
  omega
theorem itoa_zero : Lib.itoa 0 = [48] := by decide +kernel
theorem itoa_txt (n : Int) : (⟨(Lib.itoa n).toArray⟩ : ByteArray) = txt (Lib.itoa n) := rfl

/-- string([]byte{b}), of the block just built. -/
theorem one_text {P : Program} (src dst e t : TypeId) (hs : P.underlying src = some (.slice e)) (he : P.underlying e = some (.int .u8)) (hd : P.underlying dst = some .string) (b : UInt8) (w : World) :
    (convert src dst (.slice (some ⟨w.heap.size, 0, none⟩) 1 1)).run P (w.alloc (.cells #[.int .u8 (b.toNat : Int)] t)) = .ok (.string (txt [b])) (w.alloc (.cells #[.int .u8 (b.toNat : Int)] t)) := by
  refine run_convert_bytes_back _ src dst e ⟨w.heap.size, 0, none⟩ 1 [b] hs he hd (fun j hj => ?_)
  rw [Addr.add_lit, Nat.zero_add]
  have e1 : (w.alloc (.cells #[.int .u8 (b.toNat : Int)] t)).cell? ⟨w.heap.size, j, none⟩ = _ := World.cell?_alloc_new w _ _ j
  rw [e1]
  obtain rfl : j = 0 := by simpa using hj
  rfl

end Go.Proofs.YtcehbmlibfalaaaDoor
