/-
  Plain law: a sealed text with one byte changed is not unsealed: a step of the checksum is injective. No program in sight.
-/
import Derived.Test.YtnlddjlbioelnaaPuSeal
import Derived.Test.YtnlddjlbioelnaaPuTurn
namespace Go.Proofs.Ytnlddjlbioelnaa

theorem xor_cancel_r {x y c : Nat} (h : x ^^^ c = y ^^^ c) : x = y := by
  have h2 := congrArg (· ^^^ c) h
  simp only [Nat.xor_assoc, Nat.xor_self, Nat.xor_zero] at h2
  exact h2
theorem xor_cancel_l {x y c : Nat} (h : c ^^^ x = c ^^^ y) : x = y := by
  rw [Nat.xor_comm c x, Nat.xor_comm c y] at h
  exact xor_cancel_r h
theorem crcBit_top {x : Nat} (h : x < 4294967296) : (x / 2 ^^^ 3558460437).testBit 31 = true := by
  rw [Nat.testBit_xor]
  have h1 : (x / 2).testBit 31 = false := Nat.testBit_lt_two_pow (by omega)
  rw [h1]
  decide
theorem crcBit_inj {x y : Nat} (hx : x < 4294967296) (hy : y < 4294967296) (h : crcBit x = crcBit y) : x = y := by
  unfold crcBit at h
  by_cases h1 : x % 2 = 1 <;> by_cases h2 : y % 2 = 1
  · rw [if_pos h1, if_pos h2] at h
    have := xor_cancel_r h
    omega
  · rw [if_pos h1, if_neg h2] at h
    have h3 := crcBit_top hx
    rw [h, Nat.testBit_lt_two_pow (by omega)] at h3
    cases h3
  · rw [if_neg h1, if_pos h2] at h
    have h3 := crcBit_top hy
    rw [← h, Nat.testBit_lt_two_pow (by omega)] at h3
    cases h3
  · rw [if_neg h1, if_neg h2] at h
    omega
theorem crcBits_inj (k : Nat) {x y : Nat} (hx : x < 4294967296) (hy : y < 4294967296) (h : crcBits k x = crcBits k y) : x = y := by
  induction k generalizing x y with
  | zero => exact h
  | succ k ih => exact crcBit_inj hx hy (ih (crcBit_lt hx) (crcBit_lt hy) h)
theorem xor_byte_lt {x : Nat} (h : x < 4294967296) (b : UInt8) : x ^^^ b.toNat < 4294967296 := Nat.xor_lt_two_pow (n := 32) h (by have := b.toNat_lt; omega)
theorem crcByte_inj {x y : Nat} (hx : x < 4294967296) (hy : y < 4294967296) {b : UInt8} (h : crcByte x b = crcByte y b) : x = y :=
  xor_cancel_r (crcBits_inj 8 (xor_byte_lt hx b) (xor_byte_lt hy b) h)
theorem crcByte_injB {x : Nat} (hx : x < 4294967296) {b c : UInt8} (h : crcByte x b = crcByte x c) : b = c :=
  UInt8.toNat_inj.1 (xor_cancel_l (crcBits_inj 8 (xor_byte_lt hx b) (xor_byte_lt hx c) h))
theorem sumL_inj {x y : Nat} (hx : x < 4294967296) (hy : y < 4294967296) (l : List UInt8) (h : sumL x l = sumL y l) : x = y := by
  induction l generalizing x y with
  | nil => exact h
  | cons b r ih => exact crcByte_inj hx hy (ih (crcByte_lt hx b) (crcByte_lt hy b) h)
theorem set_split {l : List UInt8} {i : Nat} (hi : i < l.length) (b : UInt8) : l.set i b = l.take i ++ b :: l.drop (i + 1) := by
  rw [List.set_eq_take_append_cons_drop, if_pos hi]
theorem get_split {l : List UInt8} {i : Nat} (hi : i < l.length) : l = l.take i ++ l[i] :: l.drop (i + 1) := by
  rw [List.getElem_cons_drop, List.take_append_drop]
theorem crc_set {l : List UInt8} {i : Nat} (hi : i < l.length) {b : UInt8} (hb : b ≠ l[i]) : crc (l.set i b) ≠ crc l := by
  intro h
  refine hb ?_
  unfold crc at h
  have h1 : sumL 4294967295 l = sumL 4294967295 (l.take i ++ l[i] :: l.drop (i + 1)) := congrArg _ (get_split hi)
  rw [h1, set_split hi b, sumL_append, sumL_append] at h
  have hs := sumL_lt (l.take i) (show 4294967295 < 4294967296 by decide)
  exact crcByte_injB hs (sumL_inj (crcByte_lt hs b) (crcByte_lt hs _) (l.drop (i + 1)) h)
theorem be32_inj {n m : Nat} (hn : n < 4294967296) (hm : m < 4294967296) (h : be32 n = be32 m) : n = m := by
  unfold be32 at h
  simp only [List.cons.injEq, and_true] at h
  obtain ⟨h1, h2, h3, h4⟩ := h
  have e1 := congrArg UInt8.toNat h1
  have e2 := congrArg UInt8.toNat h2
  have e3 := congrArg UInt8.toNat h3
  have e4 := congrArg UInt8.toNat h4
  simp only [UInt8.toNat_ofNat'] at e1 e2 e3 e4
  omega
/-- A sealed text with one byte changed. -/
theorem unseal_turned {l : List UInt8} {i : Nat} (hi : i < (sealL l).length) {b : UInt8} (hb : (sealL l)[i]? ≠ some b) : unsealL ((sealL l).set i b) = none := by
  unfold unsealL
  refine if_neg (fun h => ?_)
  obtain ⟨-, -, h⟩ := h
  have hl : (sealL l).length = l.length + 4 := by unfold sealL; rw [List.length_append, crc4_length]
  rw [List.length_set, hl, show l.length + 4 - 4 = l.length by omega] at h
  unfold sealL at hb h
  by_cases h1 : i < l.length
  · rw [List.set_append_left _ _ h1] at h
    rw [List.drop_left' (by rw [List.length_set]), List.take_left' (by rw [List.length_set])] at h
    rw [List.getElem?_append_left h1, List.getElem?_eq_getElem h1] at hb
    exact crc_set h1 (fun e => hb (by rw [e])) (be32_inj (crc_lt _) (crc_lt _) h).symm
  · rw [List.set_append_right _ _ (by omega)] at h
    rw [List.drop_left, List.take_left] at h
    rw [List.getElem?_append_right (by omega)] at hb
    refine hb ?_
    have hk : i - l.length < (crc4 l).length := by rw [crc4_length]; omega
    have h2 : ((crc4 l).set (i - l.length) b)[i - l.length]? = (crc4 l)[i - l.length]? := by rw [h]
    rw [List.getElem?_set_self hk] at h2
    exact h2.symm
theorem unseal_seal {l : List UInt8} (h : l.length ≤ 20000) : unsealL (sealL l) = some l := by
  have hl : (sealL l).length = l.length + 4 := by unfold sealL; rw [List.length_append, crc4_length]
  unfold unsealL
  rw [hl, show l.length + 4 - 4 = l.length by omega]
  unfold sealL
  rw [List.drop_left, List.take_left, if_pos ⟨by omega, by omega, rfl⟩]

end Go.Proofs.Ytnlddjlbioelnaa
