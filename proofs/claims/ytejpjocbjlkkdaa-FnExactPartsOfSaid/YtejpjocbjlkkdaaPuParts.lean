/-
  Plain law: the fields of a line. No program in sight.
-/
import Derived.Test.YtejpjocbjlkkdaaPuStrs
import Derived.Test.YtejpjocbjlkkdaaPuWords
namespace Go.Proofs.Ytejpjocbjlkkdaa
open Go.RowKit

/-- The fields of what is left, where cur has been read of the field that is under way. -/
def parts : List UInt8 → List UInt8 → Option (List (List UInt8))
  | [], cur => some (if cur = [] then [] else [cur])
  | b :: r, cur =>
    if b.toNat < 32 ∨ 126 < b.toNat then none
    else if b.toNat = 32 then (parts r []).map ((if cur = [] then [] else [cur]) ++ ·)
    else parts r (cur ++ [b])

def partsL (l : List UInt8) : Option (List (List UInt8)) :=
  if 600 < l.length then none else
  match parts l [] with
  | none => none
  | some a => if 10 < a.length then none else some a
theorem partsL_long {l : List UInt8} (h : 600 < l.length) : partsL l = none := if_pos h
theorem partsL_bad {l : List UInt8} (h : parts l [] = none) : partsL l = none := by unfold partsL; rw [h]; split <;> rfl
theorem partsL_many {l : List UInt8} {a : List (List UInt8)} (h : parts l [] = some a) (ha : 10 < a.length) : partsL l = none := by
  unfold partsL; rw [h]; split
  · rfl
  · exact if_pos ha
theorem partsL_yes {l : List UInt8} {a : List (List UInt8)} (hl : ¬ 600 < l.length) (h : parts l [] = some a) (ha : ¬ 10 < a.length) : partsL l = some a := by
  unfold partsL; rw [if_neg hl, h]; exact if_neg ha
theorem partsL_len {l : List UInt8} {a : List (List UInt8)} (h : partsL l = some a) : a.length ≤ 10 := by
  unfold partsL at h
  split at h
  · cases h
  · split at h
    · cases h
    · split at h
      · cases h
      · cases h; omega

/-- How far the fields have been read: those of acc, and the bytes from b to i. -/
def ReadsP (s : ByteArray) (acc : List (List UInt8)) (b i : Nat) : Prop :=
  (i ≤ s.size ∧ parts s.data.toList [] = (parts (s.data.toList.drop i) ((s.data.toList.drop b).take (i - b))).map (acc ++ ·)) ∨ (s.size < i ∧ parts s.data.toList [] = some acc)
theorem ReadsP.zero (s : ByteArray) : ReadsP s [] 0 0 := .inl ⟨Nat.zero_le _, by simp⟩
theorem ReadsP.done {s : ByteArray} {acc : List (List UInt8)} {b i : Nat} (h : ReadsP s acc b i) (hi : s.size < i) : parts s.data.toList [] = some acc := by
  rcases h with ⟨h, _⟩ | ⟨_, h⟩
  · omega
  · exact h
theorem ReadsP.bad {s : ByteArray} {acc : List (List UInt8)} {b i : Nat} (h : ReadsP s acc b i) (hi : i < s.size) (hx : s[i].toNat < 32 ∨ 126 < s[i].toNat) : parts s.data.toList [] = none := by
  rcases h with ⟨_, h⟩ | ⟨h, _⟩
  · rw [h, drop_at s i hi, parts, if_pos hx]; rfl
  · omega
theorem ReadsP.char {s : ByteArray} {acc : List (List UInt8)} {b i : Nat} (h : ReadsP s acc b i) (hb : b ≤ i) (hi : i < s.size) (hx : 32 < s[i].toNat) (hx' : s[i].toNat ≤ 126) : ReadsP s acc b (i + 1) := by
  rcases h with ⟨_, h⟩ | ⟨h, _⟩
  · refine .inl ⟨hi, ?_⟩
    rw [h, drop_at s i hi, parts, if_neg (by omega), if_neg (by omega)]
    have e : (s.data.toList.drop b).take (i + 1 - b) = (s.data.toList.drop b).take (i - b) ++ [s[i]] := by
      rw [show i + 1 - b = (i - b) + 1 by omega, List.take_add_one, List.getElem?_drop, show b + (i - b) = i by omega]
      congr 1
      have : s.data.toList[i]? = some s[i] := by rw [Array.getElem?_toList, Array.getElem?_eq_getElem (show i < s.data.size from hi)]; rfl
      rw [this]; rfl
    rw [e]
  · omega
theorem ReadsP.sep {s : ByteArray} {acc : List (List UInt8)} {b i : Nat} (h : ReadsP s acc b i) (hb : b ≤ i) (hi : i ≤ s.size) (hx : ∀ h : i < s.size, s[i].toNat = 32) :
    ReadsP s (acc ++ if b = i then [] else [(s.data.toList.drop b).take (i - b)]) (i + 1) (i + 1) := by
  have hl : s.data.toList.length = s.size := by rw [Array.length_toList]; rfl
  have hc : ((s.data.toList.drop b).take (i - b) = []) ↔ b = i := by
    rw [← List.length_eq_zero_iff, List.length_take, List.length_drop, hl]; omega
  rcases h with ⟨_, h⟩ | ⟨h, _⟩
  · by_cases hi' : i < s.size
    · refine .inl ⟨hi', ?_⟩
      rw [h, drop_at s i hi', parts, if_neg (by have := hx hi'; omega), if_pos (hx hi')]
      rw [Nat.sub_self, List.take_zero, Option.map_map]
      congr 1
      funext x
      simp only [Function.comp, hc, List.append_assoc]
    · refine .inr ⟨by omega, ?_⟩
      rw [h, List.drop_eq_nil_of_le (by omega), parts, Option.map_some]
      simp only [hc]
  · omega
theorem ReadsP.sep_no {s : ByteArray} {acc : List (List UInt8)} {i : Nat} (h : ReadsP s acc i i) (hi : i ≤ s.size) (hx : ∀ h : i < s.size, s[i].toNat = 32) : ReadsP s acc (i + 1) (i + 1) := by
  have := h.sep (Nat.le_refl _) hi hx
  rwa [if_pos rfl, List.append_nil] at this
theorem ReadsP.sep_yes {s : ByteArray} {acc : List (List UInt8)} {b i : Nat} (h : ReadsP s acc b i) (hb : b < i) (hi : i ≤ s.size) (hx : ∀ h : i < s.size, s[i].toNat = 32) : ReadsP s (acc ++ [(s.data.toList.drop b).take (i - b)]) (i + 1) (i + 1) := by
  have := h.sep (Nat.le_of_lt hb) hi hx
  rwa [if_neg (by omega)] at this

end Go.Proofs.Ytejpjocbjlkkdaa
