/-
  Plain law: a bit of an index; which strings are names and values. No program in sight.
-/
import Derived.Test.YtcehbmlibfalaaaDoorKit
namespace Go.Proofs.YtcehbmlibfalaaaDoor

/-- Whether a number lies in a range. -/
def within (n lo hi : Int) : Bool := decide (lo ≤ n ∧ n ≤ hi)
theorem within_yes {n lo hi : Int} (h : lo ≤ n ∧ n ≤ hi) : within n lo hi = true := decide_eq_true h
theorem within_not {n lo hi : Int} (h : ¬ (lo ≤ n ∧ n ≤ hi)) : within n lo hi = false := decide_eq_false h
theorem within_no {n lo hi : Int} (h : n < lo) : within n lo hi = false := decide_eq_false (by omega)
theorem within_lo {n lo hi : Int} (h : lo ≤ n) : within n lo hi = decide (n ≤ hi) := by
  unfold within; by_cases h' : n ≤ hi <;> simp [h, h']

/-- Bit 'level' of an index of eight bits, the highest first. -/
def bitOf (i l : Int) : Int := if 0 ≤ l ∧ l ≤ 7 then bits BinOp.and IntKind.i64 (i / 2 ^ (7 - l).toNat) 1 else 0
theorem bitOf_in {i l : Int} (h0 : 0 ≤ l) (h1 : l ≤ 7) : bitOf i l = bits BinOp.and IntKind.i64 (i / 2 ^ (7 - l).toNat) 1 := by rw [bitOf, if_pos ⟨h0, h1⟩]
theorem bitOf_out {i l : Int} (h : ¬ (0 ≤ l ∧ l ≤ 7)) : bitOf i l = 0 := by rw [bitOf, if_neg h]

def vByte (b : UInt8) : Bool := decide (33 ≤ b.toNat) && decide (b.toNat ≤ 126)
def nByte (b : UInt8) : Bool := decide (97 ≤ b.toNat ∧ b.toNat ≤ 122) || decide (48 ≤ b.toNat ∧ b.toNat ≤ 57) || decide (b.toNat = 64) || decide (b.toNat = 46)
def shortLen (l : List UInt8) : Bool := decide (1 ≤ l.length ∧ l.length ≤ 12)

theorem take_snoc (s : ByteArray) (k : Nat) (h : k < s.size) : s.data.toList.take (k + 1) = s.data.toList.take k ++ [s[k]] := by
  rw [List.take_succ_eq_append_getElem (by simpa using h)]; rfl

theorem all_snoc (p : UInt8 → Bool) (s : ByteArray) (k : Nat) (h : k < s.size) (ha : (s.data.toList.take k).all p = true) (hb : p s[k] = true) : (s.data.toList.take (k + 1)).all p = true := by
  rw [take_snoc s k h, List.all_append, ha]; simp [hb]

theorem all_bad (p : UInt8 → Bool) (s : ByteArray) (k : Nat) (h : k < s.size) (hb : p s[k] = false) : s.data.toList.all p = false := by
  rw [List.all_eq_false]
  exact ⟨s[k], by rw [← List.take_append_drop (k + 1) s.data.toList, take_snoc s k h]; simp, by simp [hb]⟩

theorem all_end (p : UInt8 → Bool) (s : ByteArray) (k : Nat) (h : ¬ k < s.size) (ha : (s.data.toList.take k).all p = true) : s.data.toList.all p = true := by
  rwa [List.take_of_length_le (by simp; omega)] at ha

theorem vByte_yes (b : UInt8) (h : (33 : Int) ≤ b.toNat ∧ (b.toNat : Int) ≤ 126) : vByte b = true := by
  unfold vByte; simp; omega
theorem vByte_no (b : UInt8) (h : ¬ ((33 : Int) ≤ b.toNat ∧ (b.toNat : Int) ≤ 126)) : vByte b = false := by
  unfold vByte; simp; omega
theorem nByte_yes (b : UInt8) (h : ((97 : Int) ≤ b.toNat ∧ (b.toNat : Int) ≤ 122) ∨ ((48 : Int) ≤ b.toNat ∧ (b.toNat : Int) ≤ 57) ∨ ((64 : Int) ≤ b.toNat ∧ (b.toNat : Int) ≤ 64) ∨ ((46 : Int) ≤ b.toNat ∧ (b.toNat : Int) ≤ 46)) : nByte b = true := by
  unfold nByte; simp; omega
theorem nByte_no (b : UInt8) (h : ¬ (((97 : Int) ≤ b.toNat ∧ (b.toNat : Int) ≤ 122) ∨ ((48 : Int) ≤ b.toNat ∧ (b.toNat : Int) ≤ 57) ∨ ((64 : Int) ≤ b.toNat ∧ (b.toNat : Int) ≤ 64) ∨ ((46 : Int) ≤ b.toNat ∧ (b.toNat : Int) ≤ 46))) : nByte b = false := by
  unfold nByte; simp; omega

/-- Whether a string of s.size bytes, each of them good, is short enough. -/
def okBy (p : UInt8 → Bool) (l : List UInt8) : Bool := l.all p && shortLen l
theorem okBy_bad {p : UInt8 → Bool} {s : ByteArray} {k : Nat} (h : k < s.size) (hb : p s[k] = false) : okBy p s.data.toList = false := by
  unfold okBy; rw [all_bad p s k h hb]; rfl
theorem okBy_end {p : UInt8 → Bool} {s : ByteArray} {k : Nat} (h : ¬ k < s.size) (ha : (s.data.toList.take k).all p = true) : okBy p s.data.toList = within s.size 1 12 := by
  unfold okBy shortLen within; rw [all_end p s k h ha, Array.length_toList]
  show decide (1 ≤ s.size ∧ s.size ≤ 12) = _
  congr 1
  simp; omega
theorem okBy_long {p : UInt8 → Bool} {s : ByteArray} (h : 12 < s.size) : okBy p s.data.toList = within s.size 1 12 := by
  unfold okBy shortLen within
  have e1 : ¬ (1 ≤ s.data.toList.length ∧ s.data.toList.length ≤ 12) := by rw [Array.length_toList]; show ¬ (1 ≤ s.size ∧ s.size ≤ 12); omega
  have e2 : ¬ ((1 : Int) ≤ s.size ∧ (s.size : Int) ≤ 12) := by omega
  rw [decide_eq_false e1, decide_eq_false e2, Bool.and_false]

/-- The nine ranges in which a byte of a name may lie. -/
theorem ranges9 (x : Int) : x ≤ 45 ∨ (46 ≤ x ∧ x ≤ 46) ∨ (47 ≤ x ∧ x ≤ 47) ∨ (48 ≤ x ∧ x ≤ 57) ∨ (58 ≤ x ∧ x ≤ 63) ∨ (64 ≤ x ∧ x ≤ 64) ∨ (65 ≤ x ∧ x ≤ 96) ∨ (97 ≤ x ∧ x ≤ 122) ∨ 123 ≤ x := by omega

end Go.Proofs.YtcehbmlibfalaaaDoor
