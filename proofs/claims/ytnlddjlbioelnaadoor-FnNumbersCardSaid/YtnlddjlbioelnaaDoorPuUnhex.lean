/-
  Plain law: reading hexadecimal digits. No program in sight.
-/
import Derived.Test.YtnlddjlbioelnaaDoorPuHex
import Derived.Test.YtnlddjlbioelnaaDoorKit3
namespace Go.Proofs.YtnlddjlbioelnaaDoor

/-- The value of a digit, or -1. -/
def hexv (n : Int) : Int := if 48 ≤ n ∧ n ≤ 57 then n - 48 else if 97 ≤ n ∧ n ≤ 102 then n - 87 else -1
theorem hexv_le (n : Int) : -1 ≤ hexv n ∧ hexv n ≤ 15 := by unfold hexv; split <;> (try split) <;> omega
theorem hexv_num {n : Int} (h : 48 ≤ n ∧ n ≤ 57) : hexv n = n - 48 := by rw [hexv, if_pos h]
theorem hexv_let {n : Int} (h : 97 ≤ n ∧ n ≤ 102) : hexv n = n - 87 := by rw [hexv, if_neg (by omega), if_pos h]
theorem hexv_no {n : Int} (h : ¬ (48 ≤ n ∧ n ≤ 57)) (h' : ¬ (97 ≤ n ∧ n ≤ 102)) : hexv n = -1 := by rw [hexv, if_neg h, if_neg h']

def unhexL : List UInt8 → Option (List UInt8)
  | [] => some []
  | [_] => none
  | a :: b :: r => if hexv a.toNat < 0 ∨ hexv b.toNat < 0 then none else (unhexL r).map fun t => UInt8.ofNat (16 * hexv a.toNat + hexv b.toNat).toNat :: t

/-- The text that the digits stand for. -/
def unhexAll (l : List UInt8) : Option (List UInt8) := if l.length % 2 = 0 ∧ l.length ≤ 40000 then unhexL l else none

theorem drop2 (s : ByteArray) (p : Nat) (h : p + 1 < s.size) : s.data.toList.drop p = s[p] :: s[p + 1] :: s.data.toList.drop (p + 2) := by
  rw [List.drop_eq_getElem_cons (by simp; omega), List.drop_eq_getElem_cons (by simp; omega)]; rfl

theorem unhex_bad {l : List UInt8} {a b : UInt8} {r : List UInt8} (hl : l = a :: b :: r) (h : hexv a.toNat < 0 ∨ hexv b.toNat < 0) : unhexL l = none := by
  rw [hl, unhexL, if_pos h]
theorem unhex_good {l : List UInt8} {a b : UInt8} {r : List UInt8} (hl : l = a :: b :: r) (h : ¬ (hexv a.toNat < 0 ∨ hexv b.toNat < 0)) : unhexL l = (unhexL r).map fun t => UInt8.ofNat (16 * hexv a.toNat + hexv b.toNat).toNat :: t := by
  rw [hl, unhexL, if_neg h]

/-- Reading back what has been written. -/
theorem hexv_fig (n : Nat) (h : n < 16) : hexv (fig n).toNat = n := by
  by_cases h' : n < 10
  · have := fig_lo h'; rw [this, hexv_num (by omega)]; omega
  · have := fig_hi h' h; rw [this, hexv_let (by omega)]; omega
theorem unhexL_hexL (l : List UInt8) : unhexL (hexL l) = some l := by
  induction l with
  | nil => rfl
  | cons b r ih =>
    have hb := b.toNat_lt
    have e : hexL (b :: r) = fig (b.toNat / 16) :: fig (b.toNat % 16) :: hexL r := rfl
    rw [e, unhexL, hexv_fig _ (by omega), hexv_fig _ (by omega), if_neg (by omega), ih]
    have : (16 * ((b.toNat / 16 : Nat) : Int) + ((b.toNat % 16 : Nat) : Int)).toNat = b.toNat := by omega
    rw [this, UInt8.ofNat_toNat]
    rfl

end Go.Proofs.YtnlddjlbioelnaaDoor
