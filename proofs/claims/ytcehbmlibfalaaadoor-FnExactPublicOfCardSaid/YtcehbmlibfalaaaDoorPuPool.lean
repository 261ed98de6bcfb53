/-
  Plain law: public keys, pools, and their roots. No program in sight.
-/
import Derived.Test.YtcehbmlibfalaaaDoorPuTagH
namespace Go.Proofs.YtcehbmlibfalaaaDoor
open Go.RowKit

/-- The first n locks of a key. -/
def pubLocks (s : ByteArray) (a : Int) (n : Nat) : List ByteArray := (List.range n).map fun j => txt (lockL (txt (secretL s a ((j / 2 : Nat) : Int) ((j % 2 : Nat) : Int))))
theorem pubLocks_len (s : ByteArray) (a : Int) (n : Nat) : (pubLocks s a n).length = n := by simp [pubLocks]
theorem pubLocks_next (s : ByteArray) (a : Int) (b v : Nat) (hv : v < 2) : pubLocks s a (2 * b + v + 1) = pubLocks s a (2 * b + v) ++ [txt (lockL (txt (secretL s a b v)))] := by
  unfold pubLocks
  rw [List.range_succ, List.map_append, List.map_singleton]
  have e1 : (2 * b + v) / 2 = b := by omega
  have e2 : (2 * b + v) % 2 = v := by omega
  rw [e1, e2]
theorem pubLocks_size (s : ByteArray) (a : Int) (n : Nat) : ∀ x ∈ pubLocks s a n, x.size ≤ 32 := by
  intro x hx
  obtain ⟨j, _, rfl⟩ := List.mem_map.1 hx
  rw [txt_size]
  exact hashT_le _ _ _
/-- A public key. -/
def pubL (s : ByteArray) (a : Int) : List UInt8 := if s.size ≤ 100 ∧ 0 ≤ a ∧ a ≤ 15 then hashT 6 (pubLocks s a 16) 16 else []
theorem pubL_yes {s : ByteArray} {a : Int} (h : s.size ≤ 100 ∧ 0 ≤ a ∧ a ≤ 15) : pubL s a = hashT 6 (pubLocks s a 16) 16 := if_pos h
theorem pubL_no {s : ByteArray} {a : Int} (h : ¬ (s.size ≤ 100 ∧ 0 ≤ a ∧ a ≤ 15)) : pubL s a = [] := if_neg h
theorem pubL_le (s : ByteArray) (a : Int) : (pubL s a).length ≤ 32 := by
  unfold pubL; split
  · exact hashT_le _ _ _
  · simp
theorem tagL_two {k : Int} (hk : 1 ≤ k ∧ k ≤ 8) {s t : ByteArray} (hs : s.size ≤ 200) (ht : t.size ≤ 200) : ∃ r, tagL k [s, t] = some r := by
  unfold tagL
  rw [if_pos ⟨hk.1, hk.2, by simp, by simp [hs, ht]⟩]
  exact ⟨_, rfl⟩
theorem secret_len {s : ByteArray} {a b c : Int} (h : SecOk s a b c) : (secretL s a b c).length = 16 := by
  rw [secretL_yes h]
  obtain ⟨t, ht⟩ := tagL_two (k := 5) (by decide) (s := s) (t := txt (placeB a b c)) (by have := h.1; omega) (by rw [txt_size]; simp [placeB])
  unfold hashT
  rw [ht]
  exact cutL_length (by decide)
theorem secret_le (s : ByteArray) (a b c : Int) : (secretL s a b c).length ≤ 32 := by
  unfold secretL; split
  · exact hashT_le _ _ _
  · simp
theorem full_text {l : List UInt8} (h : l.length = 16) : (txt l).toList.isEmpty = false ∧ ((txt l).toList == []) = false := by
  constructor
  · rw [ByteArray.toList_eq, txt_data, List.isEmpty_eq_false_iff]
    intro h2; rw [h2] at h; cases h
  · rw [ByteArray.toList_eq, txt_data, beq_eq_false_iff_ne]
    intro h2; rw [h2] at h; cases h

end Go.Proofs.YtcehbmlibfalaaaDoor
