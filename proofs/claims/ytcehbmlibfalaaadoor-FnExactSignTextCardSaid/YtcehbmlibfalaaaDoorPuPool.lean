/-
  Plain law: public keys, pools, and their roots. No program in sight.
-/
import Derived.Test.YtcehbmlibfalaaaDoorPuTagH
namespace Go.Proofs.YtcehbmlibfalaaaDoor
open Go.RowKit

/-- The first n locks of a key. -/
def pubLocks (s : ByteArray) (a : Int) (n : Nat) : List ByteArray := (List.range n).map fun j => txt (lockL (txt (secretL s a ((j / 2 : Nat) : Int) ((j % 2 : Nat) : Int))))
theorem pubLocks_len (s : ByteArray) (a : Int) (n : Nat) : (pubLocks s a n).length = n := by simp [pubLocks]
theorem pubLocks_next (s : ByteArray) (a : Int) (b v : Nat) (hv : v < 2) : pubLocks s a (2 * b + v + 1) = pubLocks s a (2 * b + v) ++ [txt (lockL (txt (secretL s a b v)))] := by
  unfold pubLocks
  rw [List.range_succ, List.map_append, List.map_singleton]
  have e1 : (2 * b + v) / 2 = b := by omega
  have e2 : (2 * b + v) % 2 = v := by omega
  rw [e1, e2]
theorem pubLocks_size (s : ByteArray) (a : Int) (n : Nat) : ∀ x ∈ pubLocks s a n, x.size ≤ 32 := by
  intro x hx
  obtain ⟨j, _, rfl⟩ := List.mem_map.1 hx
  rw [txt_size]
  exact hashT_le _ _ _
/-- A public key. -/
def pubL (s : ByteArray) (a : Int) : List UInt8 := if s.size ≤ 100 ∧ 0 ≤ a ∧ a ≤ 15 then hashT 6 (pubLocks s a 16) 16 else []
theorem pubL_yes {s : ByteArray} {a : Int} (h : s.size ≤ 100 ∧ 0 ≤ a ∧ a ≤ 15) : pubL s a = hashT 6 (pubLocks s a 16) 16 := if_pos h
theorem pubL_no {s : ByteArray} {a : Int} (h : ¬ (s.size ≤ 100 ∧ 0 ≤ a ∧ a ≤ 15)) : pubL s a = [] := if_neg h
theorem pubL_le (s : ByteArray) (a : Int) : (pubL s a).length ≤ 32 := by
  unfold pubL; split
  · exact hashT_le _ _ _
  · simp
theorem tagL_two {k : Int} (hk : 1 ≤ k ∧ k ≤ 8) {s t : ByteArray} (hs : s.size ≤ 200) (ht : t.size ≤ 200) : ∃ r, tagL k [s, t] = some r := by
  unfold tagL
  rw [if_pos ⟨hk.1, hk.2, by simp, by simp [hs, ht]⟩]
  exact ⟨_, rfl⟩
theorem secret_len {s : ByteArray} {a b c : Int} (h : SecOk s a b c) : (secretL s a b c).length = 16 := by
  rw [secretL_yes h]
  obtain ⟨t, ht⟩ := tagL_two (k := 5) (by decide) (s := s) (t := txt (placeB a b c)) (by have := h.1; omega) (by rw [txt_size]; simp [placeB])
  unfold hashT
  rw [ht]
  exact cutL_length (by decide)
theorem secret_le (s : ByteArray) (a b c : Int) : (secretL s a b c).length ≤ 32 := by
  unfold secretL; split
  · exact hashT_le _ _ _
  · simp
theorem full_text {l : List UInt8} (h : l.length = 16) : (txt l).toList.isEmpty = false ∧ ((txt l).toList == []) = false := by
  constructor
  · rw [ByteArray.toList_eq, txt_data, List.isEmpty_eq_false_iff]
    intro h2; rw [h2] at h; cases h
  · rw [ByteArray.toList_eq, txt_data, beq_eq_false_iff_ne]
    intro h2; rw [h2] at h; cases h

/-- The pool of a seed: the first n keys. -/
def poolTo (s : ByteArray) (n : Nat) : List ByteArray := (List.range n).map fun j => txt (pubL s (j : Nat))
theorem poolTo_len (s : ByteArray) (n : Nat) : (poolTo s n).length = n := by simp [poolTo]
theorem poolTo_next (s : ByteArray) (n : Nat) : poolTo s (n + 1) = poolTo s n ++ [txt (pubL s (n : Nat))] := by
  unfold poolTo
  rw [List.range_succ, List.map_append, List.map_singleton]

/-- One level up: the hashes of neighbours, the first n. -/
def upTo (l : List ByteArray) (n : Nat) : List ByteArray := (List.range n).map fun j => txt (hashT 3 [l.getD (2 * j) ByteArray.empty, l.getD (2 * j + 1) ByteArray.empty] 16)
theorem upTo_len (l : List ByteArray) (n : Nat) : (upTo l n).length = n := by simp [upTo]
theorem upTo_next {l : List ByteArray} {n : Nat} {x y : ByteArray} (hx : l[2 * n]? = some x) (hy : l[2 * n + 1]? = some y) : upTo l (n + 1) = upTo l n ++ [txt (hashT 3 [x, y] 16)] := by
  unfold upTo
  rw [List.range_succ, List.map_append, List.map_singleton, List.getD_eq_getElem?_getD, List.getD_eq_getElem?_getD, hx, hy]
  rfl
theorem upTo_size (l : List ByteArray) (n : Nat) : ∀ x ∈ upTo l n, x.size ≤ 32 := by
  intro x hx
  obtain ⟨j, _, rfl⟩ := List.mem_map.1 hx
  rw [txt_size]
  exact hashT_le _ _ _
def upL (l : List ByteArray) : List ByteArray := upTo l (l.length / 2)
theorem upL_len (l : List ByteArray) : (upL l).length = l.length / 2 := upTo_len _ _
theorem upL_size (l : List ByteArray) : ∀ x ∈ upL l, x.size ≤ 32 := upTo_size _ _
/-- k levels up. -/
def upN : Nat → List ByteArray → List ByteArray
  | 0, l => l
  | k + 1, l => upL (upN k l)
theorem upN_len {l : List ByteArray} (h : l.length = 16) : (k : Nat) → (hk : k ≤ 4) → (upN k l).length = 2 ^ (4 - k)
  | 0, _ => h
  | k + 1, hk => by
    unfold upN
    rw [upL_len, upN_len h k (by omega), show 4 - k = (4 - (k + 1)) + 1 by omega, Nat.pow_succ]
    omega
theorem upN_size {l : List ByteArray} {m : Nat} (hm : 32 ≤ m) (h : ∀ x ∈ l, x.size ≤ m) : (k : Nat) → ∀ x ∈ upN k l, x.size ≤ m
  | 0 => h
  | _ + 1 => fun x hx => Nat.le_trans (upL_size _ x hx) hm
/-- The root of a pool. -/
def rootL (l : List ByteArray) : ByteArray := if l.length = 16 then (upN 4 l).getD 0 ByteArray.empty else ⟨#[]⟩

end Go.Proofs.YtcehbmlibfalaaaDoor
