/-
  Plain law: what a signature's strings are, when it has the form, and what is hashed to verify it. No program in sight.
-/
import Derived.Test.YtcehbmlibfalaaaDoorPuPool
namespace Go.Proofs.YtcehbmlibfalaaaDoor
open Go.RowKit

/-- So many strings of 16 bytes. -/
def WideL (l : List ByteArray) (n : Nat) : Prop := l.length = n ∧ ∀ x ∈ l, x.size = 16
instance (l : List ByteArray) (n : Nat) : Decidable (WideL l n) := by unfold WideL; infer_instance
/-- A signature of the required form. -/
def SigForm (p : Int) (o s d : List ByteArray) : Prop := (0 ≤ p ∧ p ≤ 15) ∧ WideL o 8 ∧ WideL s 8 ∧ WideL d 4
instance (p : Int) (o s d : List ByteArray) : Decidable (SigForm p o s d) := by unfold SigForm; infer_instance

/-- The text that is hashed. -/
def tagT (k : Int) (ps : List ByteArray) : ByteArray := match tagL k ps with
  | none => ⟨#[]⟩
  | some t => txt t
theorem tagT_some {k : Int} {ps : List ByteArray} {t : List UInt8} (h : tagL k ps = some t) : tagT k ps = txt t := by unfold tagT; rw [h]
theorem tagL_few {k : Int} (hk : 1 ≤ k ∧ k ≤ 8) {ps : List ByteArray} (hl : ps.length ≤ 60) (h : ∀ p ∈ ps, p.size ≤ 200) : ∃ t, tagL k ps = some t := by
  unfold tagL
  rw [if_pos ⟨hk.1, hk.2, hl, h⟩]
  exact ⟨_, rfl⟩
theorem tagT_opt {k : Int} (hk : 1 ≤ k ∧ k ≤ 8) {ps : List ByteArray} (hl : ps.length ≤ 60) (h : ∀ p ∈ ps, p.size ≤ 200) : optTxt (tagL k ps) = .tuple #[.string (tagT k ps), .bool true] := by
  obtain ⟨t, ht⟩ := tagL_few hk hl h
  rw [tagT_some ht, ht]; rfl
/-- The hash of a text, as a string. -/
def cutT (t : ByteArray) : ByteArray := txt (cutL t.data.toList 16)
theorem cutT_size (t : ByteArray) : (cutT t).size = 16 := by
  unfold cutT
  rw [txt_size, cutL_length (by decide)]; rfl
theorem hash_cutT {k : Int} (hk : 1 ≤ k ∧ k ≤ 8) {ps : List ByteArray} (hl : ps.length ≤ 60) (h : ∀ p ∈ ps, p.size ≤ 200) : txt (hashT k ps 16) = cutT (tagT k ps) := by
  obtain ⟨t, ht⟩ := tagL_few hk hl h
  unfold hashT cutT
  rw [tagT_some ht, ht, txt_data]
theorem tagT_size (k : Int) (ps : List ByteArray) : (tagT k ps).size ≤ 12181 := by
  cases h : tagL k ps with
  | none => unfold tagT; rw [h]; decide
  | some t => rw [tagT_some h, txt_size]; exact tagL_len h

def lockS (s : ByteArray) : ByteArray := cutT (tagT 6 [s])
theorem lockS_eq {s : ByteArray} (h : s.size ≤ 200) : txt (lockL s) = lockS s := by
  unfold lockL
  exact hash_cutT (by decide) (by simp) (by simpa using h)
theorem lockS_size (s : ByteArray) : (lockS s).size = 16 := cutT_size _

/-- The two locks of each bit, the first n bits. -/
def pairAt (b : Int) (j : Nat) (x y : ByteArray) : List ByteArray := if bitOf b j = 0 then [lockS x, y] else [y, lockS x]
def sideTo (b : Int) (o s : List ByteArray) (n : Nat) : List ByteArray := (List.range n).flatMap fun j => pairAt b j (o.getD j ByteArray.empty) (s.getD j ByteArray.empty)
theorem pairAt_len (b : Int) (j : Nat) (x y : ByteArray) : (pairAt b j x y).length = 2 := by unfold pairAt; split <;> rfl
theorem sideTo_next {b : Int} {o s : List ByteArray} {n : Nat} {x y : ByteArray} (hx : o[n]? = some x) (hy : s[n]? = some y) : sideTo b o s (n + 1) = sideTo b o s n ++ pairAt b n x y := by
  unfold sideTo
  rw [List.range_succ, List.flatMap_append, List.flatMap_singleton, List.getD_eq_getElem?_getD, List.getD_eq_getElem?_getD, hx, hy]
  rfl
theorem sideTo_len (b : Int) (o s : List ByteArray) (n : Nat) : (sideTo b o s n).length = 2 * n := by
  induction n with
  | zero => rfl
  | succ n ih =>
    unfold sideTo at *
    rw [List.range_succ, List.flatMap_append, List.length_append, ih, List.flatMap_singleton, pairAt_len]; omega
theorem sideTo_size {b : Int} {o s : List ByteArray} (hs : ∀ x ∈ s, x.size = 16) (n : Nat) (hn : n ≤ s.length) : ∀ x ∈ sideTo b o s n, x.size = 16 := by
  intro x hx
  obtain ⟨j, hj, hx⟩ := List.mem_flatMap.1 hx
  have hjs : j < s.length := by have := List.mem_range.1 hj; omega
  have h1 : (s.getD j ByteArray.empty).size = 16 := by
    rw [List.getD_eq_getElem?_getD, List.getElem?_eq_getElem hjs]
    exact hs _ (List.getElem_mem hjs)
  unfold pairAt at hx
  split at hx <;> simp at hx <;> rcases hx with rfl | rfl <;> first | exact lockS_size _ | exact h1

/-- The texts of the opened locks, the first n. -/
def leafTo (o : List ByteArray) (n : Nat) : List ByteArray := (List.range n).map fun j => tagT 6 [o.getD j ByteArray.empty]
theorem leafTo_len (o : List ByteArray) (n : Nat) : (leafTo o n).length = n := by simp [leafTo]
theorem leafTo_next {o : List ByteArray} {n : Nat} {x : ByteArray} (hx : o[n]? = some x) : leafTo o (n + 1) = leafTo o n ++ [tagT 6 [x]] := by
  unfold leafTo
  rw [List.range_succ, List.map_append, List.map_singleton, List.getD_eq_getElem?_getD, hx]
  rfl

/-- The text k levels up. -/
def nodeT (q : Nat) (h x : ByteArray) : ByteArray := if q % 2 = 0 then tagT 3 [h, x] else tagT 3 [x, h]
def climbT (p : Nat) (d : List ByteArray) (t0 : ByteArray) : Nat → ByteArray
  | 0 => t0
  | k + 1 => nodeT (p / 2 ^ k) (cutT (climbT p d t0 k)) (d.getD k ByteArray.empty)
def climbTo (p : Nat) (d : List ByteArray) (t0 : ByteArray) (n : Nat) : List ByteArray := (List.range n).map fun k => climbT p d t0 (k + 1)
theorem climbTo_len (p : Nat) (d : List ByteArray) (t0 : ByteArray) (n : Nat) : (climbTo p d t0 n).length = n := by simp [climbTo]
theorem climbT_next {p : Nat} {d : List ByteArray} {t0 : ByteArray} {n : Nat} {x : ByteArray} (hx : d[n]? = some x) : climbT p d t0 (n + 1) = nodeT (p / 2 ^ n) (cutT (climbT p d t0 n)) x := by
  rw [climbT, List.getD_eq_getElem?_getD, hx]; rfl
theorem climbTo_next (p : Nat) (d : List ByteArray) (t0 : ByteArray) (n : Nat) : climbTo p d t0 (n + 1) = climbTo p d t0 n ++ [climbT p d t0 (n + 1)] := by
  unfold climbTo
  rw [List.range_succ, List.map_append, List.map_singleton]

/-- All that is hashed. -/
def keyT (t : ByteArray) (o s : List ByteArray) : ByteArray := tagT 6 (sideTo (signB t : Nat) o s 8)
def sigTo (t : ByteArray) (p : Int) (o s d : List ByteArray) (n : Nat) : List ByteArray := leafTo o 8 ++ [keyT t o s] ++ climbTo p.toNat d (keyT t o s) n
theorem sigTo_len (t : ByteArray) (p : Int) (o s d : List ByteArray) (n : Nat) : (sigTo t p o s d n).length = 9 + n := by
  simp [sigTo, leafTo_len, climbTo_len]; omega
theorem sigTo_next (t : ByteArray) (p : Int) (o s d : List ByteArray) (n : Nat) : sigTo t p o s d (n + 1) = sigTo t p o s d n ++ [climbT p.toNat d (keyT t o s) (n + 1)] := by
  unfold sigTo
  simp only [climbTo_next, List.append_assoc]
theorem sigTo_last (t : ByteArray) (p : Int) (o s d : List ByteArray) (n : Nat) : (sigTo t p o s d n)[8 + n]? = some (climbT p.toNat d (keyT t o s) n) := by
  cases n with
  | zero => rw [sigTo, List.getElem?_append_left (by simp [leafTo_len]), List.getElem?_append_right (by rw [leafTo_len]; exact Nat.le_refl _), leafTo_len]; rfl
  | succ n =>
    rw [sigTo_next, List.getElem?_append_right (by rw [sigTo_len]; omega), sigTo_len, show 8 + (n + 1) - (9 + n) = 0 by omega]; rfl
def SigGood (t : ByteArray) (p : Int) (o s d : List ByteArray) : Prop := SigForm p o s d ∧ t.size ≤ 200
instance (t : ByteArray) (p : Int) (o s d : List ByteArray) : Decidable (SigGood t p o s d) := by unfold SigGood; infer_instance
def sigTexts (t : ByteArray) (p : Int) (o s d : List ByteArray) : List ByteArray := if SigGood t p o s d then sigTo t p o s d 4 else []
theorem sigTexts_yes {t : ByteArray} {p : Int} {o s d : List ByteArray} (h : SigGood t p o s d) : sigTexts t p o s d = sigTo t p o s d 4 := if_pos h
theorem sigTexts_no {t : ByteArray} {p : Int} {o s d : List ByteArray} (h : ¬ SigGood t p o s d) : sigTexts t p o s d = [] := if_neg h
theorem sigTo_size (t : ByteArray) (p : Int) (o s d : List ByteArray) (n : Nat) : ∀ x ∈ sigTo t p o s d n, x.size ≤ 12181 := by
  intro x hx
  unfold sigTo at hx
  rcases List.mem_append.1 hx with hx | hx
  · rcases List.mem_append.1 hx with hx | hx
    · obtain ⟨j, _, rfl⟩ := List.mem_map.1 hx
      exact tagT_size _ _
    · rw [List.mem_singleton.1 hx]; exact tagT_size _ _
  · obtain ⟨j, _, rfl⟩ := List.mem_map.1 hx
    unfold climbT nodeT
    split <;> exact tagT_size _ _
/-- The root that a signature tells. -/
def sigRoot (t : ByteArray) (p : Int) (o s d : List ByteArray) (n : Nat) : ByteArray := cutT (climbT p.toNat d (keyT t o s) n)
def sigOk (r t : ByteArray) (p : Int) (o s d : List ByteArray) : Bool := decide (SigGood t p o s d) && decide (sigRoot t p o s d 4 = r)
theorem sigOk_no {r t : ByteArray} {p : Int} {o s d : List ByteArray} (h : ¬ SigGood t p o s d) : sigOk r t p o s d = false := by unfold sigOk; rw [decide_eq_false h]; rfl
theorem sigOk_yes {r t : ByteArray} {p : Int} {o s d : List ByteArray} (h : SigGood t p o s d) : sigOk r t p o s d = decide (sigRoot t p o s d 4 = r) := by unfold sigOk; rw [decide_eq_true h]; rfl

end Go.Proofs.YtcehbmlibfalaaaDoor
