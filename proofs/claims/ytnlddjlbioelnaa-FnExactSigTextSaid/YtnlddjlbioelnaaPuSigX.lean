/-
  Plain law: a signature as a text: its strings in a row; reading them back, piece by piece. No program in sight.
-/
import Derived.Test.YtnlddjlbioelnaaPuSigF
namespace Go.Proofs.Ytnlddjlbioelnaa
open Go.RowKit

/-- Strings, one behind the other. -/
def joinS (l : List ByteArray) : List UInt8 := l.flatMap fun x => x.data.toList
theorem joinS_append (l m : List ByteArray) : joinS (l ++ m) = joinS l ++ joinS m := by simp [joinS]
theorem joinS_step {l : List ByteArray} {k : Nat} {x : ByteArray} (hx : l[k]? = some x) : joinS (l.take (k + 1)) = joinS (l.take k) ++ x.data.toList := by
  rw [List.take_add_one, hx, joinS_append]; simp [joinS]
theorem joinS_len {l : List ByteArray} (h : ∀ x ∈ l, x.size = 16) : (joinS l).length = 16 * l.length := by
  induction l with
  | nil => rfl
  | cons y l ih =>
    have h1 := h y (by simp)
    have h2 := ih (fun x hx => h x (by simp [hx]))
    have h3 : y.data.toList.length = y.size := by simp
    unfold joinS at h2 ⊢
    rw [List.flatMap_cons, List.length_append, h2, List.length_cons]; omega
theorem joinS_take_len {l : List ByteArray} (h : ∀ x ∈ l, x.size = 16) (k : Nat) : (joinS (l.take k)).length ≤ 16 * k := by
  rw [joinS_len (fun x hx => h x (List.mem_of_mem_take hx)), List.length_take]; omega
/-- A signature's text. -/
def sigL (p : Int) (o s d : List ByteArray) : List UInt8 := UInt8.ofNat p.toNat :: joinS (o ++ s ++ d)
def sigR (p : Int) (o s d : List ByteArray) : Option (List UInt8) := if SigForm p o s d then some (sigL p o s d) else none
theorem sigR_yes {p : Int} {o s d : List ByteArray} (h : SigForm p o s d) : sigR p o s d = some (sigL p o s d) := if_pos h
theorem sigR_no {p : Int} {o s d : List ByteArray} (h : ¬ SigForm p o s d) : sigR p o s d = none := if_neg h

/-! ### Reading -/

/-- One piece of n bytes: where the reader stands, and whether something was wrong. -/
def takeF (t : ByteArray) (n : Nat) (q : Nat × Bool) : ByteArray × (Nat × Bool) :=
  if q.2 = true ∨ t.size - q.1 < n then (⟨#[]⟩, (q.1, true)) else (t.extract q.1 (q.1 + n), (q.1 + n, false))
theorem takeF_bad {t : ByteArray} {n : Nat} {q : Nat × Bool} (h : q.2 = true ∨ t.size - q.1 < n) : takeF t n q = (⟨#[]⟩, (q.1, true)) := if_pos h
theorem takeF_good {t : ByteArray} {n : Nat} {q : Nat × Bool} (h : ¬ (q.2 = true ∨ t.size - q.1 < n)) : takeF t n q = (t.extract q.1 (q.1 + n), (q.1 + n, false)) := if_neg h
theorem takeF_le {t : ByteArray} {n : Nat} {q : Nat × Bool} (h : q.1 ≤ t.size) : (takeF t n q).2.1 ≤ t.size := by
  unfold takeF
  split
  · exact h
  · rename_i hh
    simp only
    have : ¬ (t.size - q.1 < n) := fun h2 => hh (.inr h2)
    omega
theorem takeF_size {t : ByteArray} {n : Nat} {q : Nat × Bool} : (takeF t n q).1.size ≤ n := by
  unfold takeF
  split
  · exact Nat.zero_le _
  · simp only [ByteArray.size_extract]; omega
theorem takeF_done {t : ByteArray} {n : Nat} {q : Nat × Bool} (h : (takeF t n q).2.2 = false) : q.2 = false ∧ (takeF t n q).2.1 = q.1 + n := by
  unfold takeF at h ⊢
  split at h
  · cases h
  · rename_i hh
    rw [if_neg hh]
    exact ⟨by cases hq : q.2 with
      | false => rfl
      | true => exact absurd (.inl hq) hh, rfl⟩
/-- k pieces of n bytes. -/
def hashesF (t : ByteArray) (n : Nat) (q : Nat × Bool) : Nat → List ByteArray × (Nat × Bool)
  | 0 => ([], q)
  | k + 1 => ((hashesF t n q k).1 ++ [(takeF t n (hashesF t n q k).2).1], (takeF t n (hashesF t n q k).2).2)
theorem hashesF_len (t : ByteArray) (n : Nat) (q : Nat × Bool) (k : Nat) : (hashesF t n q k).1.length = k := by
  induction k with
  | zero => rfl
  | succ k ih => simp [hashesF, ih]
theorem hashesF_le {t : ByteArray} {n : Nat} {q : Nat × Bool} (h : q.1 ≤ t.size) (k : Nat) : (hashesF t n q k).2.1 ≤ t.size := by
  induction k with
  | zero => exact h
  | succ k ih => exact takeF_le ih
theorem hashesF_size {t : ByteArray} {n : Nat} {q : Nat × Bool} (k : Nat) : ∀ x ∈ (hashesF t n q k).1, x.size ≤ n := by
  induction k with
  | zero => intro x hx; simp [hashesF] at hx
  | succ k ih =>
    intro x hx
    rw [hashesF] at hx
    rcases List.mem_append.1 hx with hx | hx
    · exact ih x hx
    · rw [List.mem_singleton.1 hx]; exact takeF_size
theorem hashesF_done {t : ByteArray} {n : Nat} {q : Nat × Bool} {k : Nat} (h : (hashesF t n q k).2.2 = false) : q.2 = false ∧ (hashesF t n q k).2.1 = q.1 + k * n := by
  induction k with
  | zero => exact ⟨h, by simp [hashesF]⟩
  | succ k ih =>
    obtain ⟨h1, h2⟩ := takeF_done h
    obtain ⟨h3, h4⟩ := ih h1
    exact ⟨h3, by rw [hashesF]; simp only; rw [h2, h4, Nat.add_mul]; omega⟩
/-- k pieces of 16 bytes from place a on. -/
def cutsL (t : ByteArray) (a k : Nat) : List ByteArray := (List.range k).map fun i => t.extract (a + i * 16) (a + (i + 1) * 16)
theorem cutsL_len (t : ByteArray) (a k : Nat) : (cutsL t a k).length = k := by simp [cutsL]
theorem cutsL_next (t : ByteArray) (a k : Nat) : cutsL t a (k + 1) = cutsL t a k ++ [t.extract (a + k * 16) (a + (k + 1) * 16)] := by
  unfold cutsL
  rw [List.range_succ, List.map_append, List.map_singleton]
theorem cutsL_size {t : ByteArray} {a k : Nat} (h : a + k * 16 ≤ t.size) : ∀ x ∈ cutsL t a k, x.size = 16 := by
  intro x hx
  obtain ⟨i, hi, rfl⟩ := List.mem_map.1 hx
  have hi := List.mem_range.1 hi
  rw [ByteArray.size_extract]; omega
theorem hashesF_all {t : ByteArray} {a k : Nat} (h : a + k * 16 ≤ t.size) : hashesF t 16 (a, false) k = (cutsL t a k, (a + k * 16, false)) := by
  induction k with
  | zero => simp [hashesF, cutsL]
  | succ k ih =>
    rw [hashesF, ih (by omega), cutsL_next, takeF_good (by simp; omega)]
    simp only [Nat.add_mul, Nat.one_mul, Nat.add_assoc]
/-- The whole reading. -/
def readB (t : ByteArray) : ByteArray × (Nat × Bool) := takeF t 1 (0, false)
def readO (t : ByteArray) : List ByteArray × (Nat × Bool) := hashesF t 16 (readB t).2 8
def readS (t : ByteArray) : List ByteArray × (Nat × Bool) := hashesF t 16 (readO t).2 8
def readD (t : ByteArray) : List ByteArray × (Nat × Bool) := hashesF t 16 (readS t).2 4
def headB (x : ByteArray) : Int := if h : 0 < x.size then (x[0].toNat : Int) else 0
theorem headB_bound (x : ByteArray) : 0 ≤ headB x ∧ headB x ≤ 255 := by
  unfold headB
  split
  · have := (x[0]).toNat_lt; omega
  · omega
theorem readB_le (t : ByteArray) : (readB t).2.1 ≤ t.size := takeF_le (Nat.zero_le _)
theorem readO_le (t : ByteArray) : (readO t).2.1 ≤ t.size := hashesF_le (readB_le t) 8
theorem readS_le (t : ByteArray) : (readS t).2.1 ≤ t.size := hashesF_le (readO_le t) 8
theorem readD_le (t : ByteArray) : (readD t).2.1 ≤ t.size := hashesF_le (readS_le t) 4
theorem readD_done {t : ByteArray} (h : (readD t).2.2 = false) : (readD t).2.1 = 321 := by
  obtain ⟨h1, h2⟩ := hashesF_done (q := (readS t).2) h
  obtain ⟨h3, h4⟩ := hashesF_done (q := (readO t).2) h1
  obtain ⟨h5, h6⟩ := hashesF_done (q := (readB t).2) h3
  obtain ⟨-, h8⟩ := takeF_done h5
  have h8' : (readB t).2.1 = 0 + 1 := h8
  have h6' : (readO t).2.1 = (readB t).2.1 + 8 * 16 := h6
  have h4' : (readS t).2.1 = (readO t).2.1 + 8 * 16 := h4
  have h2' : (readD t).2.1 = (readS t).2.1 + 4 * 16 := h2
  omega
theorem readB_all {t : ByteArray} (h : t.size = 321) : readB t = (t.extract 0 1, (1, false)) := by
  unfold readB
  exact takeF_good (t := t) (n := 1) (q := (0, false)) (fun h2 => h2.elim (fun h3 => by cases h3) (fun h3 => by simp only at h3; omega))
theorem readO_all {t : ByteArray} (h : t.size = 321) : readO t = (cutsL t 1 8, (129, false)) := by
  unfold readO
  rw [readB_all h, hashesF_all (by omega)]
theorem readS_all {t : ByteArray} (h : t.size = 321) : readS t = (cutsL t 129 8, (257, false)) := by
  unfold readS
  rw [readO_all h, hashesF_all (by omega)]
theorem readD_all {t : ByteArray} (h : t.size = 321) : readD t = (cutsL t 257 4, (321, false)) := by
  unfold readD
  rw [readS_all h, hashesF_all (by omega)]
theorem read_form {t : ByteArray} (h : t.size = 321) : SigForm (headB (readB t).1) (readO t).1 (readS t).1 (readD t).1 ↔ headB (t.extract 0 1) ≤ 15 := by
  rw [readB_all h, readO_all h, readS_all h, readD_all h]
  have hb := headB_bound (t.extract 0 1)
  constructor
  · intro h2; exact h2.1.2
  · intro h2
    exact ⟨⟨hb.1, h2⟩, ⟨cutsL_len _ _ _, cutsL_size (by omega)⟩, ⟨cutsL_len _ _ _, cutsL_size (by omega)⟩, cutsL_len _ _ _, cutsL_size (by omega)⟩
theorem head_extract {t : ByteArray} (h : 0 < t.size) : headB (t.extract 0 1) = headB t := by
  have h1 : 0 < (t.extract 0 1).size := by rw [ByteArray.size_extract]; omega
  unfold headB
  rw [dif_pos h1, dif_pos h]
  congr 2
  simp [ByteArray.getElem_extract]

/-- What reading a text yields. -/
def readV (t : ByteArray) : Int × List ByteArray × List ByteArray × List ByteArray × Bool :=
  if t.size = 321 ∧ headB t ≤ 15 then (headB t, cutsL t 1 8, cutsL t 129 8, cutsL t 257 4, true) else (0, [], [], [], false)
theorem readV_yes {t : ByteArray} (h : t.size = 321 ∧ headB t ≤ 15) : readV t = (headB t, cutsL t 1 8, cutsL t 129 8, cutsL t 257 4, true) := if_pos h
theorem readV_no {t : ByteArray} (h : ¬ (t.size = 321 ∧ headB t ≤ 15)) : readV t = (0, [], [], [], false) := if_neg h
/-- The program's test. -/
theorem read_test (t : ByteArray) : ((readD t).2.2 = false ∧ (readD t).2.1 = t.size ∧ SigForm (headB (readB t).1) (readO t).1 (readS t).1 (readD t).1) ↔ (t.size = 321 ∧ headB t ≤ 15) := by
  constructor
  · rintro ⟨h1, h2, h3⟩
    have h4 := readD_done h1
    have h5 : t.size = 321 := by omega
    rw [read_form h5, head_extract (by omega)] at h3
    exact ⟨h5, h3⟩
  · rintro ⟨h1, h2⟩
    have h3 := readD_all h1
    refine ⟨by rw [h3], by rw [h3]; exact h1.symm, ?_⟩
    rw [read_form h1, head_extract (by omega)]
    exact h2

end Go.Proofs.Ytnlddjlbioelnaa
