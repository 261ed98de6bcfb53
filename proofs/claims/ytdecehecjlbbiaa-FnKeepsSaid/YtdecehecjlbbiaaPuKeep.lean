/-
  Plain law: a power failure loses no durable byte, leaves a beginning of each file, and a second one loses nothing more. No program in sight.
-/
import Derived.Test.YtdecehecjlbbiaaPuDo
import Derived.Test.YtdecehecjlbbiaaPuLose
namespace Go.Proofs.Ytdecehecjlbbiaa
open Go.RowKit

theorem extract_len (s : ByteArray) (n : Nat) (h : n ≤ s.size) : (s.extract 0 n).size = n := by rw [ByteArray.size_extract]; omega
theorem loseL_at {l : List Fl} {q : List Int} {k : Nat} {x : Fl} (hx : l[k]? = some x) : (loseL l q)[k]? = some (loseF x (q.getD k 0)) := by
  have hk := (List.getElem?_eq_some_iff.1 hx).1
  unfold loseL loseTo
  rw [List.getElem?_map, List.getElem?_range hk, Option.map_some, List.getD_eq_getElem?_getD (l := l), hx]
  rfl
theorem loseL_len (l : List Fl) (q : List Int) : (loseL l q).length = l.length := loseTo_len _ _ _
theorem loseF_good {x : Fl} (h : FileGood x) (m : Int) : FileGood (loseF x m) ∧ (loseF x m).2.2 = (loseF x m).2.1.size := by
  have hb := loseN_bound h.2.2 m
  have hs := extract_len x.2.1 (loseN x m).toNat (by omega)
  unfold loseF FileGood
  simp only
  rw [hs]
  have h1 := h.1
  have h2 := h.2.1
  omega
theorem loseL_mem {l : List Fl} {q : List Int} {y : Fl} (h : y ∈ loseL l q) : ∃ x m, x ∈ l ∧ y = loseF x m := by
  obtain ⟨k, hk, rfl⟩ := List.mem_iff_getElem.1 h
  rw [loseL_len] at hk
  have h1 := loseL_at (q := q) (List.getElem?_eq_getElem hk)
  obtain ⟨_, e⟩ := List.getElem?_eq_some_iff.1 h1
  exact ⟨l[k], _, List.getElem_mem hk, e⟩
theorem loseL_kept {l : List Fl} (q : List Int) (h : DiskGood l) : AllK (loseL l q) := by
  refine ⟨⟨by rw [loseL_len]; exact h.1, fun y hy => ?_, ?_⟩, fun y hy => ?_⟩
  · obtain ⟨x, m, hx, rfl⟩ := loseL_mem hy
    exact (loseF_good (h.2.1 x hx) m).1
  · rw [List.pairwise_iff_getElem]
    intro i j hi hj hij
    rw [loseL_len] at hi hj
    have e1 := (List.getElem?_eq_some_iff.1 (loseL_at (q := q) (List.getElem?_eq_getElem hi))).2
    have e2 := (List.getElem?_eq_some_iff.1 (loseL_at (q := q) (List.getElem?_eq_getElem hj))).2
    rw [e1, e2]
    exact List.pairwise_iff_getElem.1 h.2.2 i j hi hj hij
  · obtain ⟨x, m, hx, rfl⟩ := loseL_mem hy
    exact (loseF_good (h.2.1 x hx) m).2
theorem loseF_same {x : Fl} (h : x.2.2 = x.2.1.size) (m : Int) : loseF x m = x := by
  obtain ⟨a, b, n⟩ := x
  simp only at h
  subst h
  have e : loseN (a, b, (b.size : Int)) m = (b.size : Int) := by unfold loseN; simp only; omega
  unfold loseF
  rw [e]
  simp
theorem loseL_again {l : List Fl} (q r : List Int) (h : DiskGood l) : loseL (loseL l q) r = loseL l q := by
  have hk := loseL_kept q h
  apply List.ext_getElem?
  intro k
  by_cases hlt : k < (loseL l q).length
  · obtain ⟨x, hx⟩ : ∃ x, (loseL l q)[k]? = some x := ⟨_, List.getElem?_eq_getElem hlt⟩
    rw [loseL_at hx, hx, loseF_same (hk.2 x (List.mem_of_getElem? hx))]
  · rw [List.getElem?_eq_none (by rw [loseL_len]; omega), List.getElem?_eq_none (by omega)]

/-- The one begins the other. -/
def Begins (a b : ByteArray) : Prop := a.size ≤ b.size ∧ b.extract 0 a.size = a
instance (a b : ByteArray) : Decidable (Begins a b) := by unfold Begins; infer_instance
theorem begins_cut (s : ByteArray) {n m : Nat} (h : n ≤ m) (hm : m ≤ s.size) : Begins (s.extract 0 n) (s.extract 0 m) := by
  have h1 := extract_len s n (by omega)
  have h2 := extract_len s m hm
  refine ⟨by omega, ?_⟩
  rw [h1]
  apply ByteArray.ext
  apply Array.ext'
  simp
  omega
theorem begins_whole (s : ByteArray) {n : Nat} (h : n ≤ s.size) : Begins (s.extract 0 n) s := by
  refine ⟨by rw [extract_len s n h]; exact h, ?_⟩
  rw [extract_len s n h]

theorem putL_len' (l : List Fl) (f : Fl) : (putL l f).length ≤ l.length + 1 := by
  have h1 := (putL_perm l f).length_eq
  have h2 : (outL l f.1).length ≤ l.length := List.length_filter_le _ _
  rw [List.length_cons] at h1
  omega
theorem putL_mem' {l : List Fl} {f x : Fl} (h : x ∈ putL l f) : x = f ∨ x ∈ l := by
  rcases List.mem_cons.1 ((putL_perm l f).mem_iff.1 h) with rfl | h
  · exact .inl rfl
  · exact .inr (List.mem_filter.1 h).1
theorem putL_good {l : List Fl} {f : Fl} (h : DiskGood l) (hl : l.length ≤ 29) (hf : FileGood f) : DiskGood (putL l f) := by
  refine ⟨by have := putL_len' l f; omega, fun x hx => ?_, putL_lower h.2.2 f⟩
  rcases putL_mem' hx with rfl | hx
  · exact hf
  · exact h.2.1 x hx

end Go.Proofs.Ytdecehecjlbbiaa
