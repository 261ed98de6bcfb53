/-
  Plain law: what a power failure leaves; files in a row, one of them changed; rows of files appended. No program in sight.
-/
import Derived.Test.YtdecehecjlbbiaaPuDiskOk
import Derived.Test.YtdecehecjlbbiaaPuCells
namespace Go.Proofs.Ytdecehecjlbbiaa
open Go.RowKit

theorem fileC_set {l : List Fl} {k : Nat} {x : Fl} (hx : l[k]? = some x) (y : Fl) (i : Nat) (hi : i < 3) (v : Value)
    (h0 : (if i = 0 then v else .string x.1) = .string y.1) (h1 : (if i = 1 then v else .string x.2.1) = .string y.2.1) (h2 : (if i = 2 then v else .int .i64 x.2.2) = .int .i64 y.2.2) :
    (fileC l).set (k * 3 + i) v = fileC (l.set k y) := by
  have hk := (List.getElem?_eq_some_iff.1 hx).1
  refine fileC_of (by rw [List.length_set, fileC_length, List.length_set]) (fun j z hz => ?_)
  by_cases hjk : j = k
  · subst hjk
    rw [List.getElem?_set_self hk] at hz
    cases hz
    obtain ⟨g0, g1, g2⟩ := fileC_get _ _ _ hx
    have hl : j * 3 + i < (fileC l).length := by rw [fileC_length]; omega
    rw [← h0, ← h1, ← h2]
    refine ⟨?_, ?_, ?_⟩
    · by_cases e : i = 0
      · subst e; rw [if_pos rfl, Nat.add_zero, List.getElem?_set_self (by omega)]
      · rw [if_neg e, List.getElem?_set_ne (by omega)]; exact g0
    · by_cases e : i = 1
      · subst e; rw [if_pos rfl, List.getElem?_set_self hl]
      · rw [if_neg e, List.getElem?_set_ne (by omega)]; exact g1
    · by_cases e : i = 2
      · subst e; rw [if_pos rfl, List.getElem?_set_self hl]
      · rw [if_neg e, List.getElem?_set_ne (by omega)]; exact g2
  · rw [List.getElem?_set_ne (by omega)] at hz
    obtain ⟨g0, g1, g2⟩ := fileC_get _ _ _ hz
    exact ⟨by rw [List.getElem?_set_ne (by omega)]; exact g0, by rw [List.getElem?_set_ne (by omega)]; exact g1, by rw [List.getElem?_set_ne (by omega)]; exact g2⟩
theorem fileC_name {l : List Fl} {k : Nat} {x : Fl} (hx : l[k]? = some x) (t : ByteArray) : (fileC l).set (k * 3) (.string t) = fileC (l.set k (t, x.2.1, x.2.2)) := fileC_set hx _ 0 (by omega) _ rfl rfl rfl
theorem fileC_text {l : List Fl} {k : Nat} {x : Fl} (hx : l[k]? = some x) (t : ByteArray) : (fileC l).set (k * 3 + 1) (.string t) = fileC (l.set k (x.1, t, x.2.2)) := fileC_set hx _ 1 (by omega) _ rfl rfl rfl
theorem fileC_kept {l : List Fl} {k : Nat} {x : Fl} (hx : l[k]? = some x) (n : Int) : (fileC l).set (k * 3 + 2) (.int .i64 n) = fileC (l.set k (x.1, x.2.1, n)) := fileC_set hx _ 2 (by omega) _ rfl rfl rfl
theorem fileC_append (l m : List Fl) : fileC (l ++ m) = fileC l ++ fileC m := by
  induction l with
  | nil => rfl
  | cons x l ih => simp only [List.cons_append, fileC, ih]
theorem fileC_one (l : List Fl) : ∀ u ∈ fileC l, u.oneCell' = true := by
  induction l with
  | nil => intro u hu; simp [fileC] at hu
  | cons x l ih =>
    intro u hu
    simp only [fileC, List.mem_cons] at hu
    rcases hu with rfl | rfl | rfl | hu
    · rfl
    · rfl
    · rfl
    · exact ih u hu
/-- A row that is read yields its cells. -/
theorem RdC.src {P : Program} {size : Nat} {t e' : TypeId} (ht : P.underlying t = some (.slice e')) {w : World} {ao : Option Addr} {n : Nat} {cs : List Value} (hl : cs.length = n * size) (hs : 0 < size) (h1 : ∀ u ∈ cs, u.oneCell' = true) (h : RdC w ao cs) (c : Nat) :
    Src P size t (.slice ao n c) n cs w := by
  cases ao with
  | none =>
    cases cs with
    | nil =>
      have : n = 0 := by
        rcases Nat.eq_zero_or_pos n with h0 | h0
        · exact h0
        · have := Nat.mul_pos h0 hs; simp at hl; omega
      subst this
      exact Src.ofNil w ht c
    | cons x r => obtain ⟨b, off, he, _⟩ := h 0 x rfl; cases he
  | some a =>
    refine Src.ofSlice _ ht _ _ _ _ hl (fun j u hu => ?_) h1
    obtain ⟨b, off, he, hc⟩ := h j u hu
    cases he
    rw [Addr.add_lit]
    exact hc
theorem RdF.src {P : Program} {t e' : TypeId} (ht : P.underlying t = some (.slice e')) {w : World} {ao : Option Addr} {l : List Fl} (h : RdF w ao l) (c : Nat) :
    Src P 3 t (.slice ao l.length c) l.length (fileC l) w := RdC.src ht (fileC_length l) (by omega) (fileC_one l) h c

/-- What is kept of a file. -/
def loseN (x : Fl) (m : Int) : Int := max (min m x.2.1.size) x.2.2
def loseF (x : Fl) (m : Int) : Fl := (x.1, x.2.1.extract 0 (loseN x m).toNat, loseN x m)
def noF : Fl := (ByteArray.empty, ByteArray.empty, 0)
def loseTo (l : List Fl) (q : List Int) (k : Nat) : List Fl := (List.range k).map fun i => loseF (l.getD i noF) (q.getD i 0)
def loseL (l : List Fl) (q : List Int) : List Fl := loseTo l q l.length
theorem loseTo_len (l : List Fl) (q : List Int) (k : Nat) : (loseTo l q k).length = k := by simp [loseTo]
theorem loseTo_next {l : List Fl} {q : List Int} {k : Nat} {x : Fl} (hx : l[k]? = some x) : loseTo l q (k + 1) = loseTo l q k ++ [loseF x (q.getD k 0)] := by
  unfold loseTo
  rw [List.range_succ, List.map_append, List.map_singleton, List.getD_eq_getElem?_getD (l := l), hx]
  rfl
/-- The first k are done. -/
def loseMid (l : List Fl) (q : List Int) (k : Nat) : List Fl := loseTo l q k ++ l.drop k
theorem loseMid_zero (l : List Fl) (q : List Int) : loseMid l q 0 = l := by simp [loseMid, loseTo]
theorem loseMid_all (l : List Fl) (q : List Int) : loseMid l q l.length = loseL l q := by simp [loseMid, loseL]
theorem loseMid_len {l : List Fl} {q : List Int} {k : Nat} (hk : k ≤ l.length) : (loseMid l q k).length = l.length := by
  unfold loseMid; rw [List.length_append, loseTo_len, List.length_drop]; omega
theorem loseMid_at {l : List Fl} {q : List Int} {k : Nat} {x : Fl} (hx : l[k]? = some x) : (loseMid l q k)[k]? = some x := by
  unfold loseMid
  rw [List.getElem?_append_right (by rw [loseTo_len]; exact Nat.le_refl _), loseTo_len, Nat.sub_self, List.getElem?_drop, Nat.add_zero, hx]
theorem loseMid_next {l : List Fl} {q : List Int} {k : Nat} {x : Fl} (hx : l[k]? = some x) : loseMid l q (k + 1) = (loseMid l q k).set k (loseF x (q.getD k 0)) := by
  have hk := (List.getElem?_eq_some_iff.1 hx).1
  unfold loseMid
  rw [List.set_append_right _ _ (by rw [loseTo_len]; exact Nat.le_refl _), loseTo_len, Nat.sub_self, loseTo_next hx, List.append_assoc]
  congr 1
  obtain ⟨_, rfl⟩ := List.getElem?_eq_some_iff.1 hx
  rw [← List.getElem_cons_drop hk]
  rfl
theorem loseN_bound {x : Fl} (h : 0 ≤ x.2.2 ∧ x.2.2 ≤ x.2.1.size) (m : Int) : x.2.2 ≤ loseN x m ∧ loseN x m ≤ x.2.1.size ∧ 0 ≤ loseN x m := by
  unfold loseN; omega
/-- The two results. -/
def loseV (l : List Fl) (q : List Int) : List Fl × Bool := if DiskGood l then (loseL l q, true) else ([], false)
theorem loseV_yes {l : List Fl} {q : List Int} (h : DiskGood l) : loseV l q = (loseL l q, true) := if_pos h
theorem loseV_no {l : List Fl} {q : List Int} (h : ¬ DiskGood l) : loseV l q = ([], false) := if_neg h

end Go.Proofs.Ytdecehecjlbbiaa
