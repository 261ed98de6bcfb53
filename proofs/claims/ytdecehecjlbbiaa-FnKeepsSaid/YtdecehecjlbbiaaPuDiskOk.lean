/-
  Plain law: when a disk is valid; where a file stands. No program in sight.
-/
import Derived.Test.YtdecehecjlbbiaaPuDisk
import Derived.Test.YtdecehecjlbbiaaKit3
import Derived.Deep.QuietTactic
namespace Go.Proofs.Ytdecehecjlbbiaa
open Go.RowKit

/-- The order of names. -/
def bless (a b : ByteArray) : Bool := Op.bytesLess a.toList b.toList
theorem less_eq : ∀ (x y : List UInt8), Op.bytesLess x y = decide (x < y)
  | [], [] => by simp [Op.bytesLess]
  | _ :: _, [] => by simp [Op.bytesLess]
  | [], _ :: _ => by simp [Op.bytesLess]
  | a :: x, b :: y => by
    rw [Op.bytesLess, less_eq x y]
    simp only [List.cons_lt_cons_iff]
    by_cases h1 : a < b <;> by_cases h2 : a = b <;> by_cases h3 : x < y <;> simp [h1, h2, h3]
theorem bless_eq (a b : ByteArray) : bless a b = decide (a.data.toList < b.data.toList) := by
  unfold bless
  rw [less_eq, ByteArray.toList_eq, ByteArray.toList_eq]
theorem u8_irrefl (a : UInt8) : ¬ a < a := by rw [UInt8.lt_iff_toNat_lt]; omega
theorem u8_trans {a b c : UInt8} (h : a < b) (k : b < c) : a < c := by rw [UInt8.lt_iff_toNat_lt] at *; omega
theorem lt_irr : ∀ l : List UInt8, ¬ l < l
  | [], h => by simp at h
  | a :: l, h => by
    rw [List.cons_lt_cons_iff] at h
    rcases h with h | h
    · exact u8_irrefl a h
    · exact lt_irr l h.2
theorem lt_tr : ∀ {a b c : List UInt8}, a < b → b < c → a < c
  | _, [], _, h, _ => by simp at h
  | _, _ :: _, [], _, h => by simp at h
  | [], _ :: _, _ :: _, _, _ => by simp
  | a :: l, b :: m, c :: n, h, k => by
    rw [List.cons_lt_cons_iff] at h k ⊢
    rcases h with h | ⟨h1, h2⟩
    · rcases k with k | ⟨k1, k2⟩
      · exact .inl (u8_trans h k)
      · subst k1; exact .inl h
    · subst h1
      rcases k with k | ⟨k1, k2⟩
      · exact .inl k
      · subst k1; exact .inr ⟨rfl, lt_tr h2 k2⟩
theorem lt_tri : ∀ a b : List UInt8, a < b ∨ a = b ∨ b < a
  | [], [] => .inr (.inl rfl)
  | [], _ :: _ => .inl (by simp)
  | _ :: _, [] => .inr (.inr (by simp))
  | a :: l, b :: m => by
    rw [List.cons_lt_cons_iff, List.cons_lt_cons_iff]
    rcases Nat.lt_trichotomy a.toNat b.toNat with h | h | h
    · exact .inl (.inl (UInt8.lt_iff_toNat_lt.2 h))
    · obtain rfl : a = b := UInt8.toNat_inj.1 h
      rcases lt_tri l m with k | k | k
      · exact .inl (.inr ⟨rfl, k⟩)
      · exact .inr (.inl (by rw [k]))
      · exact .inr (.inr (.inr ⟨rfl, k⟩))
    · exact .inr (.inr (.inl (UInt8.lt_iff_toNat_lt.2 h)))
theorem bless_irr (a : ByteArray) : bless a a = false := by rw [bless_eq]; exact decide_eq_false (lt_irr _)
theorem bless_tr {a b c : ByteArray} (h : bless a b = true) (k : bless b c = true) : bless a c = true := by
  rw [bless_eq, decide_eq_true_eq] at *; exact lt_tr h k
theorem bless_as {a b : ByteArray} (h : bless a b = true) : bless b a = false := by
  cases k : bless b a with
  | false => rfl
  | true => have := bless_tr h k; rw [bless_irr] at this; cases this
theorem bless_tri (a b : ByteArray) : bless a b = true ∨ a = b ∨ bless b a = true := by
  rw [bless_eq, bless_eq, decide_eq_true_eq, decide_eq_true_eq]
  rcases lt_tri a.data.toList b.data.toList with h | h | h
  · exact .inl h
  · exact .inr (.inl (ByteArray.ext (Array.ext' h)))
  · exact .inr (.inr h)

/-- A file that a disk may hold. -/
def FileGood (x : Fl) : Prop := (1 ≤ x.1.size ∧ x.1.size ≤ 8) ∧ x.2.1.size ≤ 20000 ∧ 0 ≤ x.2.2 ∧ x.2.2 ≤ x.2.1.size
instance (x : Fl) : Decidable (FileGood x) := by unfold FileGood; infer_instance
def Lower (x y : Fl) : Prop := bless x.1 y.1 = true
instance (x y : Fl) : Decidable (Lower x y) := by unfold Lower; infer_instance
def DiskGood (l : List Fl) : Prop := l.length ≤ 30 ∧ (∀ x ∈ l, FileGood x) ∧ l.Pairwise Lower
instance (l : List Fl) : Decidable (DiskGood l) := by unfold DiskGood; infer_instance
/-- The beginning of a disk. -/
def PartGood (l : List Fl) (k : Nat) : Prop := (∀ x ∈ l.take k, FileGood x) ∧ (l.take k).Pairwise Lower
theorem part_zero (l : List Fl) : PartGood l 0 := by unfold PartGood; simp
theorem part_next {l : List Fl} {k : Nat} {x : Fl} (hx : l[k]? = some x) (h : PartGood l k) (hf : FileGood x) (hp : ∀ y, 0 < k → l[k - 1]? = some y → bless y.1 x.1 = true) : PartGood l (k + 1) := by
  obtain ⟨h1, h2⟩ := h
  unfold PartGood
  rw [List.take_add_one, hx]
  refine ⟨fun y hy => ?_, ?_⟩
  · rcases List.mem_append.1 hy with hy | hy
    · exact h1 y hy
    · simp at hy; subst hy; exact hf
  · rw [List.pairwise_append]
    refine ⟨h2, by simp, fun a ha b hb => ?_⟩
    simp at hb
    subst hb
    have hkl := (List.getElem?_eq_some_iff.1 hx).1
    obtain ⟨j, hj, rfl⟩ := List.mem_iff_getElem.1 ha
    have hjk : j < k := by rw [List.length_take] at hj; omega
    have hl : l[k - 1]? = some l[k - 1] := List.getElem?_eq_getElem (by omega)
    have hlast := hp _ (by omega) hl
    by_cases he : j = k - 1
    · subst he
      show bless _ _ = true
      rw [List.getElem_take]
      exact hlast
    · have hj2 : k - 1 < (l.take k).length := by rw [List.length_take]; omega
      have h3 := List.pairwise_iff_getElem.1 h2 j (k - 1) hj hj2 (by omega)
      have h3' : bless (l.take k)[j].1 (l.take k)[k - 1].1 = true := h3
      rw [List.getElem_take (i := k - 1)] at h3'
      exact bless_tr h3' hlast
theorem good_all {l : List Fl} (h : PartGood l l.length) : decide (DiskGood l) = decide ((l.length : Int) ≤ 30) := by
  unfold PartGood at h
  rw [List.take_length] at h
  by_cases hl : l.length ≤ 30
  · rw [decide_eq_true (show DiskGood l from ⟨hl, h.1, h.2⟩), decide_eq_true (by omega)]
  · rw [decide_eq_false (fun h2 : DiskGood l => hl h2.1), decide_eq_false (by omega)]
theorem bad_file {l : List Fl} {k : Nat} {x : Fl} (hx : l[k]? = some x) (h : ¬ FileGood x) : decide (DiskGood l) = false :=
  decide_eq_false (fun h2 => h (h2.2.1 x (List.mem_of_getElem? hx)))
theorem bad_order {l : List Fl} {k : Nat} {x y : Fl} (hx : l[k]? = some x) (h0 : 0 < k) (hy : l[k - 1]? = some y) (h : bless y.1 x.1 = false) : decide (DiskGood l) = false := by
  refine decide_eq_false (fun h2 => ?_)
  obtain ⟨hk, rfl⟩ := List.getElem?_eq_some_iff.1 hx
  obtain ⟨hk', rfl⟩ := List.getElem?_eq_some_iff.1 hy
  have h3 : bless _ _ = true := List.pairwise_iff_getElem.1 h2.2.2 (k - 1) k hk' hk (by omega)
  rw [h3] at h
  cases h

/-- Where a file stands. -/
def posF (l : List Fl) (n : ByteArray) : Option Nat := l.findIdx? fun x => decide (x.1 = n)
def posV (l : List Fl) (n : ByteArray) : Int := match posF l n with
  | some k => k
  | none => -1
theorem posF_yes {l : List Fl} {n : ByteArray} {k : Nat} {x : Fl} (hx : l[k]? = some x) (h : ∀ y ∈ l.take k, y.1 ≠ n) (he : x.1 = n) : posF l n = some k := by
  unfold posF
  obtain ⟨hk, rfl⟩ := List.getElem?_eq_some_iff.1 hx
  rw [List.findIdx?_eq_some_iff_getElem]
  refine ⟨hk, by simpa using he, fun j hj => ?_⟩
  have hj' : j < (l.take k).length := by rw [List.length_take]; omega
  have := h _ (List.getElem_mem hj')
  rw [List.getElem_take] at this
  simpa using this
theorem posF_no {l : List Fl} {n : ByteArray} (h : ∀ y ∈ l, y.1 ≠ n) : posF l n = none := by
  unfold posF
  rw [List.findIdx?_eq_none_iff]
  intro x hx
  simpa using h x hx
theorem posF_some {l : List Fl} {n : ByteArray} {k : Nat} (h : posF l n = some k) : ∃ x, l[k]? = some x ∧ x.1 = n := by
  unfold posF at h
  rw [List.findIdx?_eq_some_iff_getElem] at h
  obtain ⟨hk, h1, _⟩ := h
  exact ⟨_, List.getElem?_eq_getElem hk, by simpa using h1⟩
theorem posF_none {l : List Fl} {n : ByteArray} (h : posF l n = none) : ∀ x ∈ l, x.1 ≠ n := by
  unfold posF at h
  rw [List.findIdx?_eq_none_iff] at h
  intro x hx
  simpa using h x hx
theorem fl_all {l : List Fl} {k : Nat} {x : Fl} {p : Fl → Prop} (hx : l[k]? = some x) (h : ∀ y ∈ l.take k, p y) (hp : p x) : ∀ y ∈ l.take (k + 1), p y := by
  intro y hy
  rw [List.take_add_one, hx] at hy
  rcases List.mem_append.1 hy with hy | hy
  · exact h y hy
  · simp at hy; subst hy; exact hp

/-- All bytes are durable. -/
def AllK (l : List Fl) : Prop := DiskGood l ∧ ∀ x ∈ l, x.2.2 = x.2.1.size
instance (l : List Fl) : Decidable (AllK l) := by unfold AllK; infer_instance

/-- A quiet call that leaves the world as it is. -/
theorem quiet_eq {P : Program} {f : FuncId} {args : Array Value} {w : World} {n : Nat} {v : Value}
    (h : Calls P f args (w.drewN n) fun e w' => e = .returned v ∧ w.drewN n = w') : Calls P f args (w.drewN n) fun e w'' => e = .returned v ∧ ∃ m, w'' = w.drewN m :=
  h.mono fun _ _ ⟨he, hm⟩ => ⟨he, n, hm.symm⟩

end Go.Proofs.Ytdecehecjlbbiaa
