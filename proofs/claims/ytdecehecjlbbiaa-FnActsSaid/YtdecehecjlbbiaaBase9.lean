/-
  What the walks of this claim lean on, joined: plain laws, no code of the seat.
-/
import Derived.Test.YtdecehecjlbbiaaBase4
import Derived.Test.YtdecehecjlbbiaaBase7
import Derived.Shelf.SlSortFuncK.WholeK

/-
  Rows of files that the library sorts: how they stand, what is left. No program in sight.
-/
namespace Go.Proofs.Ytdecehecjlbbiaa
open Go.RowKit Go.Sort

instance : Inhabited Fl := ⟨(ByteArray.empty, ByteArray.empty, 0)⟩
def encF (x : Fl) : List Value := [.string x.1, .string x.2.1, .int .i64 x.2.2]
def ltF (a b : Fl) : Bool := bless a.1 b.1
theorem swo_ltF : SWO ltF where
  irrefl := fun x => bless_irr _
  trans := fun x y z h1 h2 => bless_tr h1 h2
  ntrans := fun x y z h1 h2 => by
    unfold ltF at *
    cases h : bless x.1 z.1 with
    | false => rfl
    | true =>
      rcases bless_tri x.1 y.1 with g | g | g
      · rw [g] at h1; cases h1
      · rw [g, h2] at h; cases h
      · have := bless_tr g h
        rw [this] at h2; cases h2
theorem flatF (l : List Fl) (j : Nat) (hj : j < l.length * 3) : (fileC l)[j]? = some ((flatK encF 3 l.toArray)[j]!) := by
  rw [get_flatK _ _ _ j (by simpa using hj)]
  obtain ⟨x, hx⟩ : ∃ x, l[j / 3]? = some x := ⟨_, List.getElem?_eq_getElem (by omega)⟩
  obtain ⟨h1, h2, h3⟩ := fileC_get _ _ _ hx
  have hx2 : l.toArray[j / 3]! = x := by
    rw [getElem!_def]
    simp [hx]
  rw [hx2]
  rcases (show j = j / 3 * 3 ∨ j = j / 3 * 3 + 1 ∨ j = j / 3 * 3 + 2 by omega) with e | e | e
  · have hm : j % 3 = 0 := by omega
    rw [hm, e, h1]; rfl
  · have hm : j % 3 = 1 := by omega
    rw [hm, e, h2]; rfl
  · have hm : j % 3 = 2 := by omega
    rw [hm, e, h3]; rfl
theorem Row.holdsF {w : World} {g cap : Nat} {l : List Fl} (r : Row w g cap 3 l.length (fileC l)) : HoldsK encF 3 w g 0 l.toArray := by
  intro j hj
  rw [size_flatK] at hj
  simp only [List.size_toArray] at hj
  have hle := r.le
  rw [Nat.zero_add]
  refine ⟨?_, (r.there j (by have := Nat.mul_le_mul_right 3 hle; omega)).2⟩
  rw [r.holds j hj, flatF l j hj]; rfl
/-- The row behind the sorting. -/
theorem Row.sorted {w : World} {g cap : Nat} {l l' : List Fl} (r : Row w g cap 3 l.length (fileC l)) (hl : l'.length = l.length) (n : Nat) : Row (putRowK encF 3 (Sort.ahead w n) g 0 l'.toArray) g cap 3 l'.length (fileC l') := by
  have hH := Row.holdsF r
  have hs : l'.toArray.size = l.toArray.size := by simpa using hl
  refine ⟨by unfold putRowK; simp; exact r.lt, by rw [hl]; exact r.le, r.max, by rw [fileC_length], fun j hj => ?_, fun j hj => ⟨?_, ?_⟩⟩
  · have h := cell?_putRow id (Sort.ahead w n) g 0 (flatK encF 3 l.toArray) (flatK encF 3 l'.toArray) hH (by rw [size_flatK, size_flatK, hs]) j (by rw [size_flatK]; simpa using hj)
    rw [Nat.zero_add] at h
    unfold putRowK
    rw [h, flatF l' j hj]; rfl
  · by_cases hin : j < l'.length * 3
    · have h := cell?_putRow id (Sort.ahead w n) g 0 (flatK encF 3 l.toArray) (flatK encF 3 l'.toArray) hH (by rw [size_flatK, size_flatK, hs]) j (by rw [size_flatK]; simpa using hin)
      rw [Nat.zero_add] at h
      unfold putRowK
      rw [h]; rfl
    · unfold putRowK
      rw [cell?_putRow_other id _ g 0 _ ⟨g, j, none⟩ (.inr (.inr (by rw [size_flatK]; simp only [List.size_toArray]; omega)))]
      exact (r.there j hj).1
  · unfold putRowK
    rw [frozen?_putRow]
    exact (r.there j hj).2
theorem grownBy_putRow (w : World) (g n : Nat) (d : Array Fl) (os : Array Obj) : w.grownBy (grow (putRowK encF 3 (Sort.ahead w n) g 0 d) os) (some g) := by
  refine ⟨rfl, rfl, rfl, ?_, fun k hk hne => ?_⟩
  · show w.heap.size ≤ ((putRowK encF 3 (Sort.ahead w n) g 0 d).heap ++ os).size
    unfold putRowK
    rw [Array.size_append]
    simp
  · show ((putRowK encF 3 (Sort.ahead w n) g 0 d).heap ++ os)[k]? = _
    have h1 : (putRowK encF 3 (Sort.ahead w n) g 0 d).heap.size = w.heap.size := by unfold putRowK; simp
    rw [Array.getElem?_append_left (by omega)]
    unfold putRowK putRow mapBlock
    show (w.heap.modify g _)[k]? = _
    rw [Array.getElem?_modify]
    rw [if_neg (fun e => hne (by rw [e]))]
theorem grownBy_grow (w : World) (os : Array Obj) (row : Option Nat) : w.grownBy (grow w os) row := by
  refine ⟨rfl, rfl, rfl, ?_, fun k hk _ => ?_⟩
  · show w.heap.size ≤ (w.heap ++ os).size
    rw [Array.size_append]; omega
  · show (w.heap ++ os)[k]? = _
    rw [Array.getElem?_append_left hk]
theorem permIn_list {d d' : Array Fl} (h : PermIn 0 d.size d d') : d'.toList.Perm d.toList ∧ d'.size = d.size := by
  obtain ⟨h1, _, h3⟩ := h
  refine ⟨?_, h1⟩
  have e1 : d'.extract 0 d.size = d' := by rw [← h1]; simp
  have e2 : d.extract 0 d.size = d := by simp
  rw [e1, e2] at h3
  exact h3
theorem sortedIn_list {d : Array Fl} (h : SortedIn ltF 0 d.size d) : d.toList.Pairwise fun x y => bless y.1 x.1 = false := by
  rw [List.pairwise_iff_getElem]
  intro i j hi hj hij
  have h2 := h i j (Nat.zero_le _) hij (by simpa using hj)
  rw [getElem!_pos d i (by simpa using hi), getElem!_pos d j (by simpa using hj)] at h2
  simpa [ltF] using h2

end Go.Proofs.Ytdecehecjlbbiaa
