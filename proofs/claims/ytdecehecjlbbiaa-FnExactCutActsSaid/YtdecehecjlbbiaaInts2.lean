/-
  The walk of the laws' copy of integers; a slice of integers that came in, as a row that is read.
-/
import Derived.Test.YtdecehecjlbbiaaInts1
import Derived.Test.YtdecehecjlbbiaaFrameS
namespace Go.Proofs.Ytdecehecjlbbiaa
open Go.RowKit

theorem intC_of {cs : List Value} {l : List Int} (hl : cs.length = l.length) (h : ∀ j, j < l.length → cs[j]? = (l[j]?).map (Value.int .i64)) : cs = intC l := by
  apply List.ext_getElem?
  intro j
  rw [intC_get]
  by_cases hj : j < l.length
  · exact h j hj
  · rw [List.getElem?_eq_none (by omega), List.getElem?_eq_none (by omega)]; rfl

/-- What came in, as a row that is read. -/
theorem rdI_of_row {w : World} {a : Option Addr} {len cap : Nat} {zs : List Int} (h : IsRow .i64 w a len cap zs) : ∃ l, l.length = len ∧ len ≤ maxLen ∧ RdI w a l := by
  rcases h with ⟨rfl, rfl, _, _⟩ | ⟨x, rfl, hlc, hcm, hz, hcell, _⟩
  · exact ⟨[], rfl, Nat.zero_le _, fun j u h => by simp [intC] at h⟩
  · refine ⟨zs.take len, by rw [List.length_take]; omega, by omega, fun j u hu => ?_⟩
    rw [intC_get] at hu
    obtain ⟨y, hy, rfl⟩ := Option.map_eq_some_iff.1 hu
    have hj : j < len := by
      have := (List.getElem?_eq_some_iff.1 hy).1
      rw [List.length_take] at this
      omega
    have h0 := add_spot (hcell 0 (by omega))
    have hc := hcell j (by omega)
    obtain ⟨b, off, sp⟩ := x
    simp only at h0
    subst h0
    refine ⟨b, off, rfl, ?_⟩
    have e1 : (⟨b, off, none⟩ : Addr).add j = ⟨b, off + j, none⟩ := by
      unfold Addr.add; split
      · next h => rw [h]; rfl
      · rfl
    rw [e1] at hc
    rw [hc]
    rw [List.getElem?_take, if_pos hj] at hy
    rw [List.getD_eq_getElem?_getD, hy]
    rfl

theorem OwnI.kept {w w' : World} {B : Nat} {v : Value} {l : List Int} {row : Option Nat} (h : OwnI w B v l) (hg : w.grownBy w' row) (hne : v.ownBlock = none ∨ v.ownBlock ≠ row) : OwnI w' B v l := Own.kept h hg hne
theorem OwnI.block {w : World} {B : Nat} {v : Value} {l : List Int} (h : OwnI w B v l) : ∀ k, v.ownBlock = some k → B ≤ k ∧ k < w.heap.size := Own.block h
/-- Two rows of which one was there when the other was made are apart. -/
theorem apart_of {u v : Value} {C : Nat} (hu : ∀ k, u.ownBlock = some k → k < C) (hv : ∀ k, v.ownBlock = some k → C ≤ k) : v.ownBlock = none ∨ v.ownBlock ≠ u.ownBlock := by
  cases h : v.ownBlock with
  | none => exact .inl rfl
  | some k => exact .inr (fun e => by have := hu k e.symm; have := hv k h; omega)

set_option maxHeartbeats 1000000 in
theorem toIntS_any (ao : Option Addr) (cap : Nat) (l : List Int) (w : World) (hl : l.length ≤ 1048576) (h : RdI w ao l) :
    Calls Try.prog 25 #[.slice ao l.length cap] w fun e w' => (∃ v, e = .returned v ∧ OwnI w' w.heap.size v l) ∧ Below w.heap.size w w' := by
  have H := Lib.hid h
  clear h
  obtain ⟨i, hi, hz0, hz1, hz2⟩ := info_parts Try.infoInt
  have Hi := Lib.hid (And.intro hi (And.intro hz0 (And.intro hz1 hz2)))
  clear hi hz0 hz1 hz2
  go_enter Try.func25, Try.ntmps25
  go_wp2_with (at_make; refine wpList_make_full _ rfl _ _ 36 rfl w.heap.size 3 i _ 1 Try.underlying36 Hi.out.1 Hi.out.2.1 Hi.out.2.2.1 .i64 .i64 _ _ l.length rfl rfl rfl rfl (by rw [Hi.out.2.2.2]; omega) (by unfold maxLen; omega) (Nat.le_refl _) ?_; intro w1 hown hg)
  have hown := Own.of_ownsRow hown
  have hb1 : Below w.heap.size w w1 := (Below.refl _ w).grown hg (Nat.le_refl _) (fun k h => by cases h)
  clear hg
  generalize hgg : w.heap.size = g at *
  have Hg := Lib.hid hgg
  clear hgg
  go_loopw [4] (fun i wr => ∃ (k : Nat) (cs : List Value), k ≤ l.length ∧ i = .int .i64 k ∧ Hid (cs.length = l.length ∧ ∀ j, j < k → cs[j]? = (l[j]?).map (Value.int .i64)) ∧ Own wr g 1 (.slice (some ⟨g, 0, none⟩) l.length l.length) l.length cs ∧ Below g w wr) (fun i _ => l.length - (intOf i).toNat)
  case atStart => exact ⟨0, _, Nat.zero_le _, rfl, ⟨by have := hown.len; omega, fun j hj => by omega⟩, hown, hb1⟩
  case round =>
    obtain ⟨k, cs, hk, rfl, HC, hown, hb⟩ := hrel
    have hbs := hb.size
    by_cases hlt : k < l.length
    · obtain ⟨x, hx⟩ : ∃ x, l[k]? = some x := ⟨_, List.getElem?_eq_getElem hlt⟩
      obtain ⟨b, o, rfl, hc⟩ := (RdI.below H.out hb (by rw [Hg.out]; exact Nat.le_refl _)).at_ k x hx
      obtain ⟨⟨u, hu⟩, hf⟩ := hown.at1 k hlt
      have Hx := Lib.hid hx
      have Ho := Lib.hid hown
      clear hx hown
      go_wp2_with fail
      refine ⟨⟨k + 1, cs.set k (.int .i64 x), by omega, by go_num, ⟨by rw [List.length_set]; exact HC.out.1, fun j hj => ?_⟩, Ho.out.store1 k hlt _, hb.setCell (Nat.le_refl _) _⟩, by simp [intOf]; omega⟩
      by_cases hjk : j = k
      · subst hjk; rw [List.getElem?_set_self (by rw [HC.out.1]; exact hlt), Hx.out]; rfl
      · rw [List.getElem?_set_ne (by omega)]; exact HC.out.2 j (by omega)
    · obtain rfl : k = l.length := by omega
      have he := Lib.hid (intC_of HC.out.1 HC.out.2)
      go_wp2_with fail
      go_ret
      exact ⟨⟨_, rfl, by unfold OwnI; rw [← he.out, Hg.out]; exact hown⟩, by rw [Hg.out]; exact hb⟩

end Go.Proofs.Ytdecehecjlbbiaa
