/-
  A slice of entries that came in, told to a walk.
-/
import Derived.Test.YtnlddjlbioelnaaFrameS
import Derived.Test.YtnlddjlbioelnaaPuLeaf
import Derived.Lib.SmallJoins
namespace Go.Proofs.Ytnlddjlbioelnaa
open Go.ChangeShapes Go.WideShapes Go.ChangeAt Go.RowKit Go.Joins Go.Deep

/-- A slice of entries that came in: it reads as l. -/
structure IsLeafs (w : World) (a : Option Addr) (len cap : Nat) (l : List Lf) : Prop where
  size : l.length = len
  most : len ≤ maxLen
  each : ∀ x ∈ l, x.1.size ≤ maxLen ∧ x.2.size ≤ maxLen
  rd : RdL w a l

theorem isLeafs_of {H : Type} {enc : TypeId × Value → H} {P : Program} {t e : TypeId} {f0 f1 : Field} (ht : P.underlying t = some (.slice e)) (he : P.underlying e = some (.struct #[f0, f1])) (hone : oneCellFields P #[f0, f1] = true) (hC : P.cellsOf e = 2)
    (h0 : P.underlying f0.type = some .string) (h1 : P.underlying f1.type = some .string) {W : World} {a : Option Addr} {len cap : Nat} {d : DataW H} {p : List MemPlace} (h : DataW.Trod enc P W 0 (fun _ => true) true t (.slice a len cap) d p) :
    ∃ l, IsLeafs W a len cap l := by
  obtain ⟨fuel, hf⟩ := h
  rcases open_slice ht hf with ⟨hcs, _⟩ | ⟨x, ln, c, m, n, D, Pl, hcs, _, hl, hm, hmm, _, hi⟩
  · simp [Value.cells] at hcs
    obtain ⟨rfl, rfl, rfl⟩ := hcs
    exact ⟨[], rfl, Nat.zero_le _, fun x h => by simp at h, RdC.nil _ _⟩
  · simp [Value.cells] at hcs
    obtain ⟨rfl, rfl, rfl⟩ := hcs
    simp only [if_true] at hmm
    subst hmm
    have key : ∀ i, i < len → ∃ y : Lf, (y.1.size ≤ maxLen ∧ y.2.size ≤ maxLen) ∧ W.cell? (x.add (i * 2)) = some (.string y.1) ∧ W.cell? (x.add (i * 2 + 1)) = some (.string y.2) := by
      intro i hil
      obtain ⟨cs', hc, ht'⟩ := hi i (by omega)
      rw [hC] at hc
      obtain ⟨_, hcl, hat⟩ := World.cells?_some hc
      obtain ⟨y0, y1, n', _, _, g0, g1⟩ := trod_struct2 he ht'
      obtain ⟨o0, k0⟩ := hone_of hone 0 f0 rfl
      obtain ⟨o1, k1⟩ := hone_of hone 1 f1 rfl
      match cs', hcl with
      | [u, v], _ =>
        rw [o0, k0] at g0
        rw [o1, k1] at g1
        obtain ⟨s, es, _, zs⟩ := DataW.trod_string h0 (by simpa using g0)
        obtain ⟨r, er, _, zr⟩ := DataW.trod_string h1 (by simpa using g1)
        simp only [List.cons.injEq, and_true] at es er
        have c0 := hat 0 (by omega)
        have c1 := hat 1 (by omega)
        rw [add_add] at c0 c1
        refine ⟨(s, r), ⟨zs, zr⟩, ?_, ?_⟩
        · rw [Nat.add_zero] at c0; rw [c0, ← es]; rfl
        · rw [c1, ← er]; rfl
    obtain ⟨f, hff⟩ := choose_lt key
    have hget : ∀ i, i < len → ((List.range len).map f)[i]? = some (f i) := fun i hil => by rw [List.getElem?_map, List.getElem?_range hil]; rfl
    refine ⟨(List.range len).map f, by simp, by omega, fun y hy => ?_, fun j u hu => ?_⟩
    · obtain ⟨i, hi', rfl⟩ := List.mem_map.1 hy
      exact (hff i (List.mem_range.1 hi')).1
    · have hj : j < ((List.range len).map f).length * 2 := by rw [← leafC_length]; exact (List.getElem?_eq_some_iff.1 hu).1
      rw [List.length_map, List.length_range] at hj
      obtain ⟨_, z1, _⟩ := hff 0 (by omega)
      rw [Nat.zero_mul] at z1
      have hsp := add_spot z1
      obtain ⟨b, off, sp⟩ := x
      simp only at hsp
      subst hsp
      have e1 : ∀ j, (⟨b, off, none⟩ : Addr).add j = ⟨b, off + j, none⟩ := fun j => by
        unfold Addr.add; split
        · next h => rw [h]; rfl
        · rfl
      obtain ⟨_, y1, y2⟩ := hff (j / 2) (by omega)
      rw [e1] at y1 y2
      obtain ⟨q1, q2⟩ := leafC_get _ _ _ (hget (j / 2) (by omega))
      refine ⟨b, off, rfl, ?_⟩
      rcases (show j = j / 2 * 2 ∨ j = j / 2 * 2 + 1 by omega) with ej | ej
      · rw [ej] at hu ⊢; rw [q1] at hu; rw [y1]; exact hu
      · rw [ej] at hu ⊢; rw [q2] at hu; rw [y2]; exact hu

end Go.Proofs.Ytnlddjlbioelnaa
