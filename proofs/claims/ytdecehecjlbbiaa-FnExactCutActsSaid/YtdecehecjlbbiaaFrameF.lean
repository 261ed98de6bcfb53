/-
  A disk that came in, told to a walk.
-/
import Derived.Test.YtdecehecjlbbiaaFrameS
import Derived.Test.YtdecehecjlbbiaaPuFile
import Derived.Lib.SmallJoins
namespace Go.Proofs.Ytdecehecjlbbiaa
open Go.ChangeShapes Go.WideShapes Go.ChangeAt Go.RowKit Go.Joins Go.Deep

/-- A slice of files that came in: it reads as l. -/
structure IsFiles (w : World) (a : Option Addr) (len cap : Nat) (l : List Fl) : Prop where
  size : l.length = len
  most : len ≤ maxLen
  each : ∀ x ∈ l, x.1.size ≤ maxLen ∧ x.2.1.size ≤ maxLen
  rd : RdF w a l

theorem isFiles_of {H : Type} {enc : TypeId × Value → H} {P : Program} {t e : TypeId} {f0 f1 f2 : Field} (ht : P.underlying t = some (.slice e)) (he : P.underlying e = some (.struct #[f0, f1, f2])) (hone : oneCellFields P #[f0, f1, f2] = true) (hC : P.cellsOf e = 3)
    (h0 : P.underlying f0.type = some .string) (h1 : P.underlying f1.type = some .string) (h2 : P.underlying f2.type = some (.int .i64)) {W : World} {a : Option Addr} {len cap : Nat} {d : DataW H} {p : List MemPlace} (h : DataW.Trod enc P W 0 (fun _ => true) true t (.slice a len cap) d p) :
    ∃ l, IsFiles W a len cap l := by
  obtain ⟨fuel, hf⟩ := h
  rcases open_slice ht hf with ⟨hcs, _⟩ | ⟨x, ln, c, m, n, D, Pl, hcs, _, hl, hm, hmm, _, hi⟩
  · simp [Value.cells] at hcs
    obtain ⟨rfl, rfl, rfl⟩ := hcs
    exact ⟨[], rfl, Nat.zero_le _, fun x h => by simp at h, RdC.nil _ _⟩
  · simp [Value.cells] at hcs
    obtain ⟨rfl, rfl, rfl⟩ := hcs
    simp only [if_true] at hmm
    subst hmm
    have key : ∀ i, i < len → ∃ y : Fl, (y.1.size ≤ maxLen ∧ y.2.1.size ≤ maxLen ∧ (Lit.int .i64 y.2.2).wf = true) ∧ W.cell? (x.add (i * 3)) = some (.string y.1) ∧ W.cell? (x.add (i * 3 + 1)) = some (.string y.2.1) ∧ W.cell? (x.add (i * 3 + 2)) = some (.int .i64 y.2.2) := by
      intro i hil
      obtain ⟨cs', hc, ht'⟩ := hi i (by omega)
      rw [hC] at hc
      obtain ⟨_, hcl, hat⟩ := World.cells?_some hc
      obtain ⟨y0, y1, y2, n', _, _, g0, g1, g2⟩ := trod_struct3 he ht'
      obtain ⟨o0, k0⟩ := hone_of hone 0 f0 rfl
      obtain ⟨o1, k1⟩ := hone_of hone 1 f1 rfl
      obtain ⟨o2, k2⟩ := hone_of hone 2 f2 rfl
      match cs', hcl with
      | [u, v, z], _ =>
        rw [o0, k0] at g0
        rw [o1, k1] at g1
        rw [o2, k2] at g2
        obtain ⟨s, es, _, zs⟩ := DataW.trod_string h0 (by simpa using g0)
        obtain ⟨r, er, _, zr⟩ := DataW.trod_string h1 (by simpa using g1)
        obtain ⟨q, eq, _, zq⟩ := DataW.trod_int h2 (by simpa using g2)
        simp only [List.cons.injEq, and_true] at es er eq
        have c0 := hat 0 (by omega)
        have c1 := hat 1 (by omega)
        have c2 := hat 2 (by omega)
        rw [add_add] at c0 c1 c2
        refine ⟨(s, r, q), ⟨zs, zr, zq⟩, ?_, ?_, ?_⟩
        · rw [Nat.add_zero] at c0; rw [c0, ← es]; rfl
        · rw [c1, ← er]; rfl
        · rw [c2, ← eq]; rfl
    obtain ⟨f, hff⟩ := choose_lt key
    have hget : ∀ i, i < len → ((List.range len).map f)[i]? = some (f i) := fun i hil => by rw [List.getElem?_map, List.getElem?_range hil]; rfl
    refine ⟨(List.range len).map f, by simp, by omega, fun y hy => ?_, fun j u hu => ?_⟩
    · obtain ⟨i, hi', rfl⟩ := List.mem_map.1 hy
      exact ⟨(hff i (List.mem_range.1 hi')).1.1, (hff i (List.mem_range.1 hi')).1.2.1⟩
    · have hj : j < ((List.range len).map f).length * 3 := by rw [← fileC_length]; exact (List.getElem?_eq_some_iff.1 hu).1
      rw [List.length_map, List.length_range] at hj
      obtain ⟨_, z1, _⟩ := hff 0 (by omega)
      rw [Nat.zero_mul] at z1
      have hsp := add_spot z1
      obtain ⟨b, off, sp⟩ := x
      simp only at hsp
      subst hsp
      have e1 : ∀ j, (⟨b, off, none⟩ : Addr).add j = ⟨b, off + j, none⟩ := fun j => by
        unfold Addr.add; split
        · next h => rw [h]; rfl
        · rfl
      obtain ⟨_, y1, y2, y3⟩ := hff (j / 3) (by omega)
      rw [e1] at y1 y2 y3
      obtain ⟨q1, q2, q3⟩ := fileC_get _ _ _ (hget (j / 3) (by omega))
      refine ⟨b, off, rfl, ?_⟩
      rcases (show j = j / 3 * 3 ∨ j = j / 3 * 3 + 1 ∨ j = j / 3 * 3 + 2 by omega) with ej | ej | ej
      · rw [ej] at hu ⊢; rw [q1] at hu; rw [y1]; exact hu
      · rw [ej] at hu ⊢; rw [q2] at hu; rw [y2]; exact hu
      · rw [ej] at hu ⊢; rw [q3] at hu; rw [y3]; exact hu

theorem isDisk_of {H : Type} {enc : TypeId × Value → H} {P : Program} {td e : TypeId} {g f0 f1 f2 : Field} (hs : P.underlying td = some (.struct #[g])) (hone1 : oneCellFields P #[g] = true) (hC1 : P.cellsOf td = 1) (ht : P.underlying g.type = some (.slice e)) (he : P.underlying e = some (.struct #[f0, f1, f2])) (hone : oneCellFields P #[f0, f1, f2] = true) (hC : P.cellsOf e = 3)
    (h0 : P.underlying f0.type = some .string) (h1 : P.underlying f1.type = some .string) (h2 : P.underlying f2.type = some (.int .i64)) {W : World} {r : Reach} {b0 : Nat} {v : Value} {d : DataW H} {p : List MemPlace} (hv : Value.okWide P W r b0 td v) (h : DataW.Trod enc P W 0 (fun _ => true) true td v d p) :
    ∃ a len cap l, v = .agg #[.slice a len cap] ∧ IsFiles W a len cap l := by
  obtain ⟨⟨cs⟩, rfl, hsz⟩ := okWide_struct hs hv
  obtain ⟨fuel, hf⟩ := h
  obtain ⟨y0, n, _, _, g0⟩ := trod_struct1 hs hf
  obtain ⟨o0, k0⟩ := hone_of hone1 0 g rfl
  rw [hC1] at hsz
  match cs, hsz with
  | [u], _ =>
    rw [o0, k0] at g0
    have g1 : DataW.trod enc P W 0 (fun _ => true) true n g.type [u] = some y0 := by simpa [Value.cells] using g0
    obtain ⟨a, len, cap, eu⟩ := slice_form ht g1
    simp only [List.cons.injEq, and_true] at eu
    subst eu
    obtain ⟨l, hl⟩ := isFiles_of ht he hone hC h0 h1 h2 (enc := enc) (d := y0.1) (p := y0.2) ⟨n, by simpa [Value.cells] using g1⟩
    exact ⟨a, len, cap, l, rfl, hl⟩

theorem apart_sym {a b : Option Nat} (h : b = none ∨ b ≠ a) : a = none ∨ a ≠ b := by
  rcases h with rfl | h
  · cases a with
    | none => exact .inl rfl
    | some x => exact .inr (by simp)
  · exact .inr (Ne.symm h)

end Go.Proofs.Ytdecehecjlbbiaa
