/-
  Operations that came in, told to a walk.
-/
import Derived.Test.YtdecehecjlbbiaaFrameF
import Derived.Test.YtdecehecjlbbiaaPuAct
namespace Go.Proofs.Ytdecehecjlbbiaa
open Go.ChangeShapes Go.WideShapes Go.ChangeAt Go.RowKit Go.Joins Go.Deep

/-- A slice of operations that came in: it reads as l. -/
structure IsActs (w : World) (a : Option Addr) (len cap : Nat) (l : List Ac) : Prop where
  size : l.length = len
  most : len ≤ maxLen
  each : ∀ x ∈ l, AcSmall x maxLen
  wf : ∀ x ∈ l, (Lit.int .i64 x.1).wf = true
  rd : RdA w a l

theorem isActs_of {H : Type} {enc : TypeId × Value → H} {P : Program} {t e : TypeId} {f0 f1 f2 f3 : Field} (ht : P.underlying t = some (.slice e)) (he : P.underlying e = some (.struct #[f0, f1, f2, f3])) (hone : oneCellFields P #[f0, f1, f2, f3] = true) (hC : P.cellsOf e = 4)
    (h0 : P.underlying f0.type = some (.int .i64)) (h1 : P.underlying f1.type = some .string) (h2 : P.underlying f2.type = some .string) (h3 : P.underlying f3.type = some .string) {W : World} {a : Option Addr} {len cap : Nat} {d : DataW H} {p : List MemPlace} (h : DataW.Trod enc P W 0 (fun _ => true) true t (.slice a len cap) d p) :
    ∃ l, IsActs W a len cap l := by
  obtain ⟨fuel, hf⟩ := h
  rcases open_slice ht hf with ⟨hcs, _⟩ | ⟨x, ln, c, m, n, D, Pl, hcs, _, hl, hm, hmm, _, hi⟩
  · simp [Value.cells] at hcs
    obtain ⟨rfl, rfl, rfl⟩ := hcs
    exact ⟨[], rfl, Nat.zero_le _, fun x h => by simp at h, fun x h => by simp at h, RdC.nil _ _⟩
  · simp [Value.cells] at hcs
    obtain ⟨rfl, rfl, rfl⟩ := hcs
    simp only [if_true] at hmm
    subst hmm
    have key : ∀ i, i < len → ∃ y : Ac, (AcSmall y maxLen ∧ (Lit.int .i64 y.1).wf = true) ∧ W.cell? (x.add (i * 4)) = some (.int .i64 y.1) ∧ W.cell? (x.add (i * 4 + 1)) = some (.string y.2.1) ∧ W.cell? (x.add (i * 4 + 2)) = some (.string y.2.2.1) ∧ W.cell? (x.add (i * 4 + 3)) = some (.string y.2.2.2) := by
      intro i hil
      obtain ⟨cs', hc, ht'⟩ := hi i (by omega)
      rw [hC] at hc
      obtain ⟨_, hcl, hat⟩ := World.cells?_some hc
      obtain ⟨y0, y1, y2, y3, n', _, _, g0, g1, g2, g3⟩ := trod_struct4 he ht'
      obtain ⟨o0, k0⟩ := hone_of hone 0 f0 rfl
      obtain ⟨o1, k1⟩ := hone_of hone 1 f1 rfl
      obtain ⟨o2, k2⟩ := hone_of hone 2 f2 rfl
      obtain ⟨o3, k3⟩ := hone_of hone 3 f3 rfl
      match cs', hcl with
      | [u, v, z, t3], _ =>
        rw [o0, k0] at g0
        rw [o1, k1] at g1
        rw [o2, k2] at g2
        rw [o3, k3] at g3
        obtain ⟨q, eq, _, zq⟩ := DataW.trod_int h0 (by simpa using g0)
        obtain ⟨s, es, _, zs⟩ := DataW.trod_string h1 (by simpa using g1)
        obtain ⟨r, er, _, zr⟩ := DataW.trod_string h2 (by simpa using g2)
        obtain ⟨r3, er3, _, zr3⟩ := DataW.trod_string h3 (by simpa using g3)
        simp only [List.cons.injEq, and_true] at es er eq er3
        have c0 := hat 0 (by omega)
        have c1 := hat 1 (by omega)
        have c2 := hat 2 (by omega)
        have c3 := hat 3 (by omega)
        rw [add_add] at c0 c1 c2 c3
        refine ⟨(q, s, r, r3), ⟨⟨zs, zr, zr3⟩, zq⟩, ?_, ?_, ?_, ?_⟩
        · rw [Nat.add_zero] at c0; rw [c0, ← eq]; rfl
        · rw [c1, ← es]; rfl
        · rw [c2, ← er]; rfl
        · rw [c3, ← er3]; rfl
    obtain ⟨f, hff⟩ := choose_lt key
    have hget : ∀ i, i < len → ((List.range len).map f)[i]? = some (f i) := fun i hil => by rw [List.getElem?_map, List.getElem?_range hil]; rfl
    refine ⟨(List.range len).map f, by simp, by omega, fun y hy => ?_, fun y hy => ?_, fun j u hu => ?_⟩
    · obtain ⟨i, hi', rfl⟩ := List.mem_map.1 hy
      exact (hff i (List.mem_range.1 hi')).1.1
    · obtain ⟨i, hi', rfl⟩ := List.mem_map.1 hy
      exact (hff i (List.mem_range.1 hi')).1.2
    · have hj : j < ((List.range len).map f).length * 4 := by rw [← actC_length]; exact (List.getElem?_eq_some_iff.1 hu).1
      rw [List.length_map, List.length_range] at hj
      obtain ⟨_, z1, _⟩ := hff 0 (by omega)
      rw [Nat.zero_mul] at z1
      have hsp := add_spot z1
      obtain ⟨b, off, sp⟩ := x
      simp only at hsp
      subst hsp
      have e1 : ∀ j, (⟨b, off, none⟩ : Addr).add j = ⟨b, off + j, none⟩ := fun j => by
        unfold Addr.add; split
        · next h => rw [h]; rfl
        · rfl
      obtain ⟨_, y1, y2, y3, y4⟩ := hff (j / 4) (by omega)
      rw [e1] at y1 y2 y3 y4
      obtain ⟨q1, q2, q3, q4⟩ := actC_get _ _ _ (hget (j / 4) (by omega))
      refine ⟨b, off, rfl, ?_⟩
      rcases (show j = j / 4 * 4 ∨ j = j / 4 * 4 + 1 ∨ j = j / 4 * 4 + 2 ∨ j = j / 4 * 4 + 3 by omega) with ej | ej | ej | ej
      · rw [ej] at hu ⊢; rw [q1] at hu; rw [y1]; exact hu
      · rw [ej] at hu ⊢; rw [q2] at hu; rw [y2]; exact hu
      · rw [ej] at hu ⊢; rw [q3] at hu; rw [y3]; exact hu
      · rw [ej] at hu ⊢; rw [q4] at hu; rw [y4]; exact hu

/-- One operation that came in. -/
theorem isAct_of {H : Type} {enc : TypeId × Value → H} {P : Program} {t : TypeId} {f0 f1 f2 f3 : Field} (hs : P.underlying t = some (.struct #[f0, f1, f2, f3])) (hone : oneCellFields P #[f0, f1, f2, f3] = true) (hC : P.cellsOf t = 4)
    (h0 : P.underlying f0.type = some (.int .i64)) (h1 : P.underlying f1.type = some .string) (h2 : P.underlying f2.type = some .string) (h3 : P.underlying f3.type = some .string)
    {W : World} {r : Reach} {b0 : Nat} {v : Value} {d : DataW H} {p : List MemPlace} (hv : Value.okWide P W r b0 t v) (h : DataW.Trod enc P W 0 (fun _ => true) true t v d p) :
    ∃ x : Ac, v = .agg #[.int .i64 x.1, .string x.2.1, .string x.2.2.1, .string x.2.2.2] ∧ AcSmall x maxLen ∧ (Lit.int .i64 x.1).wf = true := by
  obtain ⟨v0, v1, v2, v3, y0, y1, y2, y3, n, rfl, -, -, g0, g1, g2, g3⟩ := open_agg4 hs hone hC hv h
  obtain ⟨q, e0, -, w0⟩ := DataW.trod_int h0 g0
  obtain ⟨s, e1, -, w1⟩ := DataW.trod_string h1 (by simpa using g1)
  obtain ⟨s2, e2, -, w2⟩ := DataW.trod_string h2 (by simpa using g2)
  obtain ⟨s3, e3, -, w3⟩ := DataW.trod_string h3 (by simpa using g3)
  simp only [List.cons.injEq, and_true] at e0 e1 e2 e3
  subst e0; subst e1; subst e2; subst e3
  exact ⟨(q, s, s2, s3), rfl, ⟨w1, w2, w3⟩, w0⟩

end Go.Proofs.Ytdecehecjlbbiaa
