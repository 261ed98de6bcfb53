/-
  A signature that came in, told to a walk.
-/
import Derived.Test.YtnlddjlbioelnaaFrameS
import Derived.Lib.SmallJoins
namespace Go.Proofs.Ytnlddjlbioelnaa
open Go.ChangeShapes Go.WideShapes Go.ChangeAt Go.RowKit Go.Joins Go.Deep

/-- A signature that came in: its rows read as o, s and d. -/
structure IsSig (w : World) (p : Int) (a1 a2 a3 : Option Addr) (c1 c2 c3 : Nat) (o s d : List ByteArray) : Prop where
  wf : (Lit.int .i64 p).wf = true
  o : IsStrs w a1 o.length c1 o
  s : IsStrs w a2 s.length c2 s
  d : IsStrs w a3 d.length c3 d

theorem isSig_of {H : Type} {enc : TypeId × Value → H} {P : Program} {t e : TypeId} {f0 f1 f2 f3 : Field} (hs : P.underlying t = some (.struct #[f0, f1, f2, f3])) (hone : oneCellFields P #[f0, f1, f2, f3] = true) (hC : P.cellsOf t = 4)
    (h0 : P.underlying f0.type = some (.int .i64)) (h1 : P.underlying f1.type = some (.slice e)) (h2 : P.underlying f2.type = some (.slice e)) (h3 : P.underlying f3.type = some (.slice e)) (he : P.underlying e = some .string) (hce : P.cellsOf e = 1)
    {W : World} {r : Reach} {b0 : Nat} {v : Value} {d : DataW H} {p : List MemPlace} (hv : Value.okWide P W r b0 t v) (h : DataW.Trod enc P W 0 (fun _ => true) true t v d p) :
    ∃ q a1 a2 a3 c1 c2 c3 o s g, v = .agg #[.int .i64 q, .slice a1 o.length c1, .slice a2 s.length c2, .slice a3 g.length c3] ∧ IsSig W q a1 a2 a3 c1 c2 c3 o s g := by
  obtain ⟨v0, v1, v2, v3, y0, y1, y2, y3, n, rfl, -, -, g0, g1, g2, g3⟩ := open_agg4 hs hone hC hv h
  obtain ⟨q, e0, -, w0⟩ := DataW.trod_int h0 g0
  obtain ⟨a1, l1, c1, e1⟩ := slice_form h1 g1
  obtain ⟨a2, l2, c2, e2⟩ := slice_form h2 g2
  obtain ⟨a3, l3, c3, e3⟩ := slice_form h3 g3
  simp only [List.cons.injEq, and_true] at e0 e1 e2 e3
  subst e0; subst e1; subst e2; subst e3
  obtain ⟨o, k1⟩ := isStrs_of h1 he hce (enc := enc) (d := y1.1) (p := y1.2) ⟨n, by simpa [Value.cells] using g1⟩
  obtain ⟨s, k2⟩ := isStrs_of h2 he hce (enc := enc) (d := y2.1) (p := y2.2) ⟨n, by simpa [Value.cells] using g2⟩
  obtain ⟨g, k3⟩ := isStrs_of h3 he hce (enc := enc) (d := y3.1) (p := y3.2) ⟨n, by simpa [Value.cells] using g3⟩
  obtain rfl := k1.size
  obtain rfl := k2.size
  obtain rfl := k3.size
  exact ⟨q, a1, a2, a3, c1, c2, c3, o, s, g, rfl, w0, k1, k2, k3⟩

end Go.Proofs.Ytnlddjlbioelnaa
