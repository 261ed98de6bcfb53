/-
  Signatures: how they are read and owned. No program in sight.
-/
import Derived.Test.YtcehbmlibfalaaaDoorPuStrs
import Derived.Test.YtcehbmlibfalaaaDoorPuPool
namespace Go.Proofs.YtcehbmlibfalaaaDoor
open Go.RowKit

/-- A signature's value. -/
def sigV (p : Int) (vo vs vd : Value) : Value := .agg #[.int .i64 p, vo, vs, vd]
/-- A signature that came in reads so. -/
def RdSig (w : World) (v : Value) (p : Int) (o s d : List ByteArray) : Prop :=
  ∃ a1 c1 a2 c2 a3 c3, v = .agg #[.int .i64 p, .slice a1 o.length c1, .slice a2 s.length c2, .slice a3 d.length c3] ∧ RdS w a1 o ∧ RdS w a2 s ∧ RdS w a3 d
theorem RdSig.below {w w' : World} {v : Value} {p : Int} {o s d : List ByteArray} {C : Nat} (h : RdSig w v p o s d) (hb : Below C w w') (hC : w.heap.size ≤ C) : RdSig w' v p o s d := by
  obtain ⟨a1, c1, a2, c2, a3, c3, e, h1, h2, h3⟩ := h
  exact ⟨a1, c1, a2, c2, a3, c3, e, h1.below hb hC, h2.below hb hC, h3.below hb hC⟩
/-- A signature of the call's own: its rows are apart, and lie from B on and below C. -/
structure OwnSig (w : World) (B C : Nat) (v : Value) (p : Int) (vo vs vd : Value) (o s d : List ByteArray) : Prop where
  eq : v = .agg #[.int .i64 p, vo, vs, vd]
  o : OwnS w B vo o
  s : OwnS w B vs s
  d : OwnS w B vd d
  os : vs.ownBlock = none ∨ vs.ownBlock ≠ vo.ownBlock
  od : vd.ownBlock = none ∨ vd.ownBlock ≠ vo.ownBlock
  sd : vd.ownBlock = none ∨ vd.ownBlock ≠ vs.ownBlock
  lo : ∀ k, vo.ownBlock = some k → k < C
  ls : ∀ k, vs.ownBlock = some k → k < C
  ld : ∀ k, vd.ownBlock = some k → k < C
theorem OwnSig.rd {w : World} {B C : Nat} {v : Value} {p : Int} {vo vs vd : Value} {o s d : List ByteArray} (h : OwnSig w B C v p vo vs vd o s d) : RdSig w v p o s d := by
  obtain ⟨a1, c1, eo, h1⟩ := h.o.rd
  obtain ⟨a2, c2, es, h2⟩ := h.s.rd
  obtain ⟨a3, c3, ed, h3⟩ := h.d.rd
  exact ⟨a1, c1, a2, c2, a3, c3, by rw [h.eq, eo, es, ed], h1, h2, h3⟩
theorem OwnSig.below {w w' : World} {B C D : Nat} {v : Value} {p : Int} {vo vs vd : Value} {o s d : List ByteArray} (h : OwnSig w B C v p vo vs vd o s d) (hb : Below D w w') (hD : w.heap.size ≤ D) : OwnSig w' B C v p vo vs vd o s d :=
  { h with o := h.o.below hb hD, s := h.s.below hb hD, d := h.d.below hb hD }

end Go.Proofs.YtcehbmlibfalaaaDoor
