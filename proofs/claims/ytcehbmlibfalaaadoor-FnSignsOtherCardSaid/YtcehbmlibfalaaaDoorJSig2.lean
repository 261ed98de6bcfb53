/-
  The walks of a law's marks on a signature, of their reading, and of its copy.
-/
import Derived.Test.YtcehbmlibfalaaaDoorJSig1
namespace Go.Proofs.YtcehbmlibfalaaaDoor
open Go.RowKit

/-- Nothing that stood has turned but blocks from lo on and below hi. -/
structure Within (lo hi : Nat) (w w' : World) : Prop where
  os : w'.os = w.os
  tape : w'.tape = w.tape
  output : w'.output = w.output
  size : w.heap.size ≤ w'.heap.size
  block : ∀ k, k < w.heap.size → ¬ (lo ≤ k ∧ k < hi) → w'.heap[k]? = w.heap[k]?
theorem Within.refl (lo hi : Nat) (w : World) : Within lo hi w w := ⟨rfl, rfl, rfl, Nat.le_refl _, fun _ _ _ => rfl⟩
theorem Within.trans {lo hi : Nat} {a b c : World} (h : Within lo hi a b) (k : Within lo hi b c) : Within lo hi a c :=
  ⟨k.os.trans h.os, k.tape.trans h.tape, k.output.trans h.output, Nat.le_trans h.size k.size, fun j hj hn => (k.block j (Nat.lt_of_lt_of_le hj h.size) hn).trans (h.block j hj hn)⟩
theorem Within.of_grown {lo hi : Nat} {w w' : World} {row : Option Nat} (h : w.grownBy w' row) (hr : ∀ k, row = some k → lo ≤ k ∧ k < hi) : Within lo hi w w' :=
  ⟨h.os, h.tape, h.output, h.size, fun k hk hn => h.block k hk (fun e => hn (hr k e.symm))⟩
theorem Within.of_below {lo hi C : Nat} {w w' : World} (h : Below C w w') (hC : w.heap.size ≤ C) : Within lo hi w w' :=
  ⟨h.os, h.tape, h.output, h.size, fun k hk _ => h.block k (Nat.lt_of_lt_of_le hk hC)⟩
theorem Within.below {lo hi B : Nat} {w w' : World} (h : Within lo hi w w') (hB : B ≤ lo) (hw : B ≤ w.heap.size) : Below B w w' :=
  ⟨h.os, h.tape, h.output, h.size, fun k hk => h.block k (by omega) (by omega)⟩
theorem RdS.within {lo hi : Nat} {w1 w w' : World} {ao : Option Addr} {l : List ByteArray} (h : RdS w ao l) (h1 : RdS w1 ao l) (hw : Within lo hi w w') (hlo : w1.heap.size ≤ lo) : RdS w' ao l := by
  intro j x hx
  obtain ⟨b, off, e, hc⟩ := h j x hx
  obtain ⟨b', off', e', hc'⟩ := h1 j x hx
  have e2 : b = b' := by rw [e] at e'; cases e'; rfl
  subst e2
  have hlt := World.block_lt_of_cell? _ _ hc
  have hlt' := World.block_lt_of_cell? _ _ hc'
  exact ⟨b, off, e, (World.cell?_of_block (hw.block b hlt (by simp only at hlt'; omega))).trans hc⟩
theorem RdSig.within {lo hi : Nat} {w1 w w' : World} {v : Value} {p : Int} {o s d : List ByteArray} (h : RdSig w v p o s d) (h1 : RdSig w1 v p o s d) (hw : Within lo hi w w') (hlo : w1.heap.size ≤ lo) : RdSig w' v p o s d := by
  obtain ⟨a1, c1, a2, c2, a3, c3, e, r1, r2, r3⟩ := h
  obtain ⟨b1, k1, b2, k2, b3, k3, e', q1, q2, q3⟩ := h1
  rw [e] at e'
  injection e' with e'
  simp only [Array.mk.injEq, List.cons.injEq, Value.slice.injEq, and_true, true_and] at e'
  obtain ⟨⟨rfl, -⟩, ⟨rfl, -⟩, rfl, -⟩ := e'
  exact ⟨_, c1, _, c2, _, c3, e, r1.within q1 hw hlo, r2.within q2 hw hlo, r3.within q3 hw hlo⟩

end Go.Proofs.YtcehbmlibfalaaaDoor
