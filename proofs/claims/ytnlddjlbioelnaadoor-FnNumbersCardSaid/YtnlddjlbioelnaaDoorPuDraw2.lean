/-
  Plain law: more of the draws. No program in sight.
-/
import Derived.Test.YtnlddjlbioelnaaDoorPuDraw
namespace Go.Proofs.YtnlddjlbioelnaaDoor
open Go.RowKit

theorem and30 (x : Int) : 0 ≤ bits BinOp.and IntKind.i64 x 1073741823 ∧ bits BinOp.and IntKind.i64 x 1073741823 ≤ 1073741823 := by
  have h2 : ((BitVec.ofInt 64 x) &&& (BitVec.ofInt 64 1073741823)).toNat ≤ 1073741823 := by
    rw [BitVec.toNat_and]
    exact Nat.and_le_right
  have e : bits BinOp.and IntKind.i64 x 1073741823 = IntKind.i64.wrap (((BitVec.ofInt 64 x) &&& (BitVec.ofInt 64 1073741823)).toNat : Int) := rfl
  rw [e, IntKind.wrap_i64]
  omega

/-- A string, one of a list, is handed back. -/
def DrawnS (T : TypeId) (p : ByteArray → Prop) (w0 : World) (n g : Nat) (w : World) (e : Ending) (w' : World) : Prop :=
  (∃ x : ByteArray, p x ∧ e = .returned (.string x)) ∧ Cur T w0 n w' g ∧ w.grownBy w' (some g)
/-- A bool is handed back. -/
def DrawnB (T : TypeId) (w0 : World) (n g : Nat) (w : World) (e : Ending) (w' : World) : Prop :=
  (∃ x : Bool, e = .returned (.bool x)) ∧ Cur T w0 n w' g ∧ w.grownBy w' (some g)
/-- A number of a list is handed back. -/
def DrawnL (T : TypeId) (l : List Int) (w0 : World) (n g : Nat) (w : World) (e : Ending) (w' : World) : Prop :=
  (∃ x : Int, x ∈ l ∧ e = .returned (.int .i64 x)) ∧ Cur T w0 n w' g ∧ w.grownBy w' (some g)

theorem Cur.alloc {T : TypeId} {w0 w : World} {n g : Nat} (h : Cur T w0 n w g) (o : Obj) : Cur T w0 n (w.alloc o) g := h.carry ((Below.refl _ _).alloc (Nat.le_refl _) _) (Nat.le_refl _)

/-- A row that has just been made is read after the cursor has turned. -/
theorem rdC_kept {w w' : World} {ao : Option Addr} {cs : List Value} {g : Nat} (h : RdC w ao cs) (hg : w.grownBy w' (some g)) (hne : ∀ b off, ao = some ⟨b, off, none⟩ → b ≠ g) : RdC w' ao cs := by
  intro j u hu
  obtain ⟨b, off, e, hc⟩ := h j u hu
  have hlt := World.block_lt_of_cell? _ _ hc
  exact ⟨b, off, e, (World.cell?_of_block (hg.block b hlt (by intro e'; cases e'; exact hne _ _ e rfl))).trans hc⟩
theorem rdC_new (w : World) (cs : List Value) (A : Array Value) (hA : A = cs.toArray) (e : TypeId) : RdC (w.alloc (.cells A e)) (some ⟨w.heap.size, 0, none⟩) cs := by
  subst hA
  intro j x hx
  refine ⟨_, _, rfl, ?_⟩
  have e1 : (w.alloc (.cells cs.toArray e)).cell? ⟨w.heap.size, 0 + j, none⟩ = _ := World.cell?_alloc_new w _ _ (0 + j)
  rw [e1, Nat.zero_add]
  simpa using hx
theorem grownBy_alloc' {a b : World} {row : Option Nat} (h : a.grownBy b row) (o : Obj) : a.grownBy (b.alloc o) row := grownBy_trans h (grownBy_below ((Below.refl _ _).alloc (Nat.le_refl _) _) (Nat.le_refl _) row)

theorem Own.kept_only {w w' : World} {B size : Nat} {v : Value} {n : Nat} {cs : List Value} {g : Nat} (h : Own w B size v n cs) (hg : w.grownBy w' (some g)) (hgB : g < B) : Own w' B size v n cs := by
  refine h.kept hg ?_
  cases hb : v.ownBlock with
  | none => exact .inl rfl
  | some k => exact .inr (fun e => by cases e; have := (h.block _ hb).1; omega)

/-- A row of the call's own is written: the cursor stays. -/
theorem Cur.kept_row {T : TypeId} {w0 w w' : World} {n g : Nat} {row : Option Nat} (h : Cur T w0 n w g) (hg : w.grownBy w' row) (hne : row = some g → False) (hr : ∀ k, row = some k → w0.heap.size ≤ k) : Cur T w0 n w' g := by
  obtain ⟨ao, cap, i, x, hk, h0, h1, hB⟩ := h.blk
  exact ⟨h.below.grown hg h.below.size hr, h.ge, ⟨ao, cap, i, x, hk.kept hg (fun e => hne e.symm), h0, h1, hB⟩, h.small⟩
/-- What has turned is the cursor, or has been made since. -/
theorem grownBy_only {a b c : World} {row : Option Nat} {g : Nat} (h : a.grownBy b (some g)) (k : b.grownBy c row) (hr : ∀ k, row = some k → a.heap.size ≤ k) : a.grownBy c (some g) :=
  ⟨k.os.trans h.os, k.tape.trans h.tape, k.output.trans h.output, Nat.le_trans h.size k.size, fun i hi hne => (k.block i (Nat.lt_of_lt_of_le hi h.size) (by intro e; have := hr i e.symm; omega)).trans (h.block i hi hne)⟩

end Go.Proofs.YtnlddjlbioelnaaDoor
