/-
  A table of numbers that stands in a block (a package-level array), and the digest's two tables. No program in sight.
-/
import Derived.Test.YtcehbmlibfalaaaDoorPuCells
namespace Go.Proofs.YtcehbmlibfalaaaDoor
open Go.RowKit

/-- Block g holds these numbers. -/
def TabAt (w : World) (g : Nat) (k : IntKind) (zs : List Int) : Prop := ∀ i x, zs[i]? = some x → w.cell? ⟨g, i, none⟩ = some (.int k x)
theorem TabAt.below {w w' : World} {g : Nat} {k : IntKind} {zs : List Int} {C : Nat} (h : TabAt w g k zs) (hb : Below C w w') (hC : w.heap.size ≤ C) : TabAt w' g k zs := by
  intro i x hx
  have hc := h i x hx
  have hlt := World.block_lt_of_cell? _ _ hc
  exact (hb.cell (p := ⟨g, i, none⟩) (Nat.lt_of_lt_of_le hlt hC)).trans hc

/-- 'a[i]' of an array of numbers by value. -/
theorem idx_arr {P : Program} {t e : TypeId} {n : Nat} {kk k : IntKind} (ht : P.underlying t = some (.array n e)) (he' : P.underlying e = some (.int kk)) (he : (P.info? e).map (·.size) = some 1) (cs : Array Value) (i : Nat) (hi : i < n) (x : Int) (hx : cs[i]? = some (.int kk x)) (w : World) :
    (Instr.index t (.agg cs) (.int k (i : Int))).run P w = .ok (.int kk x) w := by
  obtain ⟨inf, h1, h2⟩ := Option.map_eq_some_iff.1 he
  have h3 : (0 : Int) ≤ (i : Int) ∧ (i : Int) < (n : Int) := by omega
  have e1 : ∀ w', (sizeOf e).run P w' = .ok 1 w' := fun w' => by simp [sizeOf, run_typeInfo w' h1, h2]
  have e2 : ∀ w', (isAgg e).run P w' = .ok false w' := fun w' => by simp [isAgg, run_underlying he']
  simp [Instr.index, run_underlying ht, asIntOf, hi, go_sem, e1, e2, hx]

theorem alloc_at (w : World) (o : Obj) : (w.alloc o).heap[w.heap.size]? = some o := by
  show (w.heap.push o)[w.heap.size]? = some o
  simp
theorem alloc_size (w : World) (o : Obj) : (w.alloc o).heap.size = w.heap.size + 1 := by
  show (w.heap.push o).size = _
  simp
theorem tab_new (w : World) (zs : List Int) (k : IntKind) (t : TypeId) : TabAt (w.alloc (.cells (zs.map (Value.int k)).toArray t)) w.heap.size k zs := by
  intro i x hx
  have e1 : (w.alloc (.cells (zs.map (Value.int k)).toArray t)).cell? ⟨w.heap.size, i, none⟩ = _ := World.cell?_alloc_new w _ _ i
  rw [e1]
  simp [hx]
theorem TabAt.alloc {w : World} {g : Nat} {k : IntKind} {zs : List Int} (h : TabAt w g k zs) (o : Obj) : TabAt (w.alloc o) g k zs :=
  h.below ((Below.refl w.heap.size w).alloc (Nat.le_refl _) o) (Nat.le_refl _)

/-- The first words. -/
def startL : List Int := [1779033703, 3144134277, 1013904242, 2773480762, 1359893119, 2600822924, 528734635, 1541459225]
end Go.Proofs.YtcehbmlibfalaaaDoor
