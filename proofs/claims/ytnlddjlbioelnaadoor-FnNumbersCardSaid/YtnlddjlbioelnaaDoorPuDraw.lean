/-
  The draws' cursor, told by what it may be: bytes, a place among them, a number; the answers told by their ranges. No program in sight.
-/
import Derived.Test.YtnlddjlbioelnaaDoorPuArr
import Derived.Test.YtnlddjlbioelnaaDoorPuShaB
namespace Go.Proofs.YtnlddjlbioelnaaDoor
open Go.RowKit

/-- Bytes that stand at ao. -/
def Bytes (w : World) (ao : Option Addr) (n : Nat) : Prop :=
  ∀ j, j < n → ∃ b off z, ao = some ⟨b, off, none⟩ ∧ (0 : Int) ≤ z ∧ z ≤ 255 ∧ w.cell? ⟨b, off + j, none⟩ = some (.int .u8 z)
theorem Bytes.below {w w' : World} {ao : Option Addr} {n C : Nat} (h : Bytes w ao n) (hb : Below C w w') (hC : w.heap.size ≤ C) : Bytes w' ao n := by
  intro j hj
  obtain ⟨b, off, z, e, h0, h1, hc⟩ := h j hj
  have hlt := World.block_lt_of_cell? _ _ hc
  exact ⟨b, off, z, e, h0, h1, (hb.cell (p := ⟨b, off + j, none⟩) (Nat.lt_of_lt_of_le hlt hC)).trans hc⟩

/-- A cursor over n bytes that came in with world w0: its three cells are block g of world w. -/
structure Cur (T : TypeId) (w0 : World) (n : Nat) (w : World) (g : Nat) : Prop where
  below : Below w0.heap.size w0 w
  ge : w0.heap.size ≤ g
  blk : ∃ ao cap i h, Blk w g T [.slice ao n cap, .int .i64 i, .int .i64 h] ∧ 0 ≤ i ∧ i ≤ (n : Int) ∧ Bytes w0 ao n
  small : n ≤ 1048576

theorem Cur.carry {T : TypeId} {w0 w w' : World} {n g C : Nat} (h : Cur T w0 n w g) (hb : Below C w w') (hC : w.heap.size ≤ C) : Cur T w0 n w' g := by
  obtain ⟨ao, cap, i, x, hk, h0, h1, hB⟩ := h.blk
  have hs := h.below.size
  exact ⟨h.below.trans (hb.mono (by omega)), h.ge, ⟨ao, cap, i, x, hk.below hb (Nat.lt_of_lt_of_le hk.lt hC), h0, h1, hB⟩, h.small⟩
theorem Cur.lt {T : TypeId} {w0 w : World} {n g : Nat} (h : Cur T w0 n w g) : g < w.heap.size := by
  obtain ⟨_, _, _, _, hk, _⟩ := h.blk
  exact hk.lt

/-- A number in a range is handed back; the cursor is there still, and nothing but it has turned. -/
def DrawnI (T : TypeId) (lo hi : Int) (w0 : World) (n g : Nat) (w : World) (e : Ending) (w' : World) : Prop :=
  (∃ x : Int, lo ≤ x ∧ x ≤ hi ∧ e = .returned (.int .i64 x)) ∧ Cur T w0 n w' g ∧ w.grownBy w' (some g)

theorem and255 (x : Int) : 0 ≤ bits BinOp.and IntKind.i64 x 255 ∧ bits BinOp.and IntKind.i64 x 255 ≤ 255 := by
  have h2 : ((BitVec.ofInt 64 x) &&& (BitVec.ofInt 64 255)).toNat ≤ 255 := by
    rw [BitVec.toNat_and]
    exact Nat.and_le_right
  have e : bits BinOp.and IntKind.i64 x 255 = IntKind.i64.wrap (((BitVec.ofInt 64 x) &&& (BitVec.ofInt 64 255)).toNat : Int) := rfl
  rw [e, IntKind.wrap_i64]
  omega

theorem grownBy_trans {a b c : World} {row : Option Nat} (h : a.grownBy b row) (k : b.grownBy c row) : a.grownBy c row :=
  ⟨k.os.trans h.os, k.tape.trans h.tape, k.output.trans h.output, Nat.le_trans h.size k.size, fun i hi hne => (k.block i (Nat.lt_of_lt_of_le hi h.size) hne).trans (h.block i hi hne)⟩
theorem grownBy_below {a b : World} {C : Nat} (h : Below C a b) (hC : a.heap.size ≤ C) (row : Option Nat) : a.grownBy b row :=
  ⟨h.os, h.tape, h.output, h.size, fun i hi _ => h.block i (Nat.lt_of_lt_of_le hi hC)⟩
theorem grownBy_drewN {a b : World} {row : Option Nat} (h : a.grownBy b row) (n : Nat) : a.grownBy (b.drewN n) row := ⟨h.os, h.tape, h.output, h.size, h.block⟩
theorem grownBy_set {a b : World} {g : Nat} (h : a.grownBy b (some g)) (o : Nat) (u : Value) : a.grownBy (b.setCell ⟨g, o, none⟩ u) (some g) :=
  ⟨h.os, h.tape, h.output, by simpa [World.setCell] using h.size, fun i hi hne => (Below.heap_setCell _ _ _ _ (by intro e; exact hne (by rw [e]))).trans (h.block i hi hne)⟩
theorem below_only {a b : World} {g C : Nat} (h : a.grownBy b (some g)) (hg : C ≤ g) (hC : C ≤ a.heap.size) : Below C a b :=
  (Below.refl C a).grown h hC (fun k hk => by cases hk; exact hg)

end Go.Proofs.YtnlddjlbioelnaaDoor
