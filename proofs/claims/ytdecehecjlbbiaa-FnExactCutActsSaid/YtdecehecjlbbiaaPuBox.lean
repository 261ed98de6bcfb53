/-
  A disk that is put into a box, in a region that draws its order: what stands in memory behind it, whenever the box was made. No program in sight.
-/
import Derived.Test.YtdecehecjlbbiaaPuDisk
import Derived.Test.YtdecehecjlbbiaaPuArr
import Derived.Test.YtdecehecjlbbiaaQuiet
namespace Go.Proofs.Ytdecehecjlbbiaa
open Go.RowKit

theorem bAlloc0 {w W : World} (h : Below w.heap.size w W) (o : Obj) : Below w.heap.size w (W.alloc o) := h.alloc h.size o
theorem bTrans0 {w W W' : World} (h : Below w.heap.size w W) (h2 : Below W.heap.size W W') : Below w.heap.size w W' := h.trans (h2.mono h.size)
theorem bSet0 {w W : World} {n : Nat} (h : Below w.heap.size w W) (hn : w.heap.size ≤ n) (u : Value) : Below w.heap.size w (W.setCell ⟨n, 0, none⟩ u) := h.setCell hn u
theorem bDrew0 (w : World) : Below w.heap.size w w.drew := bDrewN (Below.refl _ _) 1
theorem Blk.new_drew (w : World) (t : TypeId) (cs : List Value) (A : Array Value) (hA : A = cs.toArray) : Blk (w.drew.alloc (.cells A t)) w.heap.size t cs := Blk.new w.drew t cs A hA
/-- A disk's row of the call's own, and its box. -/
structure BoxedRow (w w' : World) (l : List Fl) (T : TypeId) (q : Option Addr) (k n : Nat) : Prop where
  low : Below w.heap.size w w'
  blk : Blk w' n T [.slice q l.length k]
  own : Own w' w.heap.size 3 (.slice q l.length k) l.length (fileC l)
  ne : (Value.slice q l.length k).ownBlock = some n → False
  ge : w.heap.size ≤ n
theorem BoxedRow.late {w w' : World} {l : List Fl} {q : Option Addr} {k : Nat} (hk : Below w.heap.size w w') (ho : Own w' w.heap.size 3 (.slice q l.length k) l.length (fileC l)) (T : TypeId) : BoxedRow w (w'.alloc (.cells #[.slice q l.length k] T)) l T q k w'.heap.size :=
  ⟨bAlloc0 hk _, Blk.new w' T _ _ rfl, Own.alloc ho _, fun e => by have := (Own.block ho _ e).2; omega, hk.size⟩
theorem BoxedRow.early {w w' : World} {l : List Fl} {q : Option Addr} {k n B : Nat} {T : TypeId} {u : Value} (bk : Blk w' n T [u]) (hn : w.heap.size ≤ n) (hB : n < B) (ho : Own w' B 3 (.slice q l.length k) l.length (fileC l)) (hk : Below w.heap.size w w') : BoxedRow w (w'.setCell ⟨n, 0, none⟩ (.slice q l.length k)) l T q k n :=
  ⟨bSet0 hk hn _, Blk.set_ bk 0 _, (Own.setCell ho (a := ⟨n, 0, none⟩) hB _).mono (by omega), fun e => by have := (Own.block ho _ e).1; omega, hn⟩
/-- The ways through a region are joined behind it. -/
theorem region_join {P : Program} {c : Code} {Q : Exit → Act → World → Prop} {a : Act} {w : World} (F : Value → Option Addr → Nat → Nat → Act) (Post : Option Addr → Nat → Nat → World → Prop)
    (h : c.wp P (fun e a' w' => e = .normal ∧ ∃ v q k n, a' = F v q k n ∧ Post q k n w') a w) (hk : ∀ v q k n w', Post q k n w' → Q .normal (F v q k n) w') : c.wp P Q a w :=
  Code.wp_mono (fun e a' w' ⟨he, v, q, k, n, ha, hp⟩ => by subst he; subst ha; exact hk v q k n w' hp) h

end Go.Proofs.Ytdecehecjlbbiaa
