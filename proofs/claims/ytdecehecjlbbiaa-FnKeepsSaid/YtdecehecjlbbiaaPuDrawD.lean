/-
  A disk that is drawn: the cursor, the disk's row and its box, step by step. No program in sight.
-/
import Derived.Test.YtdecehecjlbbiaaPuDraw2
import Derived.Test.YtdecehecjlbbiaaPuKeep
import Derived.Test.YtdecehecjlbbiaaQuiet
namespace Go.Proofs.Ytdecehecjlbbiaa
open Go.RowKit

/-- A disk l under work: its row u lies in box db; g is the cursor, rb the box of the result; rows lie from B on. Nothing that was in world w has turned but the cursor. -/
structure DiskSt (w wC : World) (T TD : TypeId) (n g db rb B : Nat) (l : List Fl) (u : Value) (W : World) : Prop where
  cur : Cur T wC n W g
  own : Own W B 3 u l.length (fileC l)
  box : Blk W db TD [u]
  res : Blk W rb TD [.slice none 0 0]
  size : B ≤ W.heap.size
  low : w.grownBy W (some g)
  gB : g < B
  dB : db < B
  rB : rb < B
  dg : db ≠ g
  rg : rb ≠ g
  dr : db ≠ rb
  wd : w.heap.size ≤ db
  wr : w.heap.size ≤ rb
  cd : wC.heap.size ≤ db
  wB : w.heap.size ≤ B

theorem DiskSt.drawn {w wC W W' : World} {T TD : TypeId} {n g db rb B : Nat} {l : List Fl} {u : Value} (h : DiskSt w wC T TD n g db rb B l u W) (hc : Cur T wC n W' g) (hg : W.grownBy W' (some g)) : DiskSt w wC T TD n g db rb B l u W' :=
  ⟨hc, Own.kept_only h.own hg h.gB, h.box.kept hg (fun e => h.dg (Option.some.inj e)), h.res.kept hg (fun e => h.rg (Option.some.inj e)), Nat.le_trans h.size hg.size, grownBy_trans h.low hg, h.gB, h.dB, h.rB, h.dg, h.rg, h.dr, h.wd, h.wr, h.cd, h.wB⟩
theorem DiskSt.below {w wC W W' : World} {T TD : TypeId} {n g db rb B : Nat} {l : List Fl} {u : Value} (h : DiskSt w wC T TD n g db rb B l u W) (hb : Below W.heap.size W W') : DiskSt w wC T TD n g db rb B l u W' :=
  ⟨h.cur.carry hb (Nat.le_refl _), Own.below h.own hb (Nat.le_refl _), h.box.below hb h.box.lt, h.res.below hb h.res.lt, Nat.le_trans h.size hb.size, grownBy_trans h.low (grownBy_below hb (Nat.le_refl _) _), h.gB, h.dB, h.rB, h.dg, h.rg, h.dr, h.wd, h.wr, h.cd, h.wB⟩
theorem Cur.drewN {T : TypeId} {w0 w : World} {n g : Nat} (h : Cur T w0 n w g) (q : Nat) : Cur T w0 n (w.drewN q) g := h.carry (bDrewN (Below.refl _ _) q) (Nat.le_refl _)
theorem DiskSt.drewN {w wC W : World} {T TD : TypeId} {n g db rb B : Nat} {l : List Fl} {u : Value} (h : DiskSt w wC T TD n g db rb B l u W) (q : Nat) : DiskSt w wC T TD n g db rb B l u (W.drewN q) := h.below (bDrewN (Below.refl _ _) q)
theorem DiskSt.cell {w wC W : World} {T TD : TypeId} {n g db rb B : Nat} {l : List Fl} {u : Value} (h : DiskSt w wC T TD n g db rb B l u W) : W.cell? ⟨db, 0, none⟩ = some u := h.box.cell 0
theorem DiskSt.rd {w wC W : World} {T TD : TypeId} {n g db rb B : Nat} {l : List Fl} {u : Value} (h : DiskSt w wC T TD n g db rb B l u W) : RdK W (.agg #[u]) l := OwnK.rd ⟨rfl, h.own⟩
/-- Another row goes into the box. -/
theorem DiskSt.put {w wC W : World} {T TD : TypeId} {n g db rb B : Nat} {l : List Fl} {u : Value} (h : DiskSt w wC T TD n g db rb B l u W) {l' : List Fl} {u' : Value} {B' : Nat} (ho : Own W B' 3 u' l'.length (fileC l')) (hB : B ≤ B') : DiskSt w wC T TD n g db rb B l' u' (W.setCell ⟨db, 0, none⟩ u') := by
  have hg : W.grownBy (W.setCell ⟨db, 0, none⟩ u') (some db) := grownBy_set (World.grownBy.refl _ _) _ _
  have hd := h.dB
  exact ⟨h.cur.kept_row hg (fun e => h.dg (Option.some.inj e)) (fun k e => by cases e; exact h.cd), (Own.setCell (a := ⟨db, 0, none⟩) ho (by simp only; omega) u').mono hB, h.box.set_ 0 u', h.res.far (p := ⟨db, 0, none⟩) (fun e => h.dr e.symm) _, Nat.le_trans h.size hg.size, grownBy_only h.low hg (fun k e => by cases e; exact h.wd), h.gB, h.dB, h.rB, h.dg, h.rg, h.dr, h.wd, h.wr, h.cd, h.wB⟩

end Go.Proofs.Ytdecehecjlbbiaa
