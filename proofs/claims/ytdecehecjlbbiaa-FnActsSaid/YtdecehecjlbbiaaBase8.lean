/-
  What the walks of this claim lean on, joined: plain laws, no code of the seat.
-/
import Derived.Test.YtdecehecjlbbiaaBase7
import Derived.Test.YtdecehecjlbbiaaBase4
import Derived.Test.YtdecehecjlbbiaaBase6

/-
  A disk that is drawn: the cursor, the disk's row and its box, step by step. No program in sight.
-/
namespace Go.Proofs.Ytdecehecjlbbiaa
open Go.RowKit

/-- A disk l under work: its row u lies in box db; g is the cursor, rb the box of the result; rows lie from B on. Nothing that was in world w has turned but the cursor. -/
structure DiskSt (w wC : World) (T TD : TypeId) (n g db rb B : Nat) (l : List Fl) (u : Value) (W : World) : Prop where
  cur : Cur T wC n W g
  own : Own W B 3 u l.length (fileC l)
  box : Blk W db TD [u]
  res : Blk W rb TD [.slice none 0 0]
  size : B ≤ W.heap.size
  low : w.grownBy W (some g)
  gB : g < B
  dB : db < B
  rB : rb < B
  dg : db ≠ g
  rg : rb ≠ g
  dr : db ≠ rb
  wd : w.heap.size ≤ db
  wr : w.heap.size ≤ rb
  cd : wC.heap.size ≤ db
  wB : w.heap.size ≤ B

theorem DiskSt.drawn {w wC W W' : World} {T TD : TypeId} {n g db rb B : Nat} {l : List Fl} {u : Value} (h : DiskSt w wC T TD n g db rb B l u W) (hc : Cur T wC n W' g) (hg : W.grownBy W' (some g)) : DiskSt w wC T TD n g db rb B l u W' :=
  ⟨hc, Own.kept_only h.own hg h.gB, h.box.kept hg (fun e => h.dg (Option.some.inj e)), h.res.kept hg (fun e => h.rg (Option.some.inj e)), Nat.le_trans h.size hg.size, grownBy_trans h.low hg, h.gB, h.dB, h.rB, h.dg, h.rg, h.dr, h.wd, h.wr, h.cd, h.wB⟩
theorem DiskSt.below {w wC W W' : World} {T TD : TypeId} {n g db rb B : Nat} {l : List Fl} {u : Value} (h : DiskSt w wC T TD n g db rb B l u W) (hb : Below W.heap.size W W') : DiskSt w wC T TD n g db rb B l u W' :=
  ⟨h.cur.carry hb (Nat.le_refl _), Own.below h.own hb (Nat.le_refl _), h.box.below hb h.box.lt, h.res.below hb h.res.lt, Nat.le_trans h.size hb.size, grownBy_trans h.low (grownBy_below hb (Nat.le_refl _) _), h.gB, h.dB, h.rB, h.dg, h.rg, h.dr, h.wd, h.wr, h.cd, h.wB⟩
theorem Cur.drewN {T : TypeId} {w0 w : World} {n g : Nat} (h : Cur T w0 n w g) (q : Nat) : Cur T w0 n (w.drewN q) g := h.carry (bDrewN (Below.refl _ _) q) (Nat.le_refl _)
theorem DiskSt.drewN {w wC W : World} {T TD : TypeId} {n g db rb B : Nat} {l : List Fl} {u : Value} (h : DiskSt w wC T TD n g db rb B l u W) (q : Nat) : DiskSt w wC T TD n g db rb B l u (W.drewN q) := h.below (bDrewN (Below.refl _ _) q)
theorem DiskSt.cell {w wC W : World} {T TD : TypeId} {n g db rb B : Nat} {l : List Fl} {u : Value} (h : DiskSt w wC T TD n g db rb B l u W) : W.cell? ⟨db, 0, none⟩ = some u := h.box.cell 0
theorem DiskSt.rd {w wC W : World} {T TD : TypeId} {n g db rb B : Nat} {l : List Fl} {u : Value} (h : DiskSt w wC T TD n g db rb B l u W) : RdK W (.agg #[u]) l := OwnK.rd ⟨rfl, h.own⟩
/-- Another row goes into the box. -/
theorem DiskSt.put {w wC W : World} {T TD : TypeId} {n g db rb B : Nat} {l : List Fl} {u : Value} (h : DiskSt w wC T TD n g db rb B l u W) {l' : List Fl} {u' : Value} {B' : Nat} (ho : Own W B' 3 u' l'.length (fileC l')) (hB : B ≤ B') : DiskSt w wC T TD n g db rb B l' u' (W.setCell ⟨db, 0, none⟩ u') := by
  have hg : W.grownBy (W.setCell ⟨db, 0, none⟩ u') (some db) := grownBy_set (World.grownBy.refl _ _) _ _
  have hd := h.dB
  exact ⟨h.cur.kept_row hg (fun e => h.dg (Option.some.inj e)) (fun k e => by cases e; exact h.cd), (Own.setCell (a := ⟨db, 0, none⟩) ho (by simp only; omega) u').mono hB, h.box.set_ 0 u', h.res.far (p := ⟨db, 0, none⟩) (fun e => h.dr e.symm) _, Nat.le_trans h.size hg.size, grownBy_only h.low hg (fun k e => by cases e; exact h.wd), h.gB, h.dB, h.rB, h.dg, h.rg, h.dr, h.wd, h.wr, h.cd, h.wB⟩

/-- An operation's four cells. -/
def acC (x : Ac) : List Value := [.int .i64 x.1, .string x.2.1, .string x.2.2.1, .string x.2.2.2]
/-- An operation x under work: its box is ab, that of the result rb; g is the cursor. -/
structure ActSt (w wC : World) (T TA : TypeId) (n g ab rb : Nat) (x : Ac) (W : World) : Prop where
  cur : Cur T wC n W g
  box : Blk W ab TA (acC x)
  res : Blk W rb TA [.int .i64 0, .string ⟨#[]⟩, .string ⟨#[]⟩, .string ⟨#[]⟩]
  low : w.grownBy W (some g)
  ag : ab ≠ g
  rg : rb ≠ g
  ar : ab ≠ rb
  wa : w.heap.size ≤ ab
  wr : w.heap.size ≤ rb
  ca : wC.heap.size ≤ ab
theorem ActSt.drawn {w wC W W' : World} {T TA : TypeId} {n g ab rb : Nat} {x : Ac} (h : ActSt w wC T TA n g ab rb x W) (hc : Cur T wC n W' g) (hg : W.grownBy W' (some g)) : ActSt w wC T TA n g ab rb x W' :=
  ⟨hc, h.box.kept hg (fun e => h.ag (Option.some.inj e)), h.res.kept hg (fun e => h.rg (Option.some.inj e)), grownBy_trans h.low hg, h.ag, h.rg, h.ar, h.wa, h.wr, h.ca⟩
theorem ActSt.below {w wC W W' : World} {T TA : TypeId} {n g ab rb : Nat} {x : Ac} (h : ActSt w wC T TA n g ab rb x W) (hb : Below W.heap.size W W') : ActSt w wC T TA n g ab rb x W' :=
  ⟨h.cur.carry hb (Nat.le_refl _), h.box.below hb h.box.lt, h.res.below hb h.res.lt, grownBy_trans h.low (grownBy_below hb (Nat.le_refl _) _), h.ag, h.rg, h.ar, h.wa, h.wr, h.ca⟩
theorem ActSt.cells {w wC W : World} {T TA : TypeId} {n g ab rb : Nat} {x : Ac} (h : ActSt w wC T TA n g ab rb x W) : W.cell? ⟨ab, 0, none⟩ = some (.int .i64 x.1) ∧ W.cell? ⟨ab, 1, none⟩ = some (.string x.2.1) ∧ W.cell? ⟨ab, 2, none⟩ = some (.string x.2.2.1) ∧ W.cell? ⟨ab, 3, none⟩ = some (.string x.2.2.2) :=
  ⟨h.box.cell 0, h.box.cell 1, h.box.cell 2, h.box.cell 3⟩
theorem ActSt.set_ {w wC W : World} {T TA : TypeId} {n g ab rb : Nat} {x : Ac} (h : ActSt w wC T TA n g ab rb x W) (i : Nat) (u : Value) (y : Ac) (hy : (acC x).set i u = acC y) : ActSt w wC T TA n g ab rb y (W.setCell ⟨ab, i, none⟩ u) := by
  have hg : W.grownBy (W.setCell ⟨ab, i, none⟩ u) (some ab) := grownBy_set (World.grownBy.refl _ _) _ _
  exact ⟨h.cur.kept_row hg (fun e => h.ag (Option.some.inj e)) (fun k e => by cases e; exact h.ca), by rw [← hy]; exact h.box.set_ i u, h.res.far (p := ⟨ab, i, none⟩) (fun e => h.ar e.symm) _, grownBy_only h.low hg (fun k e => by cases e; exact h.wa), h.ag, h.rg, h.ar, h.wa, h.wr, h.ca⟩
/-- It is handed back through the result's box. -/
theorem ActSt.done {w wC W : World} {T TA : TypeId} {n g ab rb : Nat} {x : Ac} (h : ActSt w wC T TA n g ab rb x W) (hcr : wC.heap.size ≤ rb) :
    Blk ((((W.setCell ⟨rb, 0, none⟩ (.int .i64 x.1)).setCell ⟨rb, 1, none⟩ (.string x.2.1)).setCell ⟨rb, 2, none⟩ (.string x.2.2.1)).setCell ⟨rb, 3, none⟩ (.string x.2.2.2)) rb TA (acC x) ∧
    Cur T wC n ((((W.setCell ⟨rb, 0, none⟩ (.int .i64 x.1)).setCell ⟨rb, 1, none⟩ (.string x.2.1)).setCell ⟨rb, 2, none⟩ (.string x.2.2.1)).setCell ⟨rb, 3, none⟩ (.string x.2.2.2)) g ∧
    w.grownBy ((((W.setCell ⟨rb, 0, none⟩ (.int .i64 x.1)).setCell ⟨rb, 1, none⟩ (.string x.2.1)).setCell ⟨rb, 2, none⟩ (.string x.2.2.1)).setCell ⟨rb, 3, none⟩ (.string x.2.2.2)) (some g) := by
  have hg : W.grownBy ((((W.setCell ⟨rb, 0, none⟩ (.int .i64 x.1)).setCell ⟨rb, 1, none⟩ (.string x.2.1)).setCell ⟨rb, 2, none⟩ (.string x.2.2.1)).setCell ⟨rb, 3, none⟩ (.string x.2.2.2)) (some rb) := grownBy_set (grownBy_set (grownBy_set (grownBy_set (World.grownBy.refl _ _) _ _) _ _) _ _) _ _
  exact ⟨(((h.res.set_ 0 _).set_ 1 _).set_ 2 _).set_ 3 _, h.cur.kept_row hg (fun e => h.rg (Option.some.inj e)) (fun k e => by cases e; exact hcr), grownBy_only h.low hg (fun k e => by cases e; exact h.wr)⟩

end Go.Proofs.Ytdecehecjlbbiaa

/-
  A list of operations that is drawn: the cursor, the disk's box, the list's row. No program in sight.
-/
namespace Go.Proofs.Ytdecehecjlbbiaa
open Go.RowKit

theorem doV_small' {l : List Fl} (a : Ac) : FlSmall (doV l a).1 := by
  by_cases h : (doV l a).2 = true
  · exact doV_small h
  · have e : (doV l a).1 = [] := by
      unfold doV at h ⊢
      split <;> simp_all
    rw [e]; exact ⟨Nat.zero_le _, fun x hx => by simp at hx⟩

theorem ownBlock_slice (b off n c : Nat) : (Value.slice (some ⟨b, off, none⟩) n c).ownBlock = some b ∨ off ≠ 0 := by
  by_cases h : off = 0
  · subst h; exact .inl rfl
  · exact .inr h

/-- A row of files and a row of operations lie apart. -/
theorem rows_apart {w : World} {ao : Option Addr} {v : Value} {B : Nat} {l : List Fl} {q : List Ac} (h1 : RdF w ao l) (h0 : ∀ b off, ao = some ⟨b, off, none⟩ → off = 0) (h2 : Own w B 4 v q.length (actC q)) (hl : l ≠ []) (hq : q ≠ []) :
    ∀ b off, ao = some ⟨b, off, none⟩ → v.ownBlock ≠ some b := by
  intro b off e hv
  obtain rfl := h0 b off e
  obtain ⟨x, l, rfl⟩ := List.exists_cons_of_ne_nil hl
  obtain ⟨y, q, rfl⟩ := List.exists_cons_of_ne_nil hq
  obtain ⟨b', off', e', hc⟩ := h1 0 (.string x.1) rfl
  rw [e] at e'
  injection e' with e'
  injection e' with e1 e2 e3
  subst e1; subst e2
  rcases h2 with ⟨hv', hn, _⟩ | ⟨g, cap, hv', _, r⟩
  · simp at hn
  · subst hv'
    have hgb : g = b := Option.some.inj hv
    subst hgb
    have := r.holds 0 (by simp)
    rw [Nat.zero_add] at hc
    rw [hc] at this
    exact absurd this (by simp [actC])

/-- Operations q under work, and the disk m that they lead to: its box is db, its row ao; v is the list's row; g is the cursor. -/
structure ActsSt (w w0 : World) (T TD : TypeId) (n g db : Nat) (m : List Fl) (ao : Option Addr) (c : Nat) (q : List Ac) (v : Value) (W : World) : Prop where
  cur : Cur T w0 n W g
  box : Blk W db TD [.slice ao m.length c]
  rd : RdF W ao m
  own : Own W (db + 1) 4 v q.length (actC q)
  low : w.grownBy W (some g)
  ug : ∀ b off, ao = some ⟨b, off, none⟩ → b ≠ g
  apart : m ≠ [] → ∀ b off, ao = some ⟨b, off, none⟩ → v.ownBlock ≠ some b
  gd : g < db
  wd : w.heap.size ≤ db
  cd : w0.heap.size ≤ db

theorem ActsSt.drawn {w w0 W W' : World} {T TD : TypeId} {n g db c : Nat} {m : List Fl} {ao : Option Addr} {q : List Ac} {v : Value} (h : ActsSt w w0 T TD n g db m ao c q v W) (hc : Cur T w0 n W' g) (hg : W.grownBy W' (some g)) : ActsSt w w0 T TD n g db m ao c q v W' :=
  ⟨hc, h.box.kept hg (fun e => by have := Option.some.inj e; have := h.gd; omega), rdC_kept h.rd hg h.ug, Own.kept_only h.own hg (by have := h.gd; omega), grownBy_trans h.low hg, h.ug, h.apart, h.gd, h.wd, h.cd⟩
theorem ActsSt.below {w w0 W W' : World} {T TD : TypeId} {n g db c : Nat} {m : List Fl} {ao : Option Addr} {q : List Ac} {v : Value} (h : ActsSt w w0 T TD n g db m ao c q v W) (hb : Below W.heap.size W W') : ActsSt w w0 T TD n g db m ao c q v W' :=
  ⟨h.cur.carry hb (Nat.le_refl _), h.box.below hb h.box.lt, RdF.below h.rd hb (Nat.le_refl _), Own.below h.own hb (Nat.le_refl _), grownBy_trans h.low (grownBy_below hb (Nat.le_refl _) _), h.ug, h.apart, h.gd, h.wd, h.cd⟩
theorem ActsSt.cell {w w0 W : World} {T TD : TypeId} {n g db c : Nat} {m : List Fl} {ao : Option Addr} {q : List Ac} {v : Value} (h : ActsSt w w0 T TD n g db m ao c q v W) : W.cell? ⟨db, 0, none⟩ = some (.slice ao m.length c) := h.box.cell 0
theorem ActsSt.rdk {w w0 W : World} {T TD : TypeId} {n g db c : Nat} {m : List Fl} {ao : Option Addr} {q : List Ac} {v : Value} (h : ActsSt w w0 T TD n g db m ao c q v W) : RdK W (.agg #[.slice ao m.length c]) m := ⟨ao, c, rfl, h.rd⟩

theorem Own.fileRow {w : World} {B : Nat} {ao : Option Addr} {c : Nat} {m : List Fl} (h : Own w B 3 (.slice ao m.length c) m.length (fileC m)) : RdF w ao m ∧ (∀ b off, ao = some ⟨b, off, none⟩ → off = 0 ∧ B ≤ b ∧ b < w.heap.size) := by
  obtain ⟨ao', c', e, hr⟩ := h.rdC
  cases e
  refine ⟨hr, fun b off e => ?_⟩
  rcases h with ⟨h0, _⟩ | ⟨g', cap', he, hB, r⟩
  · injection h0 with e1; rw [e1] at e; cases e
  · cases he; cases e
    exact ⟨rfl, hB, r.lt⟩

/-- One operation more, and the disk that it leads to. -/
theorem ActsSt.next {w w0 W0 W W' : World} {T TD : TypeId} {n g db c c' : Nat} {m m' : List Fl} {ao ao' : Option Addr} {q : List Ac} {v v' : Value} {a : Ac} (h : ActsSt w w0 T TD n g db m ao c q v W) (h0 : Own W0 (db + 1) 4 v q.length (actC q)) (hd0 : db < W0.heap.size)
    (hrow : Own W W0.heap.size 3 (.slice ao' m'.length c') m'.length (fileC m')) (hg : W.grownBy W' v.ownBlock) (ho : Own W' (db + 1) 4 v' (q ++ [a]).length (actC (q ++ [a]))) :
    ActsSt w w0 T TD n g db m' ao' c' (q ++ [a]) v' (W'.setCell ⟨db, 0, none⟩ (.slice ao' m'.length c')) := by
  have hgd := h.gd
  have hwd := h.wd
  have hcd := h.cd
  obtain ⟨hrd, hab⟩ := Own.fileRow hrow
  have hvb : ∀ k, v.ownBlock = some k → db + 1 ≤ k ∧ k < W0.heap.size := h0.block
  have hrd' : RdF W' ao' m' := by
    intro j u hu
    obtain ⟨b, off, e, hc⟩ := hrd j u hu
    refine ⟨b, off, e, (World.cell?_of_block (hg.block b (World.block_lt_of_cell? _ _ hc) (fun e' => ?_))).trans hc⟩
    have := hvb _ e'.symm
    have := (hab b off e).2.1
    omega
  have hgs : W'.grownBy (W'.setCell ⟨db, 0, none⟩ (.slice ao' m'.length c')) (some db) := grownBy_set (World.grownBy.refl _ _) _ _
  have hrd2 : RdF (W'.setCell ⟨db, 0, none⟩ (.slice ao' m'.length c')) ao' m' := by
    intro j u hu
    obtain ⟨b, off, e, hc⟩ := hrd' j u hu
    refine ⟨b, off, e, (World.cell?_of_block (hgs.block b (World.block_lt_of_cell? _ _ hc) (fun e' => ?_))).trans hc⟩
    have := Option.some.inj e'
    have := (hab b off e).2.1
    omega
  have ho2 := Own.setCell (a := ⟨db, 0, none⟩) ho (by simp only; omega) (.slice ao' m'.length c')
  have hc1 : Cur T w0 n W' g := h.cur.kept_row hg (fun e => by have := hvb _ e; omega) (fun k e => by have := hvb _ e; omega)
  exact ⟨hc1.kept_row hgs (fun e => by have := Option.some.inj e; omega) (fun k e => by cases e; exact hcd),
    (Blk.kept h.box hg (fun e => by have := hvb _ e.symm; omega)).set_ 0 _, hrd2, ho2,
    grownBy_only (grownBy_only h.low hg (fun k e => by have := hvb _ e; omega)) hgs (fun k e => by cases e; exact hwd),
    fun b off e => by have := (hab b off e).2.1; omega,
    fun hm => rows_apart hrd2 (fun b off e => (hab b off e).1) ho2 hm (by simp), hgd, hwd, hcd⟩

/-- Operations are handed back. -/
def DrawnAcs (T : TypeId) (w0 : World) (n g : Nat) (w : World) (e : Ending) (w' : World) : Prop := (∃ v q, e = .returned v ∧ OwnA w' w.heap.size v q ∧ q.length ≤ 9 ∧ ∀ x ∈ q, AcSmall x 100) ∧ Cur T w0 n w' g ∧ w.grownBy w' (some g)
/-- Numbers are handed back. -/
def DrawnIs (T : TypeId) (w0 : World) (n g : Nat) (w : World) (e : Ending) (w' : World) : Prop := (∃ v l, e = .returned v ∧ OwnI w' w.heap.size v l ∧ l.length ≤ 6) ∧ Cur T w0 n w' g ∧ w.grownBy w' (some g)
/-- A disk is handed back. -/
def DrawnDk (T : TypeId) (w0 : World) (n g : Nat) (w : World) (e : Ending) (w' : World) : Prop := (∃ l, FlSmall l ∧ GivesK w.heap.size l e w') ∧ Cur T w0 n w' g ∧ w.grownBy w' (some g)

end Go.Proofs.Ytdecehecjlbbiaa

/-
  A disk that is put into a box, in a region that draws its order: what stands in memory behind it, whenever the box was made. No program in sight.
-/
namespace Go.Proofs.Ytdecehecjlbbiaa
open Go.RowKit

theorem bAlloc0 {w W : World} (h : Below w.heap.size w W) (o : Obj) : Below w.heap.size w (W.alloc o) := h.alloc h.size o
theorem bTrans0 {w W W' : World} (h : Below w.heap.size w W) (h2 : Below W.heap.size W W') : Below w.heap.size w W' := h.trans (h2.mono h.size)
theorem bSet0 {w W : World} {n : Nat} (h : Below w.heap.size w W) (hn : w.heap.size ≤ n) (u : Value) : Below w.heap.size w (W.setCell ⟨n, 0, none⟩ u) := h.setCell hn u
theorem bDrew0 (w : World) : Below w.heap.size w w.drew := bDrewN (Below.refl _ _) 1
theorem Blk.new_drew (w : World) (t : TypeId) (cs : List Value) (A : Array Value) (hA : A = cs.toArray) : Blk (w.drew.alloc (.cells A t)) w.heap.size t cs := Blk.new w.drew t cs A hA
/-- A disk's row of the call's own, and its box. -/
structure BoxedRow (w w' : World) (l : List Fl) (T : TypeId) (q : Option Addr) (k n : Nat) : Prop where
  low : Below w.heap.size w w'
  blk : Blk w' n T [.slice q l.length k]
  own : Own w' w.heap.size 3 (.slice q l.length k) l.length (fileC l)
  ne : (Value.slice q l.length k).ownBlock = some n → False
  ge : w.heap.size ≤ n
theorem BoxedRow.late {w w' : World} {l : List Fl} {q : Option Addr} {k : Nat} (hk : Below w.heap.size w w') (ho : Own w' w.heap.size 3 (.slice q l.length k) l.length (fileC l)) (T : TypeId) : BoxedRow w (w'.alloc (.cells #[.slice q l.length k] T)) l T q k w'.heap.size :=
  ⟨bAlloc0 hk _, Blk.new w' T _ _ rfl, Own.alloc ho _, fun e => by have := (Own.block ho _ e).2; omega, hk.size⟩
theorem BoxedRow.early {w w' : World} {l : List Fl} {q : Option Addr} {k n B : Nat} {T : TypeId} {u : Value} (bk : Blk w' n T [u]) (hn : w.heap.size ≤ n) (hB : n < B) (ho : Own w' B 3 (.slice q l.length k) l.length (fileC l)) (hk : Below w.heap.size w w') : BoxedRow w (w'.setCell ⟨n, 0, none⟩ (.slice q l.length k)) l T q k n :=
  ⟨bSet0 hk hn _, Blk.set_ bk 0 _, (Own.setCell ho (a := ⟨n, 0, none⟩) hB _).mono (by omega), fun e => by have := (Own.block ho _ e).1; omega, hn⟩
/-- The ways through a region are joined behind it. -/
theorem region_join {P : Program} {c : Code} {Q : Exit → Act → World → Prop} {a : Act} {w : World} (F : Value → Option Addr → Nat → Nat → Act) (Post : Option Addr → Nat → Nat → World → Prop)
    (h : c.wp P (fun e a' w' => e = .normal ∧ ∃ v q k n, a' = F v q k n ∧ Post q k n w') a w) (hk : ∀ v q k n w', Post q k n w' → Q .normal (F v q k n) w') : c.wp P Q a w :=
  Code.wp_mono (fun e a' w' ⟨he, v, q, k, n, ha, hp⟩ => by subst he; subst ha; exact hk v q k n w' hp) h

end Go.Proofs.Ytdecehecjlbbiaa
