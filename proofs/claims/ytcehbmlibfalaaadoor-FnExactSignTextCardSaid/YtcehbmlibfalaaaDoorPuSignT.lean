/-
  Plain law: what signs a text; a signature under work, its three rows apart. No program in sight.
-/
import Derived.Test.YtcehbmlibfalaaaDoorPuSigF
import Derived.Test.YtcehbmlibfalaaaDoorPuSig
import Derived.Test.YtcehbmlibfalaaaDoorKit4
import Derived.Test.YtcehbmlibfalaaaDoorPuArr
namespace Go.Proofs.YtcehbmlibfalaaaDoor
open Go.RowKit

def opnTo (s : ByteArray) (a b : Int) (n : Nat) : List ByteArray := (List.range n).map fun j => txt (secretL s a (j : Nat) (bitOf b (j : Nat)))
def shtTo (s : ByteArray) (a b : Int) (n : Nat) : List ByteArray := (List.range n).map fun j => txt (lockL (txt (secretL s a (j : Nat) (1 - bitOf b (j : Nat)))))
def sidTo (l : List ByteArray) (a : Nat) (n : Nat) : List ByteArray := (List.range n).map fun j => (upN j l).getD ((a / 2 ^ j) ^^^ 1) ByteArray.empty
theorem opnTo_next (s : ByteArray) (a b : Int) (n : Nat) : opnTo s a b (n + 1) = opnTo s a b n ++ [txt (secretL s a (n : Nat) (bitOf b (n : Nat)))] := by
  unfold opnTo; rw [List.range_succ, List.map_append, List.map_singleton]
theorem shtTo_next (s : ByteArray) (a b : Int) (n : Nat) : shtTo s a b (n + 1) = shtTo s a b n ++ [txt (lockL (txt (secretL s a (n : Nat) (1 - bitOf b (n : Nat)))))] := by
  unfold shtTo; rw [List.range_succ, List.map_append, List.map_singleton]
theorem sidTo_next {l : List ByteArray} {a n : Nat} {x : ByteArray} (hx : (upN n l)[(a / 2 ^ n) ^^^ 1]? = some x) : sidTo l a (n + 1) = sidTo l a n ++ [x] := by
  unfold sidTo; rw [List.range_succ, List.map_append, List.map_singleton, List.getD_eq_getElem?_getD, hx]; rfl
theorem opnTo_len (s : ByteArray) (a b : Int) (n : Nat) : (opnTo s a b n).length = n := by simp [opnTo]
theorem shtTo_len (s : ByteArray) (a b : Int) (n : Nat) : (shtTo s a b n).length = n := by simp [shtTo]
theorem sidTo_len (l : List ByteArray) (a n : Nat) : (sidTo l a n).length = n := by simp [sidTo]
/-- The place beside. -/
theorem beside_xor {k : Nat} (h : k < 16) : bits BinOp.xor IntKind.i64 (k : Int) 1 = ((k ^^^ 1 : Nat) : Int) := by
  have : ∀ k : Fin 16, bits BinOp.xor IntKind.i64 ((k.val : Nat) : Int) 1 = ((k.val ^^^ 1 : Nat) : Int) := by decide +kernel
  exact this ⟨k, h⟩
theorem beside_lt {a j : Nat} (ha : a < 16) (hj : j < 4) : a / 2 ^ j < 2 ^ (4 - j) ∧ (a / 2 ^ j) ^^^ 1 < 2 ^ (4 - j) := by
  have : ∀ (a : Fin 16) (j : Fin 4), a.val / 2 ^ j.val < 2 ^ (4 - j.val) ∧ (a.val / 2 ^ j.val) ^^^ 1 < 2 ^ (4 - j.val) := by decide +kernel
  exact this ⟨a, ha⟩ ⟨j, hj⟩
theorem bit_range (b : Int) (j : Nat) : 0 ≤ bitOf b (j : Nat) ∧ bitOf b (j : Nat) ≤ 1 := by
  unfold bitOf
  split
  · have h2 : ∀ x : Int, ((BitVec.ofInt 64 x) &&& (BitVec.ofInt 64 1)).toNat ≤ 1 := fun x => by
      rw [BitVec.toNat_and]
      exact Nat.and_le_right
    have e : ∀ x : Int, bits BinOp.and IntKind.i64 x 1 = IntKind.i64.wrap (((BitVec.ofInt 64 x) &&& (BitVec.ofInt 64 1)).toNat : Int) := fun x => rfl
    have h3 := h2 (b / 2 ^ (7 - (j : Int)).toNat)
    rw [e, IntKind.wrap_i64]
    omega
  · omega

def SignGood (s : ByteArray) (l : List ByteArray) (a : Int) (t : ByteArray) : Prop := (l.length = 16 ∧ (0 ≤ a ∧ a ≤ 15) ∧ t.size ≤ 200) ∧ s.size ≤ 100 ∧ l[a.toNat]? = some (txt (pubL s a))
instance (s : ByteArray) (l : List ByteArray) (a : Int) (t : ByteArray) : Decidable (SignGood s l a t) := by unfold SignGood; infer_instance
/-- The two results. -/
def signR (s : ByteArray) (l : List ByteArray) (a : Int) (t : ByteArray) : (Int × List ByteArray × List ByteArray × List ByteArray) × Bool :=
  if SignGood s l a t then ((a, opnTo s a (signB t : Nat) 8, shtTo s a (signB t : Nat) 8, sidTo l a.toNat 4), true) else ((0, [], [], []), false)
theorem signR_yes {s : ByteArray} {l : List ByteArray} {a : Int} {t : ByteArray} (h : SignGood s l a t) : signR s l a t = ((a, opnTo s a (signB t : Nat) 8, shtTo s a (signB t : Nat) 8, sidTo l a.toNat 4), true) := if_pos h
theorem signR_no {s : ByteArray} {l : List ByteArray} {a : Int} {t : ByteArray} (h : ¬ SignGood s l a t) : signR s l a t = ((0, [], [], []), false) := if_neg h
theorem signR_len (s : ByteArray) (l : List ByteArray) (a : Int) (t : ByteArray) : (signR s l a t).1.2.1.length ≤ 8 ∧ (signR s l a t).1.2.2.1.length ≤ 8 ∧ (signR s l a t).1.2.2.2.length ≤ 4 := by
  unfold signR
  split
  · simp [opnTo_len, shtTo_len, sidTo_len]
  · simp
/-- A signature of the call's own and a bool are handed back. -/
def GivesSig2 (B : Nat) (r : (Int × List ByteArray × List ByteArray × List ByteArray) × Bool) (e : Ending) (w' : World) : Prop :=
  ∃ v vo vs vd, e = .returned (.tuple #[v, .bool r.2]) ∧ OwnSig w' B w'.heap.size v r.1.1 vo vs vd r.1.2.1 r.1.2.2.1 r.1.2.2.2
theorem OwnSig.none_yet (w : World) (B C : Nat) (p : Int) : OwnSig w B C (.agg #[.int .i64 p, .slice none 0 0, .slice none 0 0, .slice none 0 0]) p (.slice none 0 0) (.slice none 0 0) (.slice none 0 0) [] [] [] :=
  ⟨rfl, Own.nil _ _ _, Own.nil _ _ _, Own.nil _ _ _, .inl rfl, .inl rfl, .inl rfl, (fun k hk => by cases hk), (fun k hk => by cases hk), (fun k hk => by cases hk)⟩

/-- A signature under work: its box is block sb, that of the result rb; its rows lie from B on. -/
structure SignSt (w : World) (T : TypeId) (rb sb B : Nat) (p : Int) (vo vs vd : Value) (o s d : List ByteArray) (W : World) : Prop where
  sig : OwnSig W B W.heap.size (.agg #[.int .i64 p, vo, vs, vd]) p vo vs vd o s d
  box : Blk W sb T [.int .i64 p, vo, vs, vd]
  res : Blk W rb T [.int .i64 0, .slice none 0 0, .slice none 0 0, .slice none 0 0]
  size : B ≤ W.heap.size
  low : Below w.heap.size w W
  sB : sb < B
  rB : rb < B
  rs : rb ≠ sb
  ws : w.heap.size ≤ sb
  wr : w.heap.size ≤ rb
section
variable {w W W' : World} {T : TypeId} {rb sb B : Nat} {p : Int} {vo vs vd : Value} {o s d : List ByteArray}
theorem SignSt.below (h : SignSt w T rb sb B p vo vs vd o s d W) (hb : Below W.heap.size W W') : SignSt w T rb sb B p vo vs vd o s d W' :=
  ⟨{ h.sig.below hb (Nat.le_refl _) with lo := fun k hk => Nat.lt_of_lt_of_le (h.sig.lo k hk) hb.size, ls := fun k hk => Nat.lt_of_lt_of_le (h.sig.ls k hk) hb.size, ld := fun k hk => Nat.lt_of_lt_of_le (h.sig.ld k hk) hb.size },
    h.box.below hb h.box.lt, h.res.below hb h.res.lt, Nat.le_trans h.size hb.size, h.low.trans (hb.mono h.low.size), h.sB, h.rB, h.rs, h.ws, h.wr⟩
theorem SignSt.cells (h : SignSt w T rb sb B p vo vs vd o s d W) : W.cell? ⟨sb, 0, none⟩ = some (.int .i64 p) ∧ W.cell? ⟨sb, 1, none⟩ = some vo ∧ W.cell? ⟨sb, 2, none⟩ = some vs ∧ W.cell? ⟨sb, 3, none⟩ = some vd :=
  ⟨h.box.cell 0, h.box.cell 1, h.box.cell 2, h.box.cell 3⟩
theorem apart_sym' {u v : Value} (h : u.ownBlock = none ∨ u.ownBlock ≠ v.ownBlock) : v.ownBlock = none ∨ v.ownBlock ≠ u.ownBlock := by
  rcases h with h | h
  · cases hv : v.ownBlock with
    | none => exact .inl rfl
    | some k => exact .inr (by rw [h]; simp)
  · exact .inr (fun e => h e.symm)
theorem SignSt.stored (h : SignSt w T rb sb B p vo vs vd o s d W) {row : Option Nat} (hg : W.grownBy W' row) (hr : ∀ k, row = some k → B ≤ k) (i : Nat) (u : Value) : Blk (W'.setCell ⟨sb, i, none⟩ u) sb T ([.int .i64 p, vo, vs, vd].set i u) ∧ Blk (W'.setCell ⟨sb, i, none⟩ u) rb T [.int .i64 0, .slice none 0 0, .slice none 0 0, .slice none 0 0] ∧ B ≤ (W'.setCell ⟨sb, i, none⟩ u).heap.size ∧ Below w.heap.size w (W'.setCell ⟨sb, i, none⟩ u) := by
  have hs := h.sB
  have hrb := h.rB
  have hz : (W'.setCell ⟨sb, i, none⟩ u).heap.size = W'.heap.size := by simp [World.setCell]
  have hw : w.heap.size ≤ B := by have := h.ws; omega
  refine ⟨(h.box.kept hg (fun e => by have := hr _ e.symm; omega)).set_ i u, (h.res.kept hg (fun e => by have := hr _ e.symm; omega)).far (p := ⟨sb, i, none⟩) (by simpa using h.rs) _, by rw [hz]; exact Nat.le_trans h.size hg.size, ?_⟩
  exact (h.low.grown hg h.low.size (fun k hk => by have := hr k hk; omega)).setCell (p := ⟨sb, i, none⟩) h.ws _
theorem SignSt.pushO (h : SignSt w T rb sb B p vo vs vd o s d W) {u : Value} {l : List ByteArray} (ho : OwnS W' B u l) (hg : W.grownBy W' vo.ownBlock) (hp : ∀ k, u.ownBlock = some k → vo.ownBlock = some k ∨ W.heap.size ≤ k) : SignSt w T rb sb B p u vs vd l s d (W'.setCell ⟨sb, 1, none⟩ u) := by
  obtain ⟨h1, h2, h3, h4⟩ := h.stored hg (fun k hk => (Own.block h.sig.o _ hk).1) 1 u
  have hz : (W'.setCell ⟨sb, 1, none⟩ u).heap.size = W'.heap.size := by simp [World.setCell]
  have hsz := hg.size
  exact ⟨⟨rfl, Own.setCell ho (a := ⟨sb, 1, none⟩) h.sB _, Own.setCell (Own.kept h.sig.s hg h.sig.os) (a := ⟨sb, 1, none⟩) h.sB _, Own.setCell (Own.kept h.sig.d hg h.sig.od) (a := ⟨sb, 1, none⟩) h.sB _, apart_grow h.sig.os h.sig.ls hp, apart_grow h.sig.od h.sig.ld hp, h.sig.sd,
    fun k hk => by rw [hz]; exact (Own.block ho _ hk).2, fun k hk => by rw [hz]; have := h.sig.ls k hk; omega, fun k hk => by rw [hz]; have := h.sig.ld k hk; omega⟩, h1, h2, h3, h4, h.sB, h.rB, h.rs, h.ws, h.wr⟩
theorem SignSt.pushS (h : SignSt w T rb sb B p vo vs vd o s d W) {u : Value} {l : List ByteArray} (ho : OwnS W' B u l) (hg : W.grownBy W' vs.ownBlock) (hp : ∀ k, u.ownBlock = some k → vs.ownBlock = some k ∨ W.heap.size ≤ k) : SignSt w T rb sb B p vo u vd o l d (W'.setCell ⟨sb, 2, none⟩ u) := by
  obtain ⟨h1, h2, h3, h4⟩ := h.stored hg (fun k hk => (Own.block h.sig.s _ hk).1) 2 u
  have hz : (W'.setCell ⟨sb, 2, none⟩ u).heap.size = W'.heap.size := by simp [World.setCell]
  have hsz := hg.size
  exact ⟨⟨rfl, Own.setCell (Own.kept h.sig.o hg (apart_sym' h.sig.os)) (a := ⟨sb, 2, none⟩) h.sB _, Own.setCell ho (a := ⟨sb, 2, none⟩) h.sB _, Own.setCell (Own.kept h.sig.d hg h.sig.sd) (a := ⟨sb, 2, none⟩) h.sB _, apart_sym' (apart_grow (apart_sym' h.sig.os) h.sig.lo hp), h.sig.od, apart_grow h.sig.sd h.sig.ld hp,
    fun k hk => by rw [hz]; have := h.sig.lo k hk; omega, fun k hk => by rw [hz]; exact (Own.block ho _ hk).2, fun k hk => by rw [hz]; have := h.sig.ld k hk; omega⟩, h1, h2, h3, h4, h.sB, h.rB, h.rs, h.ws, h.wr⟩
theorem SignSt.pushD (h : SignSt w T rb sb B p vo vs vd o s d W) {u : Value} {l : List ByteArray} (ho : OwnS W' B u l) (hg : W.grownBy W' vd.ownBlock) (hp : ∀ k, u.ownBlock = some k → vd.ownBlock = some k ∨ W.heap.size ≤ k) : SignSt w T rb sb B p vo vs u o s l (W'.setCell ⟨sb, 3, none⟩ u) := by
  obtain ⟨h1, h2, h3, h4⟩ := h.stored hg (fun k hk => (Own.block h.sig.d _ hk).1) 3 u
  have hz : (W'.setCell ⟨sb, 3, none⟩ u).heap.size = W'.heap.size := by simp [World.setCell]
  have hsz := hg.size
  exact ⟨⟨rfl, Own.setCell (Own.kept h.sig.o hg (apart_sym' h.sig.od)) (a := ⟨sb, 3, none⟩) h.sB _, Own.setCell (Own.kept h.sig.s hg (apart_sym' h.sig.sd)) (a := ⟨sb, 3, none⟩) h.sB _, Own.setCell ho (a := ⟨sb, 3, none⟩) h.sB _, h.sig.os, apart_sym' (apart_grow (apart_sym' h.sig.od) h.sig.lo hp), apart_sym' (apart_grow (apart_sym' h.sig.sd) h.sig.ls hp),
    fun k hk => by rw [hz]; have := h.sig.lo k hk; omega, fun k hk => by rw [hz]; have := h.sig.ls k hk; omega, fun k hk => by rw [hz]; exact (Own.block ho _ hk).2⟩, h1, h2, h3, h4, h.sB, h.rB, h.rs, h.ws, h.wr⟩
end

/-- Two results, the first of which lies in a cell. -/
theorem results_cell_row_tmpS {fn : Func} {p u : Tmp} {ty : TypeId} (h : fn.results = #[.cell p ty, .tmp u]) (tmps : Array Value) (P : Program) (w : World) (g : Nat) (t : TypeId) (cs : Array Value) (fr : Nat × Nat) (fs : Array Field) (x : Value)
    (hp : tmps.getD p undef = .pointer (some ⟨g, 0, none⟩)) (hx : tmps.getD u undef = x) (hg : w.heap[g]? = some (.cells cs t fr))
    (hu : P.underlying ty = some (.struct fs)) (hi : (P.info? ty).map (·.size) = some cs.size) :
    (results fn tmps).run P w = .ok (.tuple #[.agg cs, x]) w := by
  rw [results_cell_tmp h, hp, hx]
  have e := run_loadVar_row w g t ty cs fr _ hg hu rfl hi
  simp [asAddr, Result.andThen]
  rw [e]
/-- A row that is read lies apart from a row of the call's own, and from a box. -/
def ApartA (am : Option Addr) (u : Value) (sb : Nat) : Prop := ∀ b off, am = some ⟨b, off, none⟩ → u.ownBlock ≠ some b ∧ b ≠ sb
theorem rdS_far {w w' : World} {ao : Option Addr} {l : List ByteArray} {row : Option Nat} {sb i : Nat} {v : Value} (h : RdS w ao l) (hg : w.grownBy w' row) (hne : ∀ b off, ao = some ⟨b, off, none⟩ → row ≠ some b ∧ b ≠ sb) : RdS (w'.setCell ⟨sb, i, none⟩ v) ao l := by
  intro j x hx
  obtain ⟨b, off, e, hc⟩ := h j x hx
  have hlt := World.block_lt_of_cell? _ _ hc
  obtain ⟨h1, h2⟩ := hne b off e
  have e1 : w'.heap[b]? = w.heap[b]? := hg.block b hlt (fun e' => h1 e'.symm)
  have e2 : (w'.setCell ⟨sb, i, none⟩ v).heap[b]? = w'.heap[b]? := Below.heap_setCell _ _ _ _ h2
  exact ⟨b, off, e, (World.cell?_of_block (a := ⟨b, off + j, none⟩) (e2.trans e1)).trans hc⟩
/-- The ways through a region are joined behind it. -/
theorem region_join1 {P : Program} {c : Code} {Q : Exit → Act → World → Prop} {a : Act} {w : World} (F : Value → Nat → Act) (Post : Value → World → Prop)
    (h : c.wp P (fun e a' w' => e = .normal ∧ ∃ v n, a' = F v n ∧ Post v w') a w) (hk : ∀ v n w', Post v w' → Q .normal (F v n) w') : c.wp P Q a w :=
  Code.wp_mono (fun e a' w' ⟨he, v, n, ha, hp⟩ => by subst he; subst ha; exact hk v n w' hp) h
theorem OwnSig.far {w : World} {B C : Nat} {v : Value} {p : Int} {vo vs vd : Value} {o s d : List ByteArray} (h : OwnSig w B C v p vo vs vd o s d) {a : Addr} (ha : a.block < B) (u : Value) : OwnSig (w.setCell a u) B C v p vo vs vd o s d :=
  { h with o := Own.setCell h.o ha u, s := Own.setCell h.s ha u, d := Own.setCell h.d ha u }
theorem OwnSig.lower {w : World} {B B' C C' : Nat} {v : Value} {p : Int} {vo vs vd : Value} {o s d : List ByteArray} (h : OwnSig w B C v p vo vs vd o s d) (hB : B' ≤ B) (hC : C ≤ C') : OwnSig w B' C' v p vo vs vd o s d :=
  { h with o := Own.mono h.o hB, s := Own.mono h.s hB, d := Own.mono h.d hB, lo := fun k hk => Nat.lt_of_lt_of_le (h.lo k hk) hC, ls := fun k hk => Nat.lt_of_lt_of_le (h.ls k hk) hC, ld := fun k hk => Nat.lt_of_lt_of_le (h.ld k hk) hC }
theorem size_set4 (w : World) (b : Nat) (v0 v1 v2 v3 : Value) : ((((w.setCell ⟨b, 0, none⟩ v0).setCell ⟨b, 1, none⟩ v1).setCell ⟨b, 2, none⟩ v2).setCell ⟨b, 3, none⟩ v3).heap.size = w.heap.size := by simp [World.setCell]
/-- The signature is handed back through the result's box. -/
theorem SignSt.done {w W : World} {T : TypeId} {rb sb B : Nat} {p : Int} {vo vs vd : Value} {o s d : List ByteArray} (h : SignSt w T rb sb B p vo vs vd o s d W) :
    Blk ((((W.setCell ⟨rb, 0, none⟩ (.int .i64 p)).setCell ⟨rb, 1, none⟩ vo).setCell ⟨rb, 2, none⟩ vs).setCell ⟨rb, 3, none⟩ vd) rb T [.int .i64 p, vo, vs, vd] ∧
    OwnSig ((((W.setCell ⟨rb, 0, none⟩ (.int .i64 p)).setCell ⟨rb, 1, none⟩ vo).setCell ⟨rb, 2, none⟩ vs).setCell ⟨rb, 3, none⟩ vd) w.heap.size ((((W.setCell ⟨rb, 0, none⟩ (.int .i64 p)).setCell ⟨rb, 1, none⟩ vo).setCell ⟨rb, 2, none⟩ vs).setCell ⟨rb, 3, none⟩ vd).heap.size (.agg #[.int .i64 p, vo, vs, vd]) p vo vs vd o s d ∧
    Below w.heap.size w ((((W.setCell ⟨rb, 0, none⟩ (.int .i64 p)).setCell ⟨rb, 1, none⟩ vo).setCell ⟨rb, 2, none⟩ vs).setCell ⟨rb, 3, none⟩ vd) := by
  have hr := h.rB
  have hw := h.wr
  refine ⟨(((h.res.set_ 0 _).set_ 1 _).set_ 2 _).set_ 3 _, ?_, ?_⟩
  · exact ((((h.sig.far (a := ⟨rb, 0, none⟩) hr _).far (a := ⟨rb, 1, none⟩) hr _).far (a := ⟨rb, 2, none⟩) hr _).far (a := ⟨rb, 3, none⟩) hr _).lower (by omega) (by rw [size_set4]; exact Nat.le_refl _)
  · exact (((h.low.setCell (p := ⟨rb, 0, none⟩) hw _).setCell (p := ⟨rb, 1, none⟩) hw _).setCell (p := ⟨rb, 2, none⟩) hw _).setCell (p := ⟨rb, 3, none⟩) hw _

end Go.Proofs.YtcehbmlibfalaaaDoor
