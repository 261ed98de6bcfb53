/-
  What the walks of this claim lean on, joined: plain laws, no code of the seat.
-/
import Derived.Test.YtcehbmlibfalaaaDoorBase5
import Derived.Deep.WholeRow
import Derived.Great.Walk
import Derived.Test.YtcehbmlibfalaaaDoorBase4
import Derived.Test.YtcehbmlibfalaaaDoorBase2

/-
  Whole blocks: what they hold, how they are kept; a long array by value laid into a new block. No program in sight.
-/
namespace Go.Proofs.YtcehbmlibfalaaaDoor
open Go.RowKit

/-- Block g is just these cells; all of it may be written. -/
def Blk (w : World) (g : Nat) (t : TypeId) (cs : List Value) : Prop := w.heap[g]? = some (.cells cs.toArray t (0, 0))

theorem Blk.lt {w : World} {g : Nat} {t : TypeId} {cs : List Value} (h : Blk w g t cs) : g < w.heap.size := (Array.getElem?_eq_some_iff.1 h).1
theorem Blk.cell {w : World} {g : Nat} {t : TypeId} {cs : List Value} (h : Blk w g t cs) (i : Nat) : w.cell? ⟨g, i, none⟩ = cs[i]? := by
  rw [cell_of_row w g i _ t (0, 0) h]; simp
theorem Blk.frozen {w : World} {g : Nat} {t : TypeId} {cs : List Value} (h : Blk w g t cs) (i : Nat) : w.frozen? ⟨g, i, none⟩ = false := frozen_of_row w g i _ t h
theorem Blk.new (w : World) (t : TypeId) (cs : List Value) (A : Array Value) (hA : A = cs.toArray) : Blk (w.alloc (.cells A t)) w.heap.size t cs := by
  subst hA; exact alloc_at w _
theorem Blk.below {w w' : World} {g : Nat} {t : TypeId} {cs : List Value} {C : Nat} (h : Blk w g t cs) (hb : Below C w w') (hg : g < C) : Blk w' g t cs := (hb.block g hg).trans h
theorem Blk.drew {w : World} {g : Nat} {t : TypeId} {cs : List Value} (h : Blk w g t cs) : Blk w.drew g t cs := h
theorem Blk.drewN {w : World} {g : Nat} {t : TypeId} {cs : List Value} (h : Blk w g t cs) (n : Nat) : Blk (w.drewN n) g t cs := h
theorem Blk.alloc {w : World} {g : Nat} {t : TypeId} {cs : List Value} (h : Blk w g t cs) (o : Obj) : Blk (w.alloc o) g t cs := (Below.heap_alloc w o g h.lt).trans h
theorem Blk.set_ {w : World} {g : Nat} {t : TypeId} {cs : List Value} (h : Blk w g t cs) (i : Nat) (u : Value) : Blk (w.setCell ⟨g, i, none⟩ u) g t (cs.set i u) := by
  unfold Blk at h ⊢
  simp [World.setCell, Array.getElem?_modify, h]
theorem Blk.far {w : World} {g : Nat} {t : TypeId} {cs : List Value} (h : Blk w g t cs) {p : Addr} (hp : g ≠ p.block) (u : Value) : Blk (w.setCell p u) g t cs := (Below.heap_setCell w p u g hp).trans h
theorem Blk.setRow_far {w : World} {g k : Nat} {t : TypeId} {cs : List Value} (h : Blk w g t cs) (hk : g ≠ k) (A : Array Value) : Blk (w.setRow k A) g t cs := by
  unfold Blk; rw [setRow_other _ _ _ _ hk]; exact h
theorem Blk.kept {w w' : World} {g : Nat} {t : TypeId} {cs : List Value} {row : Option Nat} (h : Blk w g t cs) (hb : w.grownBy w' row) (hg : some g ≠ row) : Blk w' g t cs := (hb.block g h.lt hg).trans h

/-- A whole array goes into the block that was made last. -/
theorem wpList_store_new {P : Program} {ops : Array Oper} {rest : List Oper} {o : Oper} {a : Act} {Q : Exit → Act → World → Prop} (hgd : o.guard = none) (ty : TypeId) (x y : Operand) (ho : o.op = .store ty x y) (hd : o.dst = none)
    (w : World) (N : Nat) (hN : w.heap.size = N) (t : TypeId) (old cells : Array Value) (hx : a.eval x = .pointer (some ⟨N, 0, none⟩)) (hy : a.eval y = .agg cells)
    (hi : (P.info? ty).map (·.size) = some cells.size) (hold : old.size = cells.size) (h1 : cells.all (·.oneCell') = true)
    (h : wpList P ops Q rest a (w.alloc (.cells cells t))) : wpList P ops Q (o :: rest) a (w.alloc (.cells old t)) := by
  subst hN
  refine wpList_store_row hgd ty x y ho w.heap.size cells hx hy t old (heap_alloc_last w _) hi hold h1 ?_
  rw [hd, World.setRow_alloc_new]
  exact h

/-- 'var w [n]T': the array's zero is built, a new block is made, the zero goes into it. -/
theorem wpList_zero_arr {P : Program} {ops : Array Oper} {rest : List Oper} {o1 o2 o3 : Oper} {a : Act} {Q : Exit → Act → World → Prop} (t : TypeId) (z : Array Value) (hz : P.built t [] = some z) (hi : (P.info? t).map (fun i => (i.zero, i.size)) = some (some (.agg z), z.size)) (h1 : z.all (·.oneCell') = true)
    (g1 : o1.guard = none) (g2 : o2.guard = none) (g3 : o3.guard = none) (x y : Operand) (e1 : o1.op = .build t #[]) (e2 : o2.op = .alloc t) (e3 : o3.op = .store t x y) (d3 : o3.dst = none) (w : World) (N : Nat) (hN : w.heap.size = N)
    (hx : ((a.put o1.dst (.agg z)).put o2.dst (.pointer (some ⟨N, 0, none⟩))).eval x = .pointer (some ⟨N, 0, none⟩)) (hy : ((a.put o1.dst (.agg z)).put o2.dst (.pointer (some ⟨N, 0, none⟩))).eval y = .agg z)
    (h : wpList P ops Q rest ((a.put o1.dst (.agg z)).put o2.dst (.pointer (some ⟨N, 0, none⟩))) (w.alloc (.cells z t))) : wpList P ops Q (o1 :: o2 :: o3 :: rest) a w := by
  subst hN
  obtain ⟨hzero, hsz⟩ := zero_of_info hi
  refine wpList_buildTo g1 t #[] e1 _ rfl z (by simpa using hz) ?_
  refine Great.wpList_runTo g2 _ rfl (.pointer (some ⟨w.heap.size, 0, none⟩)) (w.alloc (.cells z t)) ?_ ?_
  · unfold execOp
    rw [e2]
    simp [Instr.alloc, hzero, newVar, Value.cells]
    rfl
  · exact wpList_store_new g3 t x y e3 d3 w _ rfl t z z hx hy hsz rfl h1 h

/-- The four blocks that have just been made, told; the world under a name. -/
theorem wp_four {P : Program} {c : Code} {Q : Exit → Act → World → Prop} {a : Act} {w : World} {A B C D : Array Value} {t1 t2 t3 t4 : TypeId}
    (h : ∀ W : World, Blk W w.heap.size t1 A.toList → Blk W (w.heap.size + 1) t2 B.toList → Blk W (w.heap.size + 2) t3 C.toList → Blk W (w.heap.size + 3) t4 D.toList → Below w.heap.size w W → W.heap.size = w.heap.size + 4 → Code.wp P c Q a W) :
    Code.wp P c Q a ((((w.alloc (.cells A t1)).alloc (.cells B t2)).alloc (.cells C t3)).alloc (.cells D t4)) := by
  have s1 := alloc_size w (.cells A t1)
  have s2 := alloc_size (w.alloc (.cells A t1)) (.cells B t2)
  have s3 := alloc_size ((w.alloc (.cells A t1)).alloc (.cells B t2)) (.cells C t3)
  have s4 := alloc_size (((w.alloc (.cells A t1)).alloc (.cells B t2)).alloc (.cells C t3)) (.cells D t4)
  have b1 := Blk.new w t1 A.toList A (by simp)
  have b2 := Blk.new (w.alloc (.cells A t1)) t2 B.toList B (by simp)
  have b3 := Blk.new ((w.alloc (.cells A t1)).alloc (.cells B t2)) t3 C.toList C (by simp)
  have b4 := Blk.new (((w.alloc (.cells A t1)).alloc (.cells B t2)).alloc (.cells C t3)) t4 D.toList D (by simp)
  rw [s1] at b2
  rw [s2, s1] at b3
  rw [s3, s2, s1] at b4
  exact h _ (((b1.alloc _).alloc _).alloc _) ((b2.alloc _).alloc _) (b3.alloc _) b4
    (((((Below.refl _ w).alloc (Nat.le_refl _) _).alloc (by omega) _).alloc (by omega) _).alloc (by omega) _) (by omega)

/-- Numbers of 32 bits, as cells. -/
def natC (l : List Nat) : List Value := l.map fun (x : Nat) => Value.int .u32 (x : Int)
theorem natC_length (l : List Nat) : (natC l).length = l.length := by simp [natC]
theorem natC_get (l : List Nat) (j : Nat) : (natC l)[j]? = (l[j]?).map fun (x : Nat) => Value.int .u32 (x : Int) := by simp [natC]

/-- 64 zeros. -/
def z64L : List Value := List.replicate 64 (.int .u32 0)
def z64 : Array Value := z64L.toArray
theorem z64L_length : z64L.length = 64 := by simp [z64L]
theorem z64_one : z64.all (·.oneCell') = true := by decide +kernel

/-- 'b[i]' of a string, told by its number. -/
theorem idx_byt {P : Program} {t : TypeId} (ht : P.underlying t = some .string) (s : ByteArray) (i : Int) (a : Nat) (hi : i = a) (h : a < s.size) (w : World) :
    (Instr.index t (.string s) (.int .i64 i)).run P w = .ok (.int .u8 (byt s.data.toList a : Nat)) w := by
  rw [idx_str ht s i a hi h w]
  have h' : a < s.data.toList.length := by simpa using h
  have e : byt s.data.toList a = s[a].toNat := by
    unfold byt
    rw [List.getD_eq_getElem?_getD, List.getElem?_eq_getElem h']
    rfl
  rw [e]

theorem step_set {cs : List Value} {N k : Nat} {g : Nat → Value} {v : Value} (H : cs.length = N ∧ ∀ j, j < k → cs[j]? = some (g j)) (hk : k < N) (hv : v = g k) :
    (cs.set k v).length = N ∧ ∀ j, j < k + 1 → (cs.set k v)[j]? = some (g j) := by
  refine ⟨by rw [List.length_set]; exact H.1, fun j hj => ?_⟩
  by_cases hjk : j = k
  · subst hjk; rw [List.getElem?_set_self (by rw [H.1]; exact hk), hv]
  · rw [List.getElem?_set_ne (by omega)]; exact H.2 j (by omega)

theorem wordB_int {a b c d : Nat} (ha : a < 256) (hb : b < 256) (hc : c < 256) (hd : d < 256) :
    bits BinOp.or IntKind.u32 (bits BinOp.or IntKind.u32 (bits BinOp.or IntKind.u32 ((a : Int) * 16777216) ((b : Int) * 65536)) ((c : Int) * 256)) (d : Int) = (wordB a b c d : Nat) := by
  have e1 := u32_or_nat (a * 16777216) (b * 65536) (by omega) (by omega)
  have l1 : (a * 16777216) ||| (b * 65536) < 4294967296 := Nat.or_lt_two_pow (n := 32) (by omega) (by omega)
  have e2 := u32_or_nat ((a * 16777216) ||| (b * 65536)) (c * 256) l1 (by omega)
  have l2 : ((a * 16777216) ||| (b * 65536)) ||| (c * 256) < 4294967296 := Nat.or_lt_two_pow (n := 32) l1 (by omega)
  have e3 := u32_or_nat (((a * 16777216) ||| (b * 65536)) ||| (c * 256)) d l2 (by omega)
  have ta : ((a * 16777216 : Nat) : Int) = (a : Int) * 16777216 := by rw [Int.natCast_mul]; rfl
  have tb : ((b * 65536 : Nat) : Int) = (b : Int) * 65536 := by rw [Int.natCast_mul]; rfl
  have tc : ((c * 256 : Nat) : Int) = (c : Int) * 256 := by rw [Int.natCast_mul]; rfl
  rw [ta, tb] at e1
  rw [tc] at e2
  rw [e1, e2, e3]
  rfl

theorem xor_int {x y : Nat} {X Y : Int} (hX : X = (x : Int)) (hY : Y = (y : Int)) (hx : x < 4294967296) (hy : y < 4294967296) : bits BinOp.xor IntKind.u32 X Y = ((x ^^^ y : Nat) : Int) := by subst hX; subst hY; exact u32_xor_nat x y hx hy
theorem and_int {x y : Nat} {X Y : Int} (hX : X = (x : Int)) (hY : Y = (y : Int)) (hx : x < 4294967296) (hy : y < 4294967296) : bits BinOp.and IntKind.u32 X Y = ((x &&& y : Nat) : Int) := by subst hX; subst hY; exact u32_and_nat x y hx hy
theorem div_lt32 {x : Nat} (n : Nat) (h : x < 4294967296) : x / n < 4294967296 := Nat.lt_of_le_of_lt (Nat.div_le_self _ _) h
theorem sgA_int {x : Nat} (h : x < 4294967296) : bits BinOp.xor IntKind.u32 (bits BinOp.xor IntKind.u32 ((rot x 7 : Nat) : Int) ((rot x 18 : Nat) : Int)) ((x : Int) / 8) = ((sgA x : Nat) : Int) :=
  xor_int (xor_int rfl rfl (rot_lt _ _ h) (rot_lt _ _ h)) (by omega) (xor_lt32 (rot_lt _ _ h) (rot_lt _ _ h)) (div_lt32 8 h)
theorem sgB_int {x : Nat} (h : x < 4294967296) : bits BinOp.xor IntKind.u32 (bits BinOp.xor IntKind.u32 ((rot x 17 : Nat) : Int) ((rot x 19 : Nat) : Int)) ((x : Int) / 1024) = ((sgB x : Nat) : Int) :=
  xor_int (xor_int rfl rfl (rot_lt _ _ h) (rot_lt _ _ h)) (by omega) (xor_lt32 (rot_lt _ _ h) (rot_lt _ _ h)) (div_lt32 1024 h)
theorem sgE_int {x : Nat} (h : x < 4294967296) : bits BinOp.xor IntKind.u32 (bits BinOp.xor IntKind.u32 ((rot x 6 : Nat) : Int) ((rot x 11 : Nat) : Int)) ((rot x 25 : Nat) : Int) = ((sgE x : Nat) : Int) :=
  xor_int (xor_int rfl rfl (rot_lt _ _ h) (rot_lt _ _ h)) rfl (xor_lt32 (rot_lt _ _ h) (rot_lt _ _ h)) (rot_lt _ _ h)
theorem sgO_int {x : Nat} (h : x < 4294967296) : bits BinOp.xor IntKind.u32 (bits BinOp.xor IntKind.u32 ((rot x 2 : Nat) : Int) ((rot x 13 : Nat) : Int)) ((rot x 22 : Nat) : Int) = ((sgO x : Nat) : Int) :=
  xor_int (xor_int rfl rfl (rot_lt _ _ h) (rot_lt _ _ h)) rfl (xor_lt32 (rot_lt _ _ h) (rot_lt _ _ h)) (rot_lt _ _ h)
theorem xor_ones {e : Nat} (h : e < 4294967296) : e ^^^ 4294967295 = 4294967295 - e := by
  have h1 : (BitVec.ofNat 32 e ^^^ BitVec.allOnes 32).toNat = e ^^^ 4294967295 := by
    rw [BitVec.toNat_xor, BitVec.toNat_ofNat, BitVec.toNat_allOnes, Nat.mod_eq_of_lt h]
  rw [← h1, BitVec.xor_allOnes, BitVec.toNat_not, BitVec.toNat_ofNat, Nat.mod_eq_of_lt h]
theorem chW_int {e f g : Nat} (he : e < 4294967296) (hf : f < 4294967296) (hg : g < 4294967296) :
    bits BinOp.xor IntKind.u32 (bits BinOp.and IntKind.u32 (e : Int) (f : Int)) (bits BinOp.and IntKind.u32 (bits BinOp.xor IntKind.u32 (e : Int) 4294967295) (g : Int)) = ((chW e f g : Nat) : Int) := by
  have h1 : bits BinOp.xor IntKind.u32 (e : Int) 4294967295 = ((4294967295 - e : Nat) : Int) := (xor_int (x := e) (y := 4294967295) rfl rfl he (by decide)).trans (by rw [xor_ones he])
  exact xor_int (and_int rfl rfl he hf) (and_int h1 rfl (by omega) hg) (and_lt32 he) (and_lt32 (by omega))
theorem chW_int2 {e f g : Nat} (he : e < 4294967296) (hf : f < 4294967296) (hg : g < 4294967296) :
    bits BinOp.xor IntKind.u32 (bits BinOp.and IntKind.u32 (e : Int) (f : Int)) (bits BinOp.and IntKind.u32 (bits BinOp.xor IntKind.u32 (if IntKind.u32.signed = true then -1 else IntKind.u32.max) (e : Int)) (g : Int)) = ((chW e f g : Nat) : Int) := by
  have h0 : (if IntKind.u32.signed = true then (-1 : Int) else IntKind.u32.max) = ((4294967295 : Nat) : Int) := by decide +kernel
  have h1 : bits BinOp.xor IntKind.u32 (if IntKind.u32.signed = true then -1 else IntKind.u32.max) (e : Int) = ((4294967295 - e : Nat) : Int) := by
    rw [xor_int (x := 4294967295) (y := e) h0 rfl (by decide) he, Nat.xor_comm, xor_ones he]
  exact xor_int (and_int rfl rfl he hf) (and_int h1 rfl (by omega) hg) (and_lt32 he) (and_lt32 (by omega))
theorem majW_int {a b c : Nat} (ha : a < 4294967296) (hb : b < 4294967296) (hc : c < 4294967296) :
    bits BinOp.xor IntKind.u32 (bits BinOp.xor IntKind.u32 (bits BinOp.and IntKind.u32 (a : Int) (b : Int)) (bits BinOp.and IntKind.u32 (a : Int) (c : Int))) (bits BinOp.and IntKind.u32 (b : Int) (c : Int)) = ((majW a b c : Nat) : Int) :=
  xor_int (xor_int (and_int rfl rfl ha hb) (and_int rfl rfl ha hc) (and_lt32 ha) (and_lt32 ha)) (and_int rfl rfl hb hc) (xor_lt32 (and_lt32 ha) (and_lt32 ha)) (and_lt32 hb)

/-- Word j of a block's schedule. -/
def wd (b : List UInt8) (j : Nat) : Nat := (sched b 64).getD j 0
theorem sched_take (b : List UInt8) (k : Nat) (hk : k ≤ 64) : (sched b 64).take k = sched b k := by
  suffices h : ∀ m, (sched b (k + m)).take k = sched b k by
    have := h (64 - k); rwa [show k + (64 - k) = 64 by omega] at this
  intro m
  induction m with
  | zero => exact List.take_of_length_le (by rw [sched_length]; omega)
  | succ m ih => rw [← Nat.add_assoc, sched, List.take_append_of_le_length (by rw [sched_length]; omega)]; exact ih
theorem wd_at (b : List UInt8) (k j : Nat) (hk : k ≤ 64) (hj : j < k) : (sched b k).getD j 0 = wd b j := by
  unfold wd
  rw [← sched_take b k hk, List.getD_eq_getElem?_getD, List.getD_eq_getElem?_getD, List.getElem?_take, if_pos hj]
theorem wd_step (b : List UInt8) (k : Nat) (hk : k < 64) : wd b k = if k < 16 then wordAt b k else nextW ((sched b k).getD (k - 16) 0) ((sched b k).getD (k - 15) 0) ((sched b k).getD (k - 7) 0) ((sched b k).getD (k - 2) 0) := by
  rw [← wd_at b (k + 1) k (by omega) (by omega), sched, List.getD_eq_getElem?_getD, List.getElem?_append_right (by rw [sched_length]; exact Nat.le_refl _), sched_length, Nat.sub_self]
  rfl
theorem wd_lo (b : List UInt8) (k : Nat) (hk : k < 16) : wd b k = wordAt b k := by rw [wd_step b k (by omega), if_pos hk]
theorem wd_hi (b : List UInt8) (k : Nat) (h0 : 16 ≤ k) (hk : k < 64) : wd b k = nextW (wd b (k - 16)) (wd b (k - 15)) (wd b (k - 7)) (wd b (k - 2)) := by
  rw [wd_step b k hk, if_neg (by omega), wd_at b k _ (by omega) (by omega), wd_at b k _ (by omega) (by omega), wd_at b k _ (by omega) (by omega), wd_at b k _ (by omega) (by omega)]
theorem wd_fun (b : List UInt8) : ∃ f : Nat → Nat, f = wd b ∧ (∀ k, k < 16 → f k = wordAt b k) ∧ (∀ k, 16 ≤ k → k < 64 → f k = nextW (f (k - 16)) (f (k - 15)) (f (k - 7)) (f (k - 2))) ∧ (∀ j, f j < 4294967296) :=
  ⟨_, rfl, wd_lo b, wd_hi b, fun j => getD_lt32 (sched_lt b 64) j⟩
theorem wd_lt (b : List UInt8) (j : Nat) : wd b j < 4294967296 := getD_lt32 (sched_lt b 64) j

theorem nextW_int {p q r s y z : Nat} (hy : sgA q = y) (hz : sgB s = z) : ((p : Int) + y + r + z) % 4294967296 = ((nextW p q r s : Nat) : Int) := by
  subst hy; subst hz
  unfold nextW
  omega
theorem rndT_int {v : W8} {k w y z : Nat} (hy : sgE v.e = y) (hz : chW v.e v.f v.g = z) : ((v.h : Int) + y + z + k + w) % 4294967296 = ((rndT v k w : Nat) : Int) := by
  subst hy; subst hz
  unfold rndT
  omega
theorem rndT_int2 {v : W8} {k w y z : Nat} (hy : sgE v.e = y) (hz : chW v.e v.f v.g = z) : (((v.h : Int) + y + z + k) % 4294967296 + w) % 4294967296 = ((rndT v k w : Nat) : Int) := by
  rw [← rndT_int (w := w) hy hz]; omega
theorem rndT_lt (v : W8) (k w : Nat) : rndT v k w < 4294967296 := mod_lt32 _
theorem rndU_lt (v : W8) : rndU v < 4294967296 := mod_lt32 _
theorem rndU_int {v : W8} {y z : Nat} (hy : sgO v.a = y) (hz : majW v.a v.b v.c = z) : ((y : Int) + z) % 4294967296 = ((rndU v : Nat) : Int) := by
  subst hy; subst hz
  unfold rndU
  omega
theorem sum_int (x y : Nat) : ((x : Int) + y) % 4294967296 = (((x + y) % 4294967296 : Nat) : Int) := by omega

/-- The rounds, the words and the keys as functions. -/
def rndF (f k : Nat → Nat) (s : W8) : Nat → W8
  | 0 => s
  | i + 1 => rnd (rndF f k s i) (k i) (f i)
theorem rndF_eq (ws : List Nat) (s : W8) (n : Nat) : rnds ws s n = rndF (fun i => ws.getD i 0) (fun i => keyL.getD i 0) s n := by
  induction n with
  | zero => rfl
  | succ n ih => rw [rnds, rndF, ih]
theorem wd_eq (b : List UInt8) : wd b = fun i => (sched b 64).getD i 0 := rfl
theorem comp_eq (s : W8) (b : List UInt8) : comp s b = addW s (rndF (wd b) (fun i => keyL.getD i 0) s 64) := by
  rw [comp, rndF_eq, wd_eq]
def w8C (s : W8) : List Value := natC s.toL

/-- Word j of eight. -/
def W8.at_ (s : W8) (j : Nat) : Nat := s.toL.getD j 0
theorem W8.at_lt {s : W8} (h : s.Ok) (j : Nat) : s.at_ j < 4294967296 := by
  refine getD_lt32 (fun x hx => ?_) j
  simp only [W8.toL, List.mem_cons, List.not_mem_nil, or_false] at hx
  rcases hx with rfl | rfl | rfl | rfl | rfl | rfl | rfl | rfl
  · exact h.a
  · exact h.b
  · exact h.c
  · exact h.d
  · exact h.e
  · exact h.f
  · exact h.g
  · exact h.h
theorem W8.cell_at (s : W8) (j : Nat) (hj : j < 8) : (natC s.toL)[j]? = some (.int .u32 (s.at_ j : Nat)) := by
  rcases (show j = 0 ∨ j = 1 ∨ j = 2 ∨ j = 3 ∨ j = 4 ∨ j = 5 ∨ j = 6 ∨ j = 7 by omega) with rfl | rfl | rfl | rfl | rfl | rfl | rfl | rfl <;> rfl
theorem addW_at (s z : W8) (j : Nat) (hj : j < 8) : (addW s z).at_ j = (s.at_ j + z.at_ j) % 4294967296 := by
  rcases (show j = 0 ∨ j = 1 ∨ j = 2 ∨ j = 3 ∨ j = 4 ∨ j = 5 ∨ j = 6 ∨ j = 7 by omega) with rfl | rfl | rfl | rfl | rfl | rfl | rfl | rfl <;> rfl
theorem w8_of {cs : List Value} {s : W8} (hl : cs.length = 8) (h : ∀ j, j < 8 → cs[j]? = some (.int .u32 (s.at_ j : Nat))) : cs = natC s.toL := by
  apply List.ext_getElem?
  intro j
  by_cases hj : j < 8
  · rw [h j hj, s.cell_at j hj]
  · rw [List.getElem?_eq_none (by omega), List.getElem?_eq_none (by rw [natC_length]; show 8 ≤ j; omega)]
theorem mix_set {cs : List Value} {k : Nat} {g i : Nat → Value} {v : Value} (H : cs.length = 8 ∧ (∀ j, j < k → cs[j]? = some (g j)) ∧ ∀ j, k ≤ j → j < 8 → cs[j]? = some (i j)) (hk : k < 8) (hv : v = g k) :
    (cs.set k v).length = 8 ∧ (∀ j, j < k + 1 → (cs.set k v)[j]? = some (g j)) ∧ ∀ j, k + 1 ≤ j → j < 8 → (cs.set k v)[j]? = some (i j) := by
  have h := step_set ⟨H.1, H.2.1⟩ hk hv
  exact ⟨h.1, h.2, fun j h1 h2 => by rw [List.getElem?_set_ne (by omega)]; exact H.2.2 j (by omega) h2⟩

theorem natC_one (l : List Nat) : (natC l).toArray.all (·.oneCell') = true := by
  rw [Array.all_eq_true_iff_forall_mem]
  intro v hv
  obtain ⟨x, _, rfl⟩ := List.mem_map.1 (by simpa [natC] using hv : v ∈ natC l)
  rfl
theorem size_setRow' (w : World) (g : Nat) (cs : Array Value) : (w.setRow g cs).heap.size = w.heap.size := by simp [World.setRow]
theorem Below.setRow_ {C : Nat} {w0 w : World} (h : Below C w0 w) {g : Nat} (hg : C ≤ g) (cs : Array Value) : Below C w0 (w.setRow g cs) :=
  ⟨h.os, h.tape, h.output, by rw [size_setRow']; exact h.size, fun i hi => by rw [setRow_other _ _ _ _ (by omega)]; exact h.block i hi⟩

theorem keyL_cell (i : Nat) (hi : i < 64) : (natC keyL).toArray[i]? = some (.int .u32 (keyL.getD i 0 : Nat)) := by
  rw [List.getElem?_toArray, natC_get, List.getD_eq_getElem?_getD, List.getElem?_eq_getElem (by rw [keyL_length]; exact hi)]
  rfl
theorem keyL_getD_lt (i : Nat) : keyL.getD i 0 < 4294967296 := getD_lt32 keyL_lt i

/-- 'var w [n]T' where the zero stays: a new block of zeros. -/
theorem wpList_alloc_arr {P : Program} {ops : Array Oper} {rest : List Oper} {o : Oper} {a : Act} {Q : Exit → Act → World → Prop} (t : TypeId) (z : Array Value) (hi : (P.info? t).map (fun i => (i.zero, i.size)) = some (some (.agg z), z.size))
    (hg : o.guard = none) (ho : o.op = .alloc t) (w : World) (N : Nat) (hN : w.heap.size = N)
    (h : wpList P ops Q rest (a.put o.dst (.pointer (some ⟨N, 0, none⟩))) (w.alloc (.cells z t))) : wpList P ops Q (o :: rest) a w := by
  subst hN
  obtain ⟨hzero, _⟩ := zero_of_info hi
  refine Great.wpList_runTo hg _ rfl (.pointer (some ⟨w.heap.size, 0, none⟩)) (w.alloc (.cells z t)) ?_ h
  unfold execOp
  rw [ho]
  simp [Instr.alloc, hzero, newVar, Value.cells]
  rfl
theorem wp_three {P : Program} {c : Code} {Q : Exit → Act → World → Prop} {a : Act} {w : World} {A B C : Array Value} {t1 t2 t3 : TypeId}
    (h : ∀ W : World, Blk W w.heap.size t1 A.toList → Blk W (w.heap.size + 1) t2 B.toList → Blk W (w.heap.size + 2) t3 C.toList → Below w.heap.size w W → W.heap.size = w.heap.size + 3 → Code.wp P c Q a W) :
    Code.wp P c Q a (((w.alloc (.cells A t1)).alloc (.cells B t2)).alloc (.cells C t3)) := by
  have s1 := alloc_size w (.cells A t1)
  have s2 := alloc_size (w.alloc (.cells A t1)) (.cells B t2)
  have s3 := alloc_size ((w.alloc (.cells A t1)).alloc (.cells B t2)) (.cells C t3)
  have b1 := Blk.new w t1 A.toList A (by simp)
  have b2 := Blk.new (w.alloc (.cells A t1)) t2 B.toList B (by simp)
  have b3 := Blk.new ((w.alloc (.cells A t1)).alloc (.cells B t2)) t3 C.toList C (by simp)
  rw [s1] at b2
  rw [s2, s1] at b3
  exact h _ ((b1.alloc _).alloc _) (b2.alloc _) b3 ((((Below.refl _ w).alloc (Nat.le_refl _) _).alloc (by omega) _).alloc (by omega) _) (by omega)

def keyZ : List Int := keyL.map fun (x : Nat) => (x : Int)
theorem keyZ_at (i : Nat) (hi : i < 64) : keyZ[i]? = some ((keyL.getD i 0 : Nat) : Int) := by
  rw [keyZ, List.getElem?_map, List.getD_eq_getElem?_getD, List.getElem?_eq_getElem (by rw [keyL_length]; exact hi)]
  rfl

/-- A block that has just been made, told; the world under a name. -/
theorem wp_one {P : Program} {c : Code} {Q : Exit → Act → World → Prop} {a : Act} {w : World} {A : Array Value} {t : TypeId}
    (h : ∀ W : World, Blk W w.heap.size t A.toList → Below w.heap.size w W → W.heap.size = w.heap.size + 1 → Code.wp P c Q a W) :
    Code.wp P c Q a (w.alloc (.cells A t)) :=
  h _ (Blk.new w t A.toList A (by simp)) ((Below.refl _ w).alloc (Nat.le_refl _) _) (alloc_size w _)

end Go.Proofs.YtcehbmlibfalaaaDoor

/-
  Plain law: eight words as 32 bytes. No program in sight.
-/
namespace Go.Proofs.YtcehbmlibfalaaaDoor
open Go.RowKit

theorem be32s_append (l m : List Nat) : be32s (l ++ m) = be32s l ++ be32s m := by simp [be32s]
theorem be32s_prefix (l : List Nat) (k : Nat) (hk : k ≤ l.length) : (be32s l).take (4 * k) = be32s (l.take k) := by
  have e : be32s l = be32s (l.take k) ++ be32s (l.drop k) := by rw [← be32s_append, List.take_append_drop]
  rw [e]
  exact List.take_left' (by rw [be32s_length, List.length_take]; omega)
theorem be32s_take (l : List Nat) (k : Nat) (x : Nat) (hx : l[k]? = some x) : (be32s l).take (4 * k + 4) = (be32s l).take (4 * k) ++ be32 x := by
  have hk : k < l.length := (List.getElem?_eq_some_iff.1 hx).1
  rw [show 4 * k + 4 = 4 * (k + 1) by omega, be32s_prefix l (k + 1) (by omega), be32s_prefix l k (by omega), List.take_add_one, hx, be32s_append]
  simp [be32s]

theorem set4_take {cs A : List Value} {k : Nat} {a b c d : Value} (hl : cs.length = 32) (hk : 4 * k + 4 ≤ 32) (hA : cs.take (4 * k) = A) :
    ((((cs.set (4 * k) a).set (4 * k + 1) b).set (4 * k + 2) c).set (4 * k + 3) d).take (4 * k + 4) = A ++ [a, b, c, d] := by
  subst hA
  apply List.ext_getElem?
  intro j
  have hAl : (cs.take (4 * k)).length = 4 * k := by rw [List.length_take]; omega
  by_cases h1 : j < 4 * k
  · rw [List.getElem?_append_left (by omega), List.getElem?_take, if_pos (by omega), List.getElem?_set_ne (by omega), List.getElem?_set_ne (by omega), List.getElem?_set_ne (by omega), List.getElem?_set_ne (by omega), List.getElem?_take, if_pos h1]
  · rw [List.getElem?_append_right (by omega), hAl]
    by_cases h2 : j < 4 * k + 4
    · rw [List.getElem?_take, if_pos h2]
      rcases (show j = 4 * k ∨ j = 4 * k + 1 ∨ j = 4 * k + 2 ∨ j = 4 * k + 3 by omega) with rfl | rfl | rfl | rfl
      · rw [List.getElem?_set_ne (by omega), List.getElem?_set_ne (by omega), List.getElem?_set_ne (by omega), List.getElem?_set_self (by omega), Nat.sub_self]; rfl
      · rw [List.getElem?_set_ne (by omega), List.getElem?_set_ne (by omega), List.getElem?_set_self (by simp; omega), show 4 * k + 1 - 4 * k = 1 by omega]; rfl
      · rw [List.getElem?_set_ne (by omega), List.getElem?_set_self (by simp; omega), show 4 * k + 2 - 4 * k = 2 by omega]; rfl
      · rw [List.getElem?_set_self (by simp; omega), show 4 * k + 3 - 4 * k = 3 by omega]; rfl
    · rw [List.getElem?_take, if_neg h2, List.getElem?_eq_none (by simp; omega)]

theorem W8.toL_at (s : W8) (j : Nat) (hj : j < 8) : s.toL[j]? = some (s.at_ j) := by
  rcases (show j = 0 ∨ j = 1 ∨ j = 2 ∨ j = 3 ∨ j = 4 ∨ j = 5 ∨ j = 6 ∨ j = 7 by omega) with rfl | rfl | rfl | rfl | rfl | rfl | rfl | rfl <;> rfl
theorem u8s_take (l : List UInt8) (k : Nat) : (u8s l).take k = u8s (l.take k) := by simp [u8s]

end Go.Proofs.YtcehbmlibfalaaaDoor

/-
  Plain law: the compression function over eight integers. No program in sight.
-/
namespace Go.Proofs.YtcehbmlibfalaaaDoor
open Go.RowKit

/-- Whether these are the words of a state, and a block. -/
def BlkOk (l : List Int) (b : List UInt8) : Prop := l.length = 8 ∧ b.length = 64 ∧ ∀ x ∈ l, 0 ≤ x ∧ x ≤ 4294967295
instance (l : List Int) (b : List UInt8) : Decidable (BlkOk l b) := by unfold BlkOk; infer_instance
def wOf (l : List Int) (j : Nat) : Nat := (l.getD j 0).toNat
def w8Of (l : List Int) : W8 := ⟨wOf l 0, wOf l 1, wOf l 2, wOf l 3, wOf l 4, wOf l 5, wOf l 6, wOf l 7⟩
theorem w8Of_at (l : List Int) (j : Nat) (hj : j < 8) : (w8Of l).at_ j = wOf l j := by
  rcases (show j = 0 ∨ j = 1 ∨ j = 2 ∨ j = 3 ∨ j = 4 ∨ j = 5 ∨ j = 6 ∨ j = 7 by omega) with rfl | rfl | rfl | rfl | rfl | rfl | rfl | rfl <;> rfl
def intsOf (l : List Nat) : List Int := l.map fun (x : Nat) => (x : Int)
/-- What ShaBlock answers. -/
def shaB (l : List Int) (b : List UInt8) : List Int := if BlkOk l b then intsOf (comp (w8Of l) b).toL else l
theorem shaB_yes {l : List Int} {b : List UInt8} (h : BlkOk l b) : shaB l b = intsOf (comp (w8Of l) b).toL := if_pos h
theorem shaB_no {l : List Int} {b : List UInt8} (h : ¬ BlkOk l b) : shaB l b = l := if_neg h
theorem intsOf_length (l : List Nat) : (intsOf l).length = l.length := by simp [intsOf]
theorem shaB_length (l : List Int) (b : List UInt8) : (shaB l b).length = l.length := by
  unfold shaB; split
  · next h => rw [intsOf_length, h.1]; rfl
  · rfl
theorem wOf_val {l : List Int} (h : ∀ x ∈ l, 0 ≤ x ∧ x ≤ 4294967295) {j : Nat} {x : Int} (hx : l[j]? = some x) : x = (wOf l j : Nat) := by
  have := h x (List.mem_of_getElem? hx)
  unfold wOf
  rw [List.getD_eq_getElem?_getD, hx]
  simp only [Option.getD_some]
  omega
theorem w8Of_ok {l : List Int} (h : ∀ x ∈ l, 0 ≤ x ∧ x ≤ 4294967295) : (w8Of l).Ok := by
  have e : ∀ j, wOf l j < 4294967296 := by
    intro j
    unfold wOf
    rw [List.getD_eq_getElem?_getD]
    by_cases hj : j < l.length
    · rw [List.getElem?_eq_getElem hj]
      have := h _ (List.getElem_mem hj)
      simp only [Option.getD_some]
      omega
    · rw [List.getElem?_eq_none (by omega)]; decide
  exact ⟨e 0, e 1, e 2, e 3, e 4, e 5, e 6, e 7⟩
theorem intsOf_at (s : W8) (j : Nat) (hj : j < 8) : (intC (intsOf s.toL))[j]? = some (.int .i64 (s.at_ j : Nat)) := by
  rcases (show j = 0 ∨ j = 1 ∨ j = 2 ∨ j = 3 ∨ j = 4 ∨ j = 5 ∨ j = 6 ∨ j = 7 by omega) with rfl | rfl | rfl | rfl | rfl | rfl | rfl | rfl <;> rfl
theorem ints8_of {cs : List Value} {s : W8} (hl : cs.length = 8) (h : ∀ j, j < 8 → cs[j]? = some (.int .i64 (s.at_ j : Nat))) : cs = intC (intsOf s.toL) := by
  apply List.ext_getElem?
  intro j
  by_cases hj : j < 8
  · rw [h j hj, intsOf_at s j hj]
  · rw [List.getElem?_eq_none (by omega), List.getElem?_eq_none (by rw [intC_length, intsOf_length]; show 8 ≤ j; omega)]
theorem own_some {w : World} {B size n : Nat} {v : Value} {cs : List Value} (h : Own w B size v n cs) (hn : 0 < n) : ∃ g cap, v = .slice (some ⟨g, 0, none⟩) n cap := by
  rcases h with ⟨_, rfl, _⟩ | ⟨g, cap, rfl, _, _⟩
  · omega
  · exact ⟨g, cap, rfl⟩

/-- The eight cells of a state, and that they may be written. -/
theorem state8 {w : World} {g : Nat} {t : TypeId} {a b c d e f x y : Nat} (h : Blk w g t (natC (W8.toL ⟨a, b, c, d, e, f, x, y⟩))) :
    (w.cell? ⟨g, 0, none⟩ = some (.int .u32 a) ∧ w.cell? ⟨g, 1, none⟩ = some (.int .u32 b) ∧ w.cell? ⟨g, 2, none⟩ = some (.int .u32 c) ∧ w.cell? ⟨g, 3, none⟩ = some (.int .u32 d) ∧ w.cell? ⟨g, 4, none⟩ = some (.int .u32 e) ∧ w.cell? ⟨g, 5, none⟩ = some (.int .u32 f) ∧ w.cell? ⟨g, 6, none⟩ = some (.int .u32 x) ∧ w.cell? ⟨g, 7, none⟩ = some (.int .u32 y)) ∧
    (w.frozen? ⟨g, 0, none⟩ = false ∧ w.frozen? ⟨g, 1, none⟩ = false ∧ w.frozen? ⟨g, 2, none⟩ = false ∧ w.frozen? ⟨g, 3, none⟩ = false ∧ w.frozen? ⟨g, 4, none⟩ = false ∧ w.frozen? ⟨g, 5, none⟩ = false ∧ w.frozen? ⟨g, 6, none⟩ = false ∧ w.frozen? ⟨g, 7, none⟩ = false) :=
  ⟨⟨h.cell 0, h.cell 1, h.cell 2, h.cell 3, h.cell 4, h.cell 5, h.cell 6, h.cell 7⟩, h.frozen 0, h.frozen 1, h.frozen 2, h.frozen 3, h.frozen 4, h.frozen 5, h.frozen 6, h.frozen 7⟩

/-- Another block than the row's own is written. -/
theorem Own.far {w : World} {B size : Nat} {v : Value} {n : Nat} {cs : List Value} (h : Own w B size v n cs) {a : Addr} (hne : v.ownBlock ≠ some a.block) (u : Value) : Own (w.setCell a u) B size v n cs := by
  rcases h with h | ⟨g, cap, rfl, hB, r⟩
  · exact .inl h
  · exact .inr ⟨g, cap, rfl, hB, r.keep (by simp [World.setCell]) (Below.heap_setCell _ _ _ _ (by intro e; exact hne (by simp [Value.ownBlock, e])))⟩

/-- What a slice of integers that came in yields to append. -/
theorem RdI.src {P : Program} {t e' : TypeId} (ht : P.underlying t = some (.slice e')) {w : World} {ao : Option Addr} {l : List Int} (h : RdI w ao l) (c : Nat) :
    Src P 1 t (.slice ao l.length c) l.length (intC l) w := by
  cases ao with
  | none =>
    cases l with
    | nil => exact Src.ofNil w ht c
    | cons x r => obtain ⟨b, off, he, _⟩ := h 0 (.int .i64 x) rfl; cases he
  | some a =>
    refine Src.ofSlice _ ht _ _ _ _ (by rw [intC_length, Nat.mul_one]) (fun j u hu => ?_) (intC_one _)
    obtain ⟨b, off, he, hc⟩ := h j u hu
    cases he
    rw [Addr.add_lit]
    exact hc

end Go.Proofs.YtcehbmlibfalaaaDoor

/-
  The draws' cursor, told by what it may be: bytes, a place among them, a number; the answers told by their ranges. No program in sight.
-/
namespace Go.Proofs.YtcehbmlibfalaaaDoor
open Go.RowKit

/-- Bytes that stand at ao. -/
def Bytes (w : World) (ao : Option Addr) (n : Nat) : Prop :=
  ∀ j, j < n → ∃ b off z, ao = some ⟨b, off, none⟩ ∧ (0 : Int) ≤ z ∧ z ≤ 255 ∧ w.cell? ⟨b, off + j, none⟩ = some (.int .u8 z)
theorem Bytes.below {w w' : World} {ao : Option Addr} {n C : Nat} (h : Bytes w ao n) (hb : Below C w w') (hC : w.heap.size ≤ C) : Bytes w' ao n := by
  intro j hj
  obtain ⟨b, off, z, e, h0, h1, hc⟩ := h j hj
  have hlt := World.block_lt_of_cell? _ _ hc
  exact ⟨b, off, z, e, h0, h1, (hb.cell (p := ⟨b, off + j, none⟩) (Nat.lt_of_lt_of_le hlt hC)).trans hc⟩

/-- A cursor over n bytes that came in with world w0: its three cells are block g of world w. -/
structure Cur (T : TypeId) (w0 : World) (n : Nat) (w : World) (g : Nat) : Prop where
  below : Below w0.heap.size w0 w
  ge : w0.heap.size ≤ g
  blk : ∃ ao cap i h, Blk w g T [.slice ao n cap, .int .i64 i, .int .i64 h] ∧ 0 ≤ i ∧ i ≤ (n : Int) ∧ Bytes w0 ao n
  small : n ≤ 1048576

theorem Cur.carry {T : TypeId} {w0 w w' : World} {n g C : Nat} (h : Cur T w0 n w g) (hb : Below C w w') (hC : w.heap.size ≤ C) : Cur T w0 n w' g := by
  obtain ⟨ao, cap, i, x, hk, h0, h1, hB⟩ := h.blk
  have hs := h.below.size
  exact ⟨h.below.trans (hb.mono (by omega)), h.ge, ⟨ao, cap, i, x, hk.below hb (Nat.lt_of_lt_of_le hk.lt hC), h0, h1, hB⟩, h.small⟩
theorem Cur.lt {T : TypeId} {w0 w : World} {n g : Nat} (h : Cur T w0 n w g) : g < w.heap.size := by
  obtain ⟨_, _, _, _, hk, _⟩ := h.blk
  exact hk.lt

/-- A number in a range is handed back; the cursor is there still, and nothing but it has turned. -/
def DrawnI (T : TypeId) (lo hi : Int) (w0 : World) (n g : Nat) (w : World) (e : Ending) (w' : World) : Prop :=
  (∃ x : Int, lo ≤ x ∧ x ≤ hi ∧ e = .returned (.int .i64 x)) ∧ Cur T w0 n w' g ∧ w.grownBy w' (some g)

theorem and255 (x : Int) : 0 ≤ bits BinOp.and IntKind.i64 x 255 ∧ bits BinOp.and IntKind.i64 x 255 ≤ 255 := by
  have h2 : ((BitVec.ofInt 64 x) &&& (BitVec.ofInt 64 255)).toNat ≤ 255 := by
    rw [BitVec.toNat_and]
    exact Nat.and_le_right
  have e : bits BinOp.and IntKind.i64 x 255 = IntKind.i64.wrap (((BitVec.ofInt 64 x) &&& (BitVec.ofInt 64 255)).toNat : Int) := rfl
  rw [e, IntKind.wrap_i64]
  omega

theorem grownBy_trans {a b c : World} {row : Option Nat} (h : a.grownBy b row) (k : b.grownBy c row) : a.grownBy c row :=
  ⟨k.os.trans h.os, k.tape.trans h.tape, k.output.trans h.output, Nat.le_trans h.size k.size, fun i hi hne => (k.block i (Nat.lt_of_lt_of_le hi h.size) hne).trans (h.block i hi hne)⟩
theorem grownBy_below {a b : World} {C : Nat} (h : Below C a b) (hC : a.heap.size ≤ C) (row : Option Nat) : a.grownBy b row :=
  ⟨h.os, h.tape, h.output, h.size, fun i hi _ => h.block i (Nat.lt_of_lt_of_le hi hC)⟩
theorem grownBy_drewN {a b : World} {row : Option Nat} (h : a.grownBy b row) (n : Nat) : a.grownBy (b.drewN n) row := ⟨h.os, h.tape, h.output, h.size, h.block⟩
theorem grownBy_set {a b : World} {g : Nat} (h : a.grownBy b (some g)) (o : Nat) (u : Value) : a.grownBy (b.setCell ⟨g, o, none⟩ u) (some g) :=
  ⟨h.os, h.tape, h.output, by simpa [World.setCell] using h.size, fun i hi hne => (Below.heap_setCell _ _ _ _ (by intro e; exact hne (by rw [e]))).trans (h.block i hi hne)⟩
theorem below_only {a b : World} {g C : Nat} (h : a.grownBy b (some g)) (hg : C ≤ g) (hC : C ≤ a.heap.size) : Below C a b :=
  (Below.refl C a).grown h hC (fun k hk => by cases hk; exact hg)

end Go.Proofs.YtcehbmlibfalaaaDoor

/-
  Plain law: cut digests, hashes with a purpose, secrets and locks. No program in sight.
-/
namespace Go.Proofs.YtcehbmlibfalaaaDoor
open Go.RowKit

/-- The first n bytes of the digest; nothing where n is no width. -/
def cutL (l : List UInt8) (n : Int) : List UInt8 := if 1 ≤ n ∧ n ≤ 32 then (sha l).take n.toNat else []
theorem cutL_in {l : List UInt8} {n : Int} (h : 1 ≤ n ∧ n ≤ 32) : txt (cutL l n) = (txt (sha l)).extract 0 n.toNat := by
  rw [cutL, if_pos h, extract_txt, txt_data]
  congr 1
theorem cutL_out {l : List UInt8} {n : Int} (h : ¬ (1 ≤ n ∧ n ≤ 32)) : cutL l n = [] := by rw [cutL, if_neg h]
theorem cutL_length {l : List UInt8} {n : Int} (h : 1 ≤ n ∧ n ≤ 32) : (cutL l n).length = n.toNat := by
  rw [cutL, if_pos h, List.length_take, sha_length]; omega
theorem cutL_le (l : List UInt8) (n : Int) : (cutL l n).length ≤ 32 := by
  unfold cutL; split
  · rw [List.length_take, sha_length]; omega
  · simp

/-- A hash of strings with a purpose. -/
def hashT (k : Int) (ps : List ByteArray) (n : Int) : List UInt8 :=
  match tagL k ps with
  | none => []
  | some t => cutL t n
theorem hashT_le (k : Int) (ps : List ByteArray) (n : Int) : (hashT k ps n).length ≤ 32 := by
  unfold hashT; split
  · simp
  · exact cutL_le _ _
theorem tagL_len {k : Int} {ps : List ByteArray} {t : List UInt8} (h : tagL k ps = some t) : t.length ≤ 12181 := by
  unfold tagL at h
  split at h
  · next hc =>
    cases h
    have := tagBody_len hc.2.2.2
    rw [List.length_cons]
    omega
  · cases h
theorem tagL_one {k : Int} (hk : 1 ≤ k ∧ k ≤ 8) {s : ByteArray} (hs : s.size ≤ 200) : ∃ t, tagL k [s] = some t := by
  unfold tagL
  rw [if_pos ⟨hk.1, hk.2, by simp, by simpa using hs⟩]
  exact ⟨_, rfl⟩
theorem tagL_one_no {k : Int} {s : ByteArray} (hs : ¬ s.size ≤ 200) : tagL k [s] = none := by
  unfold tagL
  rw [if_neg (fun h => hs (by simpa using h.2.2.2))]

theorem rdS_one (w : World) (s : ByteArray) (e : TypeId) : RdS (w.alloc (.cells #[.string s] e)) (some ⟨w.heap.size, 0, none⟩) [s] := by
  intro j x hx
  refine ⟨_, _, rfl, ?_⟩
  have e1 : (w.alloc (.cells #[.string s] e)).cell? ⟨w.heap.size, 0 + j, none⟩ = _ := World.cell?_alloc_new w _ _ (0 + j)
  rw [e1, Nat.zero_add]
  cases j with
  | zero => simp at hx; subst hx; rfl
  | succ j => simp at hx
theorem rdS_two (w : World) (s t : ByteArray) (e : TypeId) : RdS (w.alloc (.cells #[.string s, .string t] e)) (some ⟨w.heap.size, 0, none⟩) [s, t] := by
  intro j x hx
  refine ⟨_, _, rfl, ?_⟩
  have e1 : (w.alloc (.cells #[.string s, .string t] e)).cell? ⟨w.heap.size, 0 + j, none⟩ = _ := World.cell?_alloc_new w _ _ (0 + j)
  rw [e1, Nat.zero_add]
  match j with
  | 0 => simp at hx; subst hx; rfl
  | 1 => simp at hx; subst hx; rfl
  | j + 2 => simp at hx

def lockL (s : ByteArray) : List UInt8 := hashT 6 [s] 16
/-- The three bytes of a secret's place. -/
def placeB (a b c : Int) : List UInt8 := [UInt8.ofNat a.toNat, UInt8.ofNat b.toNat, UInt8.ofNat c.toNat]
theorem place_cell {a b c : Int} (ha : 0 ≤ a ∧ a ≤ 255) (hb : 0 ≤ b ∧ b ≤ 255) (hc : 0 ≤ c ∧ c ≤ 255) : [Value.int .u8 a, Value.int .u8 b, Value.int .u8 c] = u8s (placeB a b c) := by
  have e : ∀ x : Int, 0 ≤ x ∧ x ≤ 255 → x = ((UInt8.ofNat x.toNat).toNat : Int) := fun x hx => by rw [ofNat_mod]; omega
  simp only [u8s, placeB, List.map_cons, List.map_nil]
  rw [← e a ha, ← e b hb, ← e c hc]
def SecOk (s : ByteArray) (a b c : Int) : Prop := s.size ≤ 100 ∧ (0 ≤ a ∧ a ≤ 15) ∧ (0 ≤ b ∧ b ≤ 7) ∧ (0 ≤ c ∧ c ≤ 1)
instance (s : ByteArray) (a b c : Int) : Decidable (SecOk s a b c) := by unfold SecOk; infer_instance
def secretL (s : ByteArray) (a b c : Int) : List UInt8 := if SecOk s a b c then hashT 5 [s, txt (placeB a b c)] 16 else []
theorem secretL_yes {s : ByteArray} {a b c : Int} (h : SecOk s a b c) : secretL s a b c = hashT 5 [s, txt (placeB a b c)] 16 := if_pos h
theorem secretL_no {s : ByteArray} {a b c : Int} (h : ¬ SecOk s a b c) : secretL s a b c = [] := if_neg h

/-- The bits that are signed. -/
def signB (s : ByteArray) : Nat := byt (hashT 7 [s] 16) 0

end Go.Proofs.YtcehbmlibfalaaaDoor

/-
  Plain law: public keys, pools, and their roots. No program in sight.
-/
namespace Go.Proofs.YtcehbmlibfalaaaDoor
open Go.RowKit

/-- The first n locks of a key. -/
def pubLocks (s : ByteArray) (a : Int) (n : Nat) : List ByteArray := (List.range n).map fun j => txt (lockL (txt (secretL s a ((j / 2 : Nat) : Int) ((j % 2 : Nat) : Int))))
theorem pubLocks_len (s : ByteArray) (a : Int) (n : Nat) : (pubLocks s a n).length = n := by simp [pubLocks]
theorem pubLocks_next (s : ByteArray) (a : Int) (b v : Nat) (hv : v < 2) : pubLocks s a (2 * b + v + 1) = pubLocks s a (2 * b + v) ++ [txt (lockL (txt (secretL s a b v)))] := by
  unfold pubLocks
  rw [List.range_succ, List.map_append, List.map_singleton]
  have e1 : (2 * b + v) / 2 = b := by omega
  have e2 : (2 * b + v) % 2 = v := by omega
  rw [e1, e2]
theorem pubLocks_size (s : ByteArray) (a : Int) (n : Nat) : ∀ x ∈ pubLocks s a n, x.size ≤ 32 := by
  intro x hx
  obtain ⟨j, _, rfl⟩ := List.mem_map.1 hx
  rw [txt_size]
  exact hashT_le _ _ _
/-- A public key. -/
def pubL (s : ByteArray) (a : Int) : List UInt8 := if s.size ≤ 100 ∧ 0 ≤ a ∧ a ≤ 15 then hashT 6 (pubLocks s a 16) 16 else []
theorem pubL_yes {s : ByteArray} {a : Int} (h : s.size ≤ 100 ∧ 0 ≤ a ∧ a ≤ 15) : pubL s a = hashT 6 (pubLocks s a 16) 16 := if_pos h
theorem pubL_no {s : ByteArray} {a : Int} (h : ¬ (s.size ≤ 100 ∧ 0 ≤ a ∧ a ≤ 15)) : pubL s a = [] := if_neg h
theorem pubL_le (s : ByteArray) (a : Int) : (pubL s a).length ≤ 32 := by
  unfold pubL; split
  · exact hashT_le _ _ _
  · simp
theorem tagL_two {k : Int} (hk : 1 ≤ k ∧ k ≤ 8) {s t : ByteArray} (hs : s.size ≤ 200) (ht : t.size ≤ 200) : ∃ r, tagL k [s, t] = some r := by
  unfold tagL
  rw [if_pos ⟨hk.1, hk.2, by simp, by simp [hs, ht]⟩]
  exact ⟨_, rfl⟩
theorem secret_len {s : ByteArray} {a b c : Int} (h : SecOk s a b c) : (secretL s a b c).length = 16 := by
  rw [secretL_yes h]
  obtain ⟨t, ht⟩ := tagL_two (k := 5) (by decide) (s := s) (t := txt (placeB a b c)) (by have := h.1; omega) (by rw [txt_size]; simp [placeB])
  unfold hashT
  rw [ht]
  exact cutL_length (by decide)
theorem secret_le (s : ByteArray) (a b c : Int) : (secretL s a b c).length ≤ 32 := by
  unfold secretL; split
  · exact hashT_le _ _ _
  · simp
theorem full_text {l : List UInt8} (h : l.length = 16) : (txt l).toList.isEmpty = false ∧ ((txt l).toList == []) = false := by
  constructor
  · rw [ByteArray.toList_eq, txt_data, List.isEmpty_eq_false_iff]
    intro h2; rw [h2] at h; cases h
  · rw [ByteArray.toList_eq, txt_data, beq_eq_false_iff_ne]
    intro h2; rw [h2] at h; cases h

/-- The pool of a seed: the first n keys. -/
def poolTo (s : ByteArray) (n : Nat) : List ByteArray := (List.range n).map fun j => txt (pubL s (j : Nat))
theorem poolTo_len (s : ByteArray) (n : Nat) : (poolTo s n).length = n := by simp [poolTo]
theorem poolTo_next (s : ByteArray) (n : Nat) : poolTo s (n + 1) = poolTo s n ++ [txt (pubL s (n : Nat))] := by
  unfold poolTo
  rw [List.range_succ, List.map_append, List.map_singleton]

/-- One level up: the hashes of neighbours, the first n. -/
def upTo (l : List ByteArray) (n : Nat) : List ByteArray := (List.range n).map fun j => txt (hashT 3 [l.getD (2 * j) ByteArray.empty, l.getD (2 * j + 1) ByteArray.empty] 16)
theorem upTo_len (l : List ByteArray) (n : Nat) : (upTo l n).length = n := by simp [upTo]
theorem upTo_next {l : List ByteArray} {n : Nat} {x y : ByteArray} (hx : l[2 * n]? = some x) (hy : l[2 * n + 1]? = some y) : upTo l (n + 1) = upTo l n ++ [txt (hashT 3 [x, y] 16)] := by
  unfold upTo
  rw [List.range_succ, List.map_append, List.map_singleton, List.getD_eq_getElem?_getD, List.getD_eq_getElem?_getD, hx, hy]
  rfl
theorem upTo_size (l : List ByteArray) (n : Nat) : ∀ x ∈ upTo l n, x.size ≤ 32 := by
  intro x hx
  obtain ⟨j, _, rfl⟩ := List.mem_map.1 hx
  rw [txt_size]
  exact hashT_le _ _ _
def upL (l : List ByteArray) : List ByteArray := upTo l (l.length / 2)
theorem upL_len (l : List ByteArray) : (upL l).length = l.length / 2 := upTo_len _ _
theorem upL_size (l : List ByteArray) : ∀ x ∈ upL l, x.size ≤ 32 := upTo_size _ _
/-- k levels up. -/
def upN : Nat → List ByteArray → List ByteArray
  | 0, l => l
  | k + 1, l => upL (upN k l)
theorem upN_len {l : List ByteArray} (h : l.length = 16) : (k : Nat) → (hk : k ≤ 4) → (upN k l).length = 2 ^ (4 - k)
  | 0, _ => h
  | k + 1, hk => by
    unfold upN
    rw [upL_len, upN_len h k (by omega), show 4 - k = (4 - (k + 1)) + 1 by omega, Nat.pow_succ]
    omega
theorem upN_size {l : List ByteArray} {m : Nat} (hm : 32 ≤ m) (h : ∀ x ∈ l, x.size ≤ m) : (k : Nat) → ∀ x ∈ upN k l, x.size ≤ m
  | 0 => h
  | _ + 1 => fun x hx => Nat.le_trans (upL_size _ x hx) hm
/-- The root of a pool. -/
def rootL (l : List ByteArray) : ByteArray := if l.length = 16 then (upN 4 l).getD 0 ByteArray.empty else ⟨#[]⟩

end Go.Proofs.YtcehbmlibfalaaaDoor

/-
  Plain law: what a signature's strings are, when it has the form, and what is hashed to verify it. No program in sight.
-/
namespace Go.Proofs.YtcehbmlibfalaaaDoor
open Go.RowKit

/-- So many strings of 16 bytes. -/
def WideL (l : List ByteArray) (n : Nat) : Prop := l.length = n ∧ ∀ x ∈ l, x.size = 16
instance (l : List ByteArray) (n : Nat) : Decidable (WideL l n) := by unfold WideL; infer_instance
/-- A signature of the required form. -/
def SigForm (p : Int) (o s d : List ByteArray) : Prop := (0 ≤ p ∧ p ≤ 15) ∧ WideL o 8 ∧ WideL s 8 ∧ WideL d 4
instance (p : Int) (o s d : List ByteArray) : Decidable (SigForm p o s d) := by unfold SigForm; infer_instance

/-- The text that is hashed. -/
def tagT (k : Int) (ps : List ByteArray) : ByteArray := match tagL k ps with
  | none => ⟨#[]⟩
  | some t => txt t
theorem tagT_some {k : Int} {ps : List ByteArray} {t : List UInt8} (h : tagL k ps = some t) : tagT k ps = txt t := by unfold tagT; rw [h]
theorem tagL_few {k : Int} (hk : 1 ≤ k ∧ k ≤ 8) {ps : List ByteArray} (hl : ps.length ≤ 60) (h : ∀ p ∈ ps, p.size ≤ 200) : ∃ t, tagL k ps = some t := by
  unfold tagL
  rw [if_pos ⟨hk.1, hk.2, hl, h⟩]
  exact ⟨_, rfl⟩
theorem tagT_opt {k : Int} (hk : 1 ≤ k ∧ k ≤ 8) {ps : List ByteArray} (hl : ps.length ≤ 60) (h : ∀ p ∈ ps, p.size ≤ 200) : optTxt (tagL k ps) = .tuple #[.string (tagT k ps), .bool true] := by
  obtain ⟨t, ht⟩ := tagL_few hk hl h
  rw [tagT_some ht, ht]; rfl
/-- The hash of a text, as a string. -/
def cutT (t : ByteArray) : ByteArray := txt (cutL t.data.toList 16)
theorem cutT_size (t : ByteArray) : (cutT t).size = 16 := by
  unfold cutT
  rw [txt_size, cutL_length (by decide)]; rfl
theorem hash_cutT {k : Int} (hk : 1 ≤ k ∧ k ≤ 8) {ps : List ByteArray} (hl : ps.length ≤ 60) (h : ∀ p ∈ ps, p.size ≤ 200) : txt (hashT k ps 16) = cutT (tagT k ps) := by
  obtain ⟨t, ht⟩ := tagL_few hk hl h
  unfold hashT cutT
  rw [tagT_some ht, ht, txt_data]
theorem tagT_size (k : Int) (ps : List ByteArray) : (tagT k ps).size ≤ 12181 := by
  cases h : tagL k ps with
  | none => unfold tagT; rw [h]; decide
  | some t => rw [tagT_some h, txt_size]; exact tagL_len h

def lockS (s : ByteArray) : ByteArray := cutT (tagT 6 [s])
theorem lockS_eq {s : ByteArray} (h : s.size ≤ 200) : txt (lockL s) = lockS s := by
  unfold lockL
  exact hash_cutT (by decide) (by simp) (by simpa using h)
theorem lockS_size (s : ByteArray) : (lockS s).size = 16 := cutT_size _

/-- The two locks of each bit, the first n bits. -/
def pairAt (b : Int) (j : Nat) (x y : ByteArray) : List ByteArray := if bitOf b j = 0 then [lockS x, y] else [y, lockS x]
def sideTo (b : Int) (o s : List ByteArray) (n : Nat) : List ByteArray := (List.range n).flatMap fun j => pairAt b j (o.getD j ByteArray.empty) (s.getD j ByteArray.empty)
theorem pairAt_len (b : Int) (j : Nat) (x y : ByteArray) : (pairAt b j x y).length = 2 := by unfold pairAt; split <;> rfl
theorem sideTo_next {b : Int} {o s : List ByteArray} {n : Nat} {x y : ByteArray} (hx : o[n]? = some x) (hy : s[n]? = some y) : sideTo b o s (n + 1) = sideTo b o s n ++ pairAt b n x y := by
  unfold sideTo
  rw [List.range_succ, List.flatMap_append, List.flatMap_singleton, List.getD_eq_getElem?_getD, List.getD_eq_getElem?_getD, hx, hy]
  rfl
theorem sideTo_len (b : Int) (o s : List ByteArray) (n : Nat) : (sideTo b o s n).length = 2 * n := by
  induction n with
  | zero => rfl
  | succ n ih =>
    unfold sideTo at *
    rw [List.range_succ, List.flatMap_append, List.length_append, ih, List.flatMap_singleton, pairAt_len]; omega
theorem sideTo_size {b : Int} {o s : List ByteArray} (hs : ∀ x ∈ s, x.size = 16) (n : Nat) (hn : n ≤ s.length) : ∀ x ∈ sideTo b o s n, x.size = 16 := by
  intro x hx
  obtain ⟨j, hj, hx⟩ := List.mem_flatMap.1 hx
  have hjs : j < s.length := by have := List.mem_range.1 hj; omega
  have h1 : (s.getD j ByteArray.empty).size = 16 := by
    rw [List.getD_eq_getElem?_getD, List.getElem?_eq_getElem hjs]
    exact hs _ (List.getElem_mem hjs)
  unfold pairAt at hx
  split at hx <;> simp at hx <;> rcases hx with rfl | rfl <;> first | exact lockS_size _ | exact h1

/-- The texts of the opened locks, the first n. -/
def leafTo (o : List ByteArray) (n : Nat) : List ByteArray := (List.range n).map fun j => tagT 6 [o.getD j ByteArray.empty]
theorem leafTo_len (o : List ByteArray) (n : Nat) : (leafTo o n).length = n := by simp [leafTo]
theorem leafTo_next {o : List ByteArray} {n : Nat} {x : ByteArray} (hx : o[n]? = some x) : leafTo o (n + 1) = leafTo o n ++ [tagT 6 [x]] := by
  unfold leafTo
  rw [List.range_succ, List.map_append, List.map_singleton, List.getD_eq_getElem?_getD, hx]
  rfl

/-- The text k levels up. -/
def nodeT (q : Nat) (h x : ByteArray) : ByteArray := if q % 2 = 0 then tagT 3 [h, x] else tagT 3 [x, h]
def climbT (p : Nat) (d : List ByteArray) (t0 : ByteArray) : Nat → ByteArray
  | 0 => t0
  | k + 1 => nodeT (p / 2 ^ k) (cutT (climbT p d t0 k)) (d.getD k ByteArray.empty)
def climbTo (p : Nat) (d : List ByteArray) (t0 : ByteArray) (n : Nat) : List ByteArray := (List.range n).map fun k => climbT p d t0 (k + 1)
theorem climbTo_len (p : Nat) (d : List ByteArray) (t0 : ByteArray) (n : Nat) : (climbTo p d t0 n).length = n := by simp [climbTo]
theorem climbT_next {p : Nat} {d : List ByteArray} {t0 : ByteArray} {n : Nat} {x : ByteArray} (hx : d[n]? = some x) : climbT p d t0 (n + 1) = nodeT (p / 2 ^ n) (cutT (climbT p d t0 n)) x := by
  rw [climbT, List.getD_eq_getElem?_getD, hx]; rfl
theorem climbTo_next (p : Nat) (d : List ByteArray) (t0 : ByteArray) (n : Nat) : climbTo p d t0 (n + 1) = climbTo p d t0 n ++ [climbT p d t0 (n + 1)] := by
  unfold climbTo
  rw [List.range_succ, List.map_append, List.map_singleton]

/-- All that is hashed. -/
def keyT (t : ByteArray) (o s : List ByteArray) : ByteArray := tagT 6 (sideTo (signB t : Nat) o s 8)
def sigTo (t : ByteArray) (p : Int) (o s d : List ByteArray) (n : Nat) : List ByteArray := leafTo o 8 ++ [keyT t o s] ++ climbTo p.toNat d (keyT t o s) n
theorem sigTo_len (t : ByteArray) (p : Int) (o s d : List ByteArray) (n : Nat) : (sigTo t p o s d n).length = 9 + n := by
  simp [sigTo, leafTo_len, climbTo_len]; omega
theorem sigTo_next (t : ByteArray) (p : Int) (o s d : List ByteArray) (n : Nat) : sigTo t p o s d (n + 1) = sigTo t p o s d n ++ [climbT p.toNat d (keyT t o s) (n + 1)] := by
  unfold sigTo
  simp only [climbTo_next, List.append_assoc]
theorem sigTo_last (t : ByteArray) (p : Int) (o s d : List ByteArray) (n : Nat) : (sigTo t p o s d n)[8 + n]? = some (climbT p.toNat d (keyT t o s) n) := by
  cases n with
  | zero => rw [sigTo, List.getElem?_append_left (by simp [leafTo_len]), List.getElem?_append_right (by rw [leafTo_len]; exact Nat.le_refl _), leafTo_len]; rfl
  | succ n =>
    rw [sigTo_next, List.getElem?_append_right (by rw [sigTo_len]; omega), sigTo_len, show 8 + (n + 1) - (9 + n) = 0 by omega]; rfl
def SigGood (t : ByteArray) (p : Int) (o s d : List ByteArray) : Prop := SigForm p o s d ∧ t.size ≤ 200
instance (t : ByteArray) (p : Int) (o s d : List ByteArray) : Decidable (SigGood t p o s d) := by unfold SigGood; infer_instance
def sigTexts (t : ByteArray) (p : Int) (o s d : List ByteArray) : List ByteArray := if SigGood t p o s d then sigTo t p o s d 4 else []
theorem sigTexts_yes {t : ByteArray} {p : Int} {o s d : List ByteArray} (h : SigGood t p o s d) : sigTexts t p o s d = sigTo t p o s d 4 := if_pos h
theorem sigTexts_no {t : ByteArray} {p : Int} {o s d : List ByteArray} (h : ¬ SigGood t p o s d) : sigTexts t p o s d = [] := if_neg h
theorem sigTo_size (t : ByteArray) (p : Int) (o s d : List ByteArray) (n : Nat) : ∀ x ∈ sigTo t p o s d n, x.size ≤ 12181 := by
  intro x hx
  unfold sigTo at hx
  rcases List.mem_append.1 hx with hx | hx
  · rcases List.mem_append.1 hx with hx | hx
    · obtain ⟨j, _, rfl⟩ := List.mem_map.1 hx
      exact tagT_size _ _
    · rw [List.mem_singleton.1 hx]; exact tagT_size _ _
  · obtain ⟨j, _, rfl⟩ := List.mem_map.1 hx
    unfold climbT nodeT
    split <;> exact tagT_size _ _
/-- The root that a signature tells. -/
def sigRoot (t : ByteArray) (p : Int) (o s d : List ByteArray) (n : Nat) : ByteArray := cutT (climbT p.toNat d (keyT t o s) n)
def sigOk (r t : ByteArray) (p : Int) (o s d : List ByteArray) : Bool := decide (SigGood t p o s d) && decide (sigRoot t p o s d 4 = r)
theorem sigOk_no {r t : ByteArray} {p : Int} {o s d : List ByteArray} (h : ¬ SigGood t p o s d) : sigOk r t p o s d = false := by unfold sigOk; rw [decide_eq_false h]; rfl
theorem sigOk_yes {r t : ByteArray} {p : Int} {o s d : List ByteArray} (h : SigGood t p o s d) : sigOk r t p o s d = decide (sigRoot t p o s d 4 = r) := by unfold sigOk; rw [decide_eq_true h]; rfl

end Go.Proofs.YtcehbmlibfalaaaDoor

/-
  Signatures: how they are read and owned. No program in sight.
-/
namespace Go.Proofs.YtcehbmlibfalaaaDoor
open Go.RowKit

/-- A signature's value. -/
def sigV (p : Int) (vo vs vd : Value) : Value := .agg #[.int .i64 p, vo, vs, vd]
/-- A signature that came in reads so. -/
def RdSig (w : World) (v : Value) (p : Int) (o s d : List ByteArray) : Prop :=
  ∃ a1 c1 a2 c2 a3 c3, v = .agg #[.int .i64 p, .slice a1 o.length c1, .slice a2 s.length c2, .slice a3 d.length c3] ∧ RdS w a1 o ∧ RdS w a2 s ∧ RdS w a3 d
theorem RdSig.below {w w' : World} {v : Value} {p : Int} {o s d : List ByteArray} {C : Nat} (h : RdSig w v p o s d) (hb : Below C w w') (hC : w.heap.size ≤ C) : RdSig w' v p o s d := by
  obtain ⟨a1, c1, a2, c2, a3, c3, e, h1, h2, h3⟩ := h
  exact ⟨a1, c1, a2, c2, a3, c3, e, h1.below hb hC, h2.below hb hC, h3.below hb hC⟩
/-- A signature of the call's own: its rows are apart, and lie from B on and below C. -/
structure OwnSig (w : World) (B C : Nat) (v : Value) (p : Int) (vo vs vd : Value) (o s d : List ByteArray) : Prop where
  eq : v = .agg #[.int .i64 p, vo, vs, vd]
  o : OwnS w B vo o
  s : OwnS w B vs s
  d : OwnS w B vd d
  os : vs.ownBlock = none ∨ vs.ownBlock ≠ vo.ownBlock
  od : vd.ownBlock = none ∨ vd.ownBlock ≠ vo.ownBlock
  sd : vd.ownBlock = none ∨ vd.ownBlock ≠ vs.ownBlock
  lo : ∀ k, vo.ownBlock = some k → k < C
  ls : ∀ k, vs.ownBlock = some k → k < C
  ld : ∀ k, vd.ownBlock = some k → k < C
theorem OwnSig.rd {w : World} {B C : Nat} {v : Value} {p : Int} {vo vs vd : Value} {o s d : List ByteArray} (h : OwnSig w B C v p vo vs vd o s d) : RdSig w v p o s d := by
  obtain ⟨a1, c1, eo, h1⟩ := h.o.rd
  obtain ⟨a2, c2, es, h2⟩ := h.s.rd
  obtain ⟨a3, c3, ed, h3⟩ := h.d.rd
  exact ⟨a1, c1, a2, c2, a3, c3, by rw [h.eq, eo, es, ed], h1, h2, h3⟩
theorem OwnSig.below {w w' : World} {B C D : Nat} {v : Value} {p : Int} {vo vs vd : Value} {o s d : List ByteArray} (h : OwnSig w B C v p vo vs vd o s d) (hb : Below D w w') (hD : w.heap.size ≤ D) : OwnSig w' B C v p vo vs vd o s d :=
  { h with o := h.o.below hb hD, s := h.s.below hb hD, d := h.d.below hb hD }

end Go.Proofs.YtcehbmlibfalaaaDoor

/-
  Plain law: what signs a text; a signature under work, its three rows apart. No program in sight.
-/
namespace Go.Proofs.YtcehbmlibfalaaaDoor
open Go.RowKit

def opnTo (s : ByteArray) (a b : Int) (n : Nat) : List ByteArray := (List.range n).map fun j => txt (secretL s a (j : Nat) (bitOf b (j : Nat)))
def shtTo (s : ByteArray) (a b : Int) (n : Nat) : List ByteArray := (List.range n).map fun j => txt (lockL (txt (secretL s a (j : Nat) (1 - bitOf b (j : Nat)))))
def sidTo (l : List ByteArray) (a : Nat) (n : Nat) : List ByteArray := (List.range n).map fun j => (upN j l).getD ((a / 2 ^ j) ^^^ 1) ByteArray.empty
theorem opnTo_next (s : ByteArray) (a b : Int) (n : Nat) : opnTo s a b (n + 1) = opnTo s a b n ++ [txt (secretL s a (n : Nat) (bitOf b (n : Nat)))] := by
  unfold opnTo; rw [List.range_succ, List.map_append, List.map_singleton]
theorem shtTo_next (s : ByteArray) (a b : Int) (n : Nat) : shtTo s a b (n + 1) = shtTo s a b n ++ [txt (lockL (txt (secretL s a (n : Nat) (1 - bitOf b (n : Nat)))))] := by
  unfold shtTo; rw [List.range_succ, List.map_append, List.map_singleton]
theorem sidTo_next {l : List ByteArray} {a n : Nat} {x : ByteArray} (hx : (upN n l)[(a / 2 ^ n) ^^^ 1]? = some x) : sidTo l a (n + 1) = sidTo l a n ++ [x] := by
  unfold sidTo; rw [List.range_succ, List.map_append, List.map_singleton, List.getD_eq_getElem?_getD, hx]; rfl
theorem opnTo_len (s : ByteArray) (a b : Int) (n : Nat) : (opnTo s a b n).length = n := by simp [opnTo]
theorem shtTo_len (s : ByteArray) (a b : Int) (n : Nat) : (shtTo s a b n).length = n := by simp [shtTo]
theorem sidTo_len (l : List ByteArray) (a n : Nat) : (sidTo l a n).length = n := by simp [sidTo]
/-- The place beside. -/
theorem beside_xor {k : Nat} (h : k < 16) : bits BinOp.xor IntKind.i64 (k : Int) 1 = ((k ^^^ 1 : Nat) : Int) := by
  have : ∀ k : Fin 16, bits BinOp.xor IntKind.i64 ((k.val : Nat) : Int) 1 = ((k.val ^^^ 1 : Nat) : Int) := by decide +kernel
  exact this ⟨k, h⟩
theorem beside_lt {a j : Nat} (ha : a < 16) (hj : j < 4) : a / 2 ^ j < 2 ^ (4 - j) ∧ (a / 2 ^ j) ^^^ 1 < 2 ^ (4 - j) := by
  have : ∀ (a : Fin 16) (j : Fin 4), a.val / 2 ^ j.val < 2 ^ (4 - j.val) ∧ (a.val / 2 ^ j.val) ^^^ 1 < 2 ^ (4 - j.val) := by decide +kernel
  exact this ⟨a, ha⟩ ⟨j, hj⟩
theorem bit_range (b : Int) (j : Nat) : 0 ≤ bitOf b (j : Nat) ∧ bitOf b (j : Nat) ≤ 1 := by
  unfold bitOf
  split
  · have h2 : ∀ x : Int, ((BitVec.ofInt 64 x) &&& (BitVec.ofInt 64 1)).toNat ≤ 1 := fun x => by
      rw [BitVec.toNat_and]
      exact Nat.and_le_right
    have e : ∀ x : Int, bits BinOp.and IntKind.i64 x 1 = IntKind.i64.wrap (((BitVec.ofInt 64 x) &&& (BitVec.ofInt 64 1)).toNat : Int) := fun x => rfl
    have h3 := h2 (b / 2 ^ (7 - (j : Int)).toNat)
    rw [e, IntKind.wrap_i64]
    omega
  · omega

def SignGood (s : ByteArray) (l : List ByteArray) (a : Int) (t : ByteArray) : Prop := (l.length = 16 ∧ (0 ≤ a ∧ a ≤ 15) ∧ t.size ≤ 200) ∧ s.size ≤ 100 ∧ l[a.toNat]? = some (txt (pubL s a))
instance (s : ByteArray) (l : List ByteArray) (a : Int) (t : ByteArray) : Decidable (SignGood s l a t) := by unfold SignGood; infer_instance
/-- The two results. -/
def signR (s : ByteArray) (l : List ByteArray) (a : Int) (t : ByteArray) : (Int × List ByteArray × List ByteArray × List ByteArray) × Bool :=
  if SignGood s l a t then ((a, opnTo s a (signB t : Nat) 8, shtTo s a (signB t : Nat) 8, sidTo l a.toNat 4), true) else ((0, [], [], []), false)
theorem signR_yes {s : ByteArray} {l : List ByteArray} {a : Int} {t : ByteArray} (h : SignGood s l a t) : signR s l a t = ((a, opnTo s a (signB t : Nat) 8, shtTo s a (signB t : Nat) 8, sidTo l a.toNat 4), true) := if_pos h
theorem signR_no {s : ByteArray} {l : List ByteArray} {a : Int} {t : ByteArray} (h : ¬ SignGood s l a t) : signR s l a t = ((0, [], [], []), false) := if_neg h
theorem signR_len (s : ByteArray) (l : List ByteArray) (a : Int) (t : ByteArray) : (signR s l a t).1.2.1.length ≤ 8 ∧ (signR s l a t).1.2.2.1.length ≤ 8 ∧ (signR s l a t).1.2.2.2.length ≤ 4 := by
  unfold signR
  split
  · simp [opnTo_len, shtTo_len, sidTo_len]
  · simp
/-- A signature of the call's own and a bool are handed back. -/
def GivesSig2 (B : Nat) (r : (Int × List ByteArray × List ByteArray × List ByteArray) × Bool) (e : Ending) (w' : World) : Prop :=
  ∃ v vo vs vd, e = .returned (.tuple #[v, .bool r.2]) ∧ OwnSig w' B w'.heap.size v r.1.1 vo vs vd r.1.2.1 r.1.2.2.1 r.1.2.2.2
theorem OwnSig.none_yet (w : World) (B C : Nat) (p : Int) : OwnSig w B C (.agg #[.int .i64 p, .slice none 0 0, .slice none 0 0, .slice none 0 0]) p (.slice none 0 0) (.slice none 0 0) (.slice none 0 0) [] [] [] :=
  ⟨rfl, Own.nil _ _ _, Own.nil _ _ _, Own.nil _ _ _, .inl rfl, .inl rfl, .inl rfl, (fun k hk => by cases hk), (fun k hk => by cases hk), (fun k hk => by cases hk)⟩

/-- A signature under work: its box is block sb, that of the result rb; its rows lie from B on. -/
structure SignSt (w : World) (T : TypeId) (rb sb B : Nat) (p : Int) (vo vs vd : Value) (o s d : List ByteArray) (W : World) : Prop where
  sig : OwnSig W B W.heap.size (.agg #[.int .i64 p, vo, vs, vd]) p vo vs vd o s d
  box : Blk W sb T [.int .i64 p, vo, vs, vd]
  res : Blk W rb T [.int .i64 0, .slice none 0 0, .slice none 0 0, .slice none 0 0]
  size : B ≤ W.heap.size
  low : Below w.heap.size w W
  sB : sb < B
  rB : rb < B
  rs : rb ≠ sb
  ws : w.heap.size ≤ sb
  wr : w.heap.size ≤ rb
section
variable {w W W' : World} {T : TypeId} {rb sb B : Nat} {p : Int} {vo vs vd : Value} {o s d : List ByteArray}
theorem SignSt.below (h : SignSt w T rb sb B p vo vs vd o s d W) (hb : Below W.heap.size W W') : SignSt w T rb sb B p vo vs vd o s d W' :=
  ⟨{ h.sig.below hb (Nat.le_refl _) with lo := fun k hk => Nat.lt_of_lt_of_le (h.sig.lo k hk) hb.size, ls := fun k hk => Nat.lt_of_lt_of_le (h.sig.ls k hk) hb.size, ld := fun k hk => Nat.lt_of_lt_of_le (h.sig.ld k hk) hb.size },
    h.box.below hb h.box.lt, h.res.below hb h.res.lt, Nat.le_trans h.size hb.size, h.low.trans (hb.mono h.low.size), h.sB, h.rB, h.rs, h.ws, h.wr⟩
theorem SignSt.cells (h : SignSt w T rb sb B p vo vs vd o s d W) : W.cell? ⟨sb, 0, none⟩ = some (.int .i64 p) ∧ W.cell? ⟨sb, 1, none⟩ = some vo ∧ W.cell? ⟨sb, 2, none⟩ = some vs ∧ W.cell? ⟨sb, 3, none⟩ = some vd :=
  ⟨h.box.cell 0, h.box.cell 1, h.box.cell 2, h.box.cell 3⟩
theorem apart_sym' {u v : Value} (h : u.ownBlock = none ∨ u.ownBlock ≠ v.ownBlock) : v.ownBlock = none ∨ v.ownBlock ≠ u.ownBlock := by
  rcases h with h | h
  · cases hv : v.ownBlock with
    | none => exact .inl rfl
    | some k => exact .inr (by rw [h]; simp)
  · exact .inr (fun e => h e.symm)
theorem SignSt.stored (h : SignSt w T rb sb B p vo vs vd o s d W) {row : Option Nat} (hg : W.grownBy W' row) (hr : ∀ k, row = some k → B ≤ k) (i : Nat) (u : Value) : Blk (W'.setCell ⟨sb, i, none⟩ u) sb T ([.int .i64 p, vo, vs, vd].set i u) ∧ Blk (W'.setCell ⟨sb, i, none⟩ u) rb T [.int .i64 0, .slice none 0 0, .slice none 0 0, .slice none 0 0] ∧ B ≤ (W'.setCell ⟨sb, i, none⟩ u).heap.size ∧ Below w.heap.size w (W'.setCell ⟨sb, i, none⟩ u) := by
  have hs := h.sB
  have hrb := h.rB
  have hz : (W'.setCell ⟨sb, i, none⟩ u).heap.size = W'.heap.size := by simp [World.setCell]
  have hw : w.heap.size ≤ B := by have := h.ws; omega
  refine ⟨(h.box.kept hg (fun e => by have := hr _ e.symm; omega)).set_ i u, (h.res.kept hg (fun e => by have := hr _ e.symm; omega)).far (p := ⟨sb, i, none⟩) (by simpa using h.rs) _, by rw [hz]; exact Nat.le_trans h.size hg.size, ?_⟩
  exact (h.low.grown hg h.low.size (fun k hk => by have := hr k hk; omega)).setCell (p := ⟨sb, i, none⟩) h.ws _
theorem SignSt.pushO (h : SignSt w T rb sb B p vo vs vd o s d W) {u : Value} {l : List ByteArray} (ho : OwnS W' B u l) (hg : W.grownBy W' vo.ownBlock) (hp : ∀ k, u.ownBlock = some k → vo.ownBlock = some k ∨ W.heap.size ≤ k) : SignSt w T rb sb B p u vs vd l s d (W'.setCell ⟨sb, 1, none⟩ u) := by
  obtain ⟨h1, h2, h3, h4⟩ := h.stored hg (fun k hk => (Own.block h.sig.o _ hk).1) 1 u
  have hz : (W'.setCell ⟨sb, 1, none⟩ u).heap.size = W'.heap.size := by simp [World.setCell]
  have hsz := hg.size
  exact ⟨⟨rfl, Own.setCell ho (a := ⟨sb, 1, none⟩) h.sB _, Own.setCell (Own.kept h.sig.s hg h.sig.os) (a := ⟨sb, 1, none⟩) h.sB _, Own.setCell (Own.kept h.sig.d hg h.sig.od) (a := ⟨sb, 1, none⟩) h.sB _, apart_grow h.sig.os h.sig.ls hp, apart_grow h.sig.od h.sig.ld hp, h.sig.sd,
    fun k hk => by rw [hz]; exact (Own.block ho _ hk).2, fun k hk => by rw [hz]; have := h.sig.ls k hk; omega, fun k hk => by rw [hz]; have := h.sig.ld k hk; omega⟩, h1, h2, h3, h4, h.sB, h.rB, h.rs, h.ws, h.wr⟩
theorem SignSt.pushS (h : SignSt w T rb sb B p vo vs vd o s d W) {u : Value} {l : List ByteArray} (ho : OwnS W' B u l) (hg : W.grownBy W' vs.ownBlock) (hp : ∀ k, u.ownBlock = some k → vs.ownBlock = some k ∨ W.heap.size ≤ k) : SignSt w T rb sb B p vo u vd o l d (W'.setCell ⟨sb, 2, none⟩ u) := by
  obtain ⟨h1, h2, h3, h4⟩ := h.stored hg (fun k hk => (Own.block h.sig.s _ hk).1) 2 u
  have hz : (W'.setCell ⟨sb, 2, none⟩ u).heap.size = W'.heap.size := by simp [World.setCell]
  have hsz := hg.size
  exact ⟨⟨rfl, Own.setCell (Own.kept h.sig.o hg (apart_sym' h.sig.os)) (a := ⟨sb, 2, none⟩) h.sB _, Own.setCell ho (a := ⟨sb, 2, none⟩) h.sB _, Own.setCell (Own.kept h.sig.d hg h.sig.sd) (a := ⟨sb, 2, none⟩) h.sB _, apart_sym' (apart_grow (apart_sym' h.sig.os) h.sig.lo hp), h.sig.od, apart_grow h.sig.sd h.sig.ld hp,
    fun k hk => by rw [hz]; have := h.sig.lo k hk; omega, fun k hk => by rw [hz]; exact (Own.block ho _ hk).2, fun k hk => by rw [hz]; have := h.sig.ld k hk; omega⟩, h1, h2, h3, h4, h.sB, h.rB, h.rs, h.ws, h.wr⟩
theorem SignSt.pushD (h : SignSt w T rb sb B p vo vs vd o s d W) {u : Value} {l : List ByteArray} (ho : OwnS W' B u l) (hg : W.grownBy W' vd.ownBlock) (hp : ∀ k, u.ownBlock = some k → vd.ownBlock = some k ∨ W.heap.size ≤ k) : SignSt w T rb sb B p vo vs u o s l (W'.setCell ⟨sb, 3, none⟩ u) := by
  obtain ⟨h1, h2, h3, h4⟩ := h.stored hg (fun k hk => (Own.block h.sig.d _ hk).1) 3 u
  have hz : (W'.setCell ⟨sb, 3, none⟩ u).heap.size = W'.heap.size := by simp [World.setCell]
  have hsz := hg.size
  exact ⟨⟨rfl, Own.setCell (Own.kept h.sig.o hg (apart_sym' h.sig.od)) (a := ⟨sb, 3, none⟩) h.sB _, Own.setCell (Own.kept h.sig.s hg (apart_sym' h.sig.sd)) (a := ⟨sb, 3, none⟩) h.sB _, Own.setCell ho (a := ⟨sb, 3, none⟩) h.sB _, h.sig.os, apart_sym' (apart_grow (apart_sym' h.sig.od) h.sig.lo hp), apart_sym' (apart_grow (apart_sym' h.sig.sd) h.sig.ls hp),
    fun k hk => by rw [hz]; have := h.sig.lo k hk; omega, fun k hk => by rw [hz]; have := h.sig.ls k hk; omega, fun k hk => by rw [hz]; exact (Own.block ho _ hk).2⟩, h1, h2, h3, h4, h.sB, h.rB, h.rs, h.ws, h.wr⟩
end

/-- Two results, the first of which lies in a cell. -/
theorem results_cell_row_tmpS {fn : Func} {p u : Tmp} {ty : TypeId} (h : fn.results = #[.cell p ty, .tmp u]) (tmps : Array Value) (P : Program) (w : World) (g : Nat) (t : TypeId) (cs : Array Value) (fr : Nat × Nat) (fs : Array Field) (x : Value)
    (hp : tmps.getD p undef = .pointer (some ⟨g, 0, none⟩)) (hx : tmps.getD u undef = x) (hg : w.heap[g]? = some (.cells cs t fr))
    (hu : P.underlying ty = some (.struct fs)) (hi : (P.info? ty).map (·.size) = some cs.size) :
    (results fn tmps).run P w = .ok (.tuple #[.agg cs, x]) w := by
  rw [results_cell_tmp h, hp, hx]
  have e := run_loadVar_row w g t ty cs fr _ hg hu rfl hi
  simp [asAddr, Result.andThen]
  rw [e]
/-- A row that is read lies apart from a row of the call's own, and from a box. -/
def ApartA (am : Option Addr) (u : Value) (sb : Nat) : Prop := ∀ b off, am = some ⟨b, off, none⟩ → u.ownBlock ≠ some b ∧ b ≠ sb
theorem rdS_far {w w' : World} {ao : Option Addr} {l : List ByteArray} {row : Option Nat} {sb i : Nat} {v : Value} (h : RdS w ao l) (hg : w.grownBy w' row) (hne : ∀ b off, ao = some ⟨b, off, none⟩ → row ≠ some b ∧ b ≠ sb) : RdS (w'.setCell ⟨sb, i, none⟩ v) ao l := by
  intro j x hx
  obtain ⟨b, off, e, hc⟩ := h j x hx
  have hlt := World.block_lt_of_cell? _ _ hc
  obtain ⟨h1, h2⟩ := hne b off e
  have e1 : w'.heap[b]? = w.heap[b]? := hg.block b hlt (fun e' => h1 e'.symm)
  have e2 : (w'.setCell ⟨sb, i, none⟩ v).heap[b]? = w'.heap[b]? := Below.heap_setCell _ _ _ _ h2
  exact ⟨b, off, e, (World.cell?_of_block (a := ⟨b, off + j, none⟩) (e2.trans e1)).trans hc⟩
/-- The ways through a region are joined behind it. -/
theorem region_join1 {P : Program} {c : Code} {Q : Exit → Act → World → Prop} {a : Act} {w : World} (F : Value → Nat → Act) (Post : Value → World → Prop)
    (h : c.wp P (fun e a' w' => e = .normal ∧ ∃ v n, a' = F v n ∧ Post v w') a w) (hk : ∀ v n w', Post v w' → Q .normal (F v n) w') : c.wp P Q a w :=
  Code.wp_mono (fun e a' w' ⟨he, v, n, ha, hp⟩ => by subst he; subst ha; exact hk v n w' hp) h
theorem OwnSig.far {w : World} {B C : Nat} {v : Value} {p : Int} {vo vs vd : Value} {o s d : List ByteArray} (h : OwnSig w B C v p vo vs vd o s d) {a : Addr} (ha : a.block < B) (u : Value) : OwnSig (w.setCell a u) B C v p vo vs vd o s d :=
  { h with o := Own.setCell h.o ha u, s := Own.setCell h.s ha u, d := Own.setCell h.d ha u }
theorem OwnSig.lower {w : World} {B B' C C' : Nat} {v : Value} {p : Int} {vo vs vd : Value} {o s d : List ByteArray} (h : OwnSig w B C v p vo vs vd o s d) (hB : B' ≤ B) (hC : C ≤ C') : OwnSig w B' C' v p vo vs vd o s d :=
  { h with o := Own.mono h.o hB, s := Own.mono h.s hB, d := Own.mono h.d hB, lo := fun k hk => Nat.lt_of_lt_of_le (h.lo k hk) hC, ls := fun k hk => Nat.lt_of_lt_of_le (h.ls k hk) hC, ld := fun k hk => Nat.lt_of_lt_of_le (h.ld k hk) hC }
theorem size_set4 (w : World) (b : Nat) (v0 v1 v2 v3 : Value) : ((((w.setCell ⟨b, 0, none⟩ v0).setCell ⟨b, 1, none⟩ v1).setCell ⟨b, 2, none⟩ v2).setCell ⟨b, 3, none⟩ v3).heap.size = w.heap.size := by simp [World.setCell]
/-- The signature is handed back through the result's box. -/
theorem SignSt.done {w W : World} {T : TypeId} {rb sb B : Nat} {p : Int} {vo vs vd : Value} {o s d : List ByteArray} (h : SignSt w T rb sb B p vo vs vd o s d W) :
    Blk ((((W.setCell ⟨rb, 0, none⟩ (.int .i64 p)).setCell ⟨rb, 1, none⟩ vo).setCell ⟨rb, 2, none⟩ vs).setCell ⟨rb, 3, none⟩ vd) rb T [.int .i64 p, vo, vs, vd] ∧
    OwnSig ((((W.setCell ⟨rb, 0, none⟩ (.int .i64 p)).setCell ⟨rb, 1, none⟩ vo).setCell ⟨rb, 2, none⟩ vs).setCell ⟨rb, 3, none⟩ vd) w.heap.size ((((W.setCell ⟨rb, 0, none⟩ (.int .i64 p)).setCell ⟨rb, 1, none⟩ vo).setCell ⟨rb, 2, none⟩ vs).setCell ⟨rb, 3, none⟩ vd).heap.size (.agg #[.int .i64 p, vo, vs, vd]) p vo vs vd o s d ∧
    Below w.heap.size w ((((W.setCell ⟨rb, 0, none⟩ (.int .i64 p)).setCell ⟨rb, 1, none⟩ vo).setCell ⟨rb, 2, none⟩ vs).setCell ⟨rb, 3, none⟩ vd) := by
  have hr := h.rB
  have hw := h.wr
  refine ⟨(((h.res.set_ 0 _).set_ 1 _).set_ 2 _).set_ 3 _, ?_, ?_⟩
  · exact ((((h.sig.far (a := ⟨rb, 0, none⟩) hr _).far (a := ⟨rb, 1, none⟩) hr _).far (a := ⟨rb, 2, none⟩) hr _).far (a := ⟨rb, 3, none⟩) hr _).lower (by omega) (by rw [size_set4]; exact Nat.le_refl _)
  · exact (((h.low.setCell (p := ⟨rb, 0, none⟩) hw _).setCell (p := ⟨rb, 1, none⟩) hw _).setCell (p := ⟨rb, 2, none⟩) hw _).setCell (p := ⟨rb, 3, none⟩) hw _

end Go.Proofs.YtcehbmlibfalaaaDoor

/-
  Plain law: a signed text is right; a signature of one text that is right for another. No program in sight.
-/
namespace Go.Proofs.YtcehbmlibfalaaaDoor
open Go.RowKit

theorem tagBody_cons (p : ByteArray) (ps : List ByteArray) : tagBody (p :: ps) = varL p.size ++ p.data.toList ++ tagBody ps := by simp [tagBody]
theorem tagBody_inj : ∀ (ps qs : List ByteArray), (∀ x ∈ ps, x.size = 16) → (∀ x ∈ qs, x.size = 16) → ps.length = qs.length → tagBody ps = tagBody qs → ps = qs
  | [], [], _, _, _, _ => rfl
  | [], _ :: _, _, _, h, _ => by simp at h
  | _ :: _, [], _, _, h, _ => by simp at h
  | p :: ps, q :: qs, hp, hq, h, e => by
    have h1 := hp p List.mem_cons_self
    have h2 := hq q List.mem_cons_self
    rw [tagBody_cons, tagBody_cons, h1, h2, List.append_assoc, List.append_assoc] at e
    have e := List.append_cancel_left e
    have hl : p.data.toList.length = q.data.toList.length := by rw [Array.length_toList, Array.length_toList]; exact h1.trans h2.symm
    obtain ⟨e1, e2⟩ := List.append_inj e hl
    have hpq : p = q := ByteArray.ext (Array.toList_inj.1 e1)
    rw [hpq, tagBody_inj ps qs (fun x hx => hp x (List.mem_cons_of_mem _ hx)) (fun x hx => hq x (List.mem_cons_of_mem _ hx)) (by simpa using h) e2]
theorem tagT_inj {k : Int} (hk : 1 ≤ k ∧ k ≤ 8) {ps qs : List ByteArray} (h1 : ∀ x ∈ ps, x.size = 16) (h2 : ∀ x ∈ qs, x.size = 16) (hl : ps.length = qs.length) (h60 : ps.length ≤ 60) (h : tagT k ps = tagT k qs) : ps = qs := by
  have e1 : tagL k ps = some (UInt8.ofNat k.toNat :: tagBody ps) := by
    unfold tagL
    rw [if_pos ⟨hk.1, hk.2, h60, fun x hx => by have := h1 x hx; omega⟩]
  have e2 : tagL k qs = some (UInt8.ofNat k.toNat :: tagBody qs) := by
    unfold tagL
    rw [if_pos ⟨hk.1, hk.2, by omega, fun x hx => by have := h2 x hx; omega⟩]
  rw [tagT_some e1, tagT_some e2] at h
  have h3 := congrArg (fun x : ByteArray => x.data.toList) h
  simp only [txt_data, List.cons.injEq, true_and] at h3
  exact tagBody_inj ps qs h1 h2 hl h3

/-! ### Clashes -/

def clashTo (a b : List ByteArray) : Nat → Bool
  | 0 => false
  | i + 1 => if a.getD i ByteArray.empty = b.getD i ByteArray.empty then clashTo a b i else decide (cutT (a.getD i ByteArray.empty) = cutT (b.getD i ByteArray.empty))
def clashV (a b : List ByteArray) : Bool := if a.length = b.length then clashTo a b a.length else false
theorem clash_step {a b : List ByteArray} {i : Nat} (h : clashTo a b (i + 1) = false) (hc : cutT (a.getD i ByteArray.empty) = cutT (b.getD i ByteArray.empty)) : a.getD i ByteArray.empty = b.getD i ByteArray.empty ∧ clashTo a b i = false := by
  unfold clashTo at h
  by_cases he : a.getD i ByteArray.empty = b.getD i ByteArray.empty
  · rw [if_pos he] at h; exact ⟨he, h⟩
  · rw [if_neg he, decide_eq_true hc] at h; cases h

theorem sigTo_at (t : ByteArray) (p : Int) (o s d : List ByteArray) (n : Nat) (hn : n ≤ 4) : (sigTo t p o s d 4).getD (8 + n) ByteArray.empty = climbT p.toNat d (keyT t o s) n := by
  have hl : (leafTo o 8 ++ [keyT t o s]).length = 9 := by simp [leafTo_len]
  cases n with
  | zero =>
    rw [List.getD_eq_getElem?_getD, sigTo, List.getElem?_append_left (by omega), List.getElem?_append_right (by rw [leafTo_len]; exact Nat.le_refl _), leafTo_len]
    rfl
  | succ n =>
    rw [List.getD_eq_getElem?_getD, sigTo, List.getElem?_append_right (by omega), hl, show 8 + (n + 1) - 9 = n by omega, climbTo, List.getElem?_map, List.getElem?_range (by omega)]
    rfl
theorem nodeT_inj {q : Nat} {h h' x : ByteArray} (h1 : h.size = 16) (h2 : h'.size = 16) (h3 : x.size = 16) (e : nodeT q h x = nodeT q h' x) : h = h' := by
  unfold nodeT at e
  split at e
  · have := tagT_inj (k := 3) (ps := [h, x]) (qs := [h', x]) (by decide) (by simp [h1, h3]) (by simp [h2, h3]) rfl (by simp) e
    exact (List.cons.inj this).1
  · have := tagT_inj (k := 3) (ps := [x, h]) (qs := [x, h']) (by decide) (by simp [h1, h3]) (by simp [h2, h3]) rfl (by simp) e
    exact (List.cons.inj (List.cons.inj this).2).1
theorem sideTo_down {b b' : Int} {o s : List ByteArray} (n : Nat) (h : sideTo b o s (n + 1) = sideTo b' o s (n + 1)) :
    sideTo b o s n = sideTo b' o s n ∧ pairAt b n (o.getD n ByteArray.empty) (s.getD n ByteArray.empty) = pairAt b' n (o.getD n ByteArray.empty) (s.getD n ByteArray.empty) := by
  have e : ∀ c, sideTo c o s (n + 1) = sideTo c o s n ++ pairAt c n (o.getD n ByteArray.empty) (s.getD n ByteArray.empty) := fun c => by
    unfold sideTo; rw [List.range_succ, List.flatMap_append, List.flatMap_singleton]
  rw [e, e] at h
  exact List.append_inj h (by rw [sideTo_len, sideTo_len])
theorem sideTo_all {b b' : Int} {o s : List ByteArray} : ∀ (n : Nat), sideTo b o s n = sideTo b' o s n → ∀ j, j < n → pairAt b j (o.getD j ByteArray.empty) (s.getD j ByteArray.empty) = pairAt b' j (o.getD j ByteArray.empty) (s.getD j ByteArray.empty)
  | 0, _, j, hj => by omega
  | n + 1, h, j, hj => by
    obtain ⟨h1, h2⟩ := sideTo_down n h
    by_cases hjn : j = n
    · subst hjn; exact h2
    · exact sideTo_all n h1 j (by omega)

theorem bits_sum : ∀ b : Fin 256, ((b.val : Nat) : Int) = 128 * bitOf (b.val : Nat) 0 + 64 * bitOf (b.val : Nat) 1 + 32 * bitOf (b.val : Nat) 2 + 16 * bitOf (b.val : Nat) 3 + 8 * bitOf (b.val : Nat) 4 + 4 * bitOf (b.val : Nat) 5 + 2 * bitOf (b.val : Nat) 6 + bitOf (b.val : Nat) 7 := by decide +kernel
theorem bits_apart {a b : Nat} (ha : a < 256) (hb : b < 256) (h : a ≠ b) : ∃ j : Nat, j < 8 ∧ bitOf (a : Nat) (j : Nat) ≠ bitOf (b : Nat) (j : Nat) := by
  apply Classical.byContradiction
  intro hn
  have hall : ∀ j : Nat, j < 8 → bitOf (a : Nat) (j : Nat) = bitOf (b : Nat) (j : Nat) := fun j hj => Classical.byContradiction fun h' => hn ⟨j, hj, h'⟩
  have e1 := bits_sum ⟨a, ha⟩
  have e2 := bits_sum ⟨b, hb⟩
  simp only at e1 e2
  have g0 : bitOf (a : Nat) 0 = bitOf (b : Nat) 0 := hall 0 (by omega)
  have g1 : bitOf (a : Nat) 1 = bitOf (b : Nat) 1 := hall 1 (by omega)
  have g2 : bitOf (a : Nat) 2 = bitOf (b : Nat) 2 := hall 2 (by omega)
  have g3 : bitOf (a : Nat) 3 = bitOf (b : Nat) 3 := hall 3 (by omega)
  have g4 : bitOf (a : Nat) 4 = bitOf (b : Nat) 4 := hall 4 (by omega)
  have g5 : bitOf (a : Nat) 5 = bitOf (b : Nat) 5 := hall 5 (by omega)
  have g6 : bitOf (a : Nat) 6 = bitOf (b : Nat) 6 := hall 6 (by omega)
  have g7 : bitOf (a : Nat) 7 = bitOf (b : Nat) 7 := hall 7 (by omega)
  rw [g0, g1, g2, g3, g4, g5, g6, g7] at e1
  exact h (by omega)

/-! ### A signed text is right -/

theorem bit_either (b : Int) (j : Nat) : bitOf b (j : Nat) = 0 ∨ bitOf b (j : Nat) = 1 := by have := bit_range b j; omega
theorem secOk_at {s : ByteArray} {a : Int} {n : Nat} {v : Int} (hs : s.size ≤ 100) (ha : 0 ≤ a ∧ a ≤ 15) (hn : n < 8) (hv : v = 0 ∨ v = 1) : SecOk s a (n : Nat) v := ⟨hs, ha, ⟨by omega, by omega⟩, by omega⟩
theorem opnTo_wide {s : ByteArray} {a b : Int} (hs : s.size ≤ 100) (ha : 0 ≤ a ∧ a ≤ 15) : WideL (opnTo s a b 8) 8 := by
  refine ⟨opnTo_len _ _ _ _, fun x hx => ?_⟩
  obtain ⟨j, hj, rfl⟩ := List.mem_map.1 hx
  rw [txt_size]
  exact secret_len (secOk_at hs ha (List.mem_range.1 hj) (bit_either b j))
theorem lock_len {s : ByteArray} (h : s.size ≤ 200) : (lockL s).length = 16 := by
  have h1 := congrArg ByteArray.size (lockS_eq h)
  rw [txt_size, lockS_size] at h1
  exact h1
theorem shtTo_wide (s : ByteArray) (a b : Int) : WideL (shtTo s a b 8) 8 := by
  refine ⟨shtTo_len _ _ _ _, fun x hx => ?_⟩
  obtain ⟨j, hj, rfl⟩ := List.mem_map.1 hx
  rw [txt_size]
  exact lock_len (by rw [txt_size]; have := secret_le s a (j : Nat) (1 - bitOf b (j : Nat)); omega)
theorem sideTo_pub (s : ByteArray) (a b : Int) : ∀ n, n ≤ 8 → sideTo b (opnTo s a b 8) (shtTo s a b 8) n = pubLocks s a (2 * n)
  | 0, _ => rfl
  | n + 1, hn => by
    have h1 : (opnTo s a b 8)[n]? = some (txt (secretL s a (n : Nat) (bitOf b (n : Nat)))) := by unfold opnTo; rw [List.getElem?_map, List.getElem?_range (by omega)]; rfl
    have h2 : (shtTo s a b 8)[n]? = some (txt (lockL (txt (secretL s a (n : Nat) (1 - bitOf b (n : Nat)))))) := by unfold shtTo; rw [List.getElem?_map, List.getElem?_range (by omega)]; rfl
    have hle : ∀ v : Int, (txt (secretL s a (n : Nat) v)).size ≤ 200 := fun v => by rw [txt_size]; have := secret_le s a (n : Nat) v; omega
    have e0 := pubLocks_next s a n 0 (by omega)
    have e1 := pubLocks_next s a n 1 (by omega)
    rw [sideTo_next h1 h2, sideTo_pub s a b n (by omega), show 2 * (n + 1) = 2 * n + 1 + 1 by omega, e1, show 2 * n + 1 = 2 * n + 0 + 1 by omega, e0, List.append_assoc, Nat.add_zero]
    congr 1
    unfold pairAt
    rcases bit_either b n with h | h
    · rw [if_pos h, h, ← lockS_eq (hle 0)]; rfl
    · rw [if_neg (by omega), h, ← lockS_eq (hle 1)]; rfl
theorem pubLocks_size16 (s : ByteArray) (a : Int) (n : Nat) : ∀ x ∈ pubLocks s a n, x.size ≤ 200 := fun x hx => by have := pubLocks_size s a n x hx; omega
theorem pub_cut {s : ByteArray} {a : Int} (hs : s.size ≤ 100) (ha : 0 ≤ a ∧ a ≤ 15) : txt (pubL s a) = cutT (tagT 6 (pubLocks s a 16)) := by
  rw [pubL_yes ⟨hs, ha⟩]
  exact hash_cutT (by decide) (by rw [pubLocks_len]; decide) (pubLocks_size16 _ _ _)
theorem pool_wide {s : ByteArray} (hs : s.size ≤ 100) : ∀ x ∈ poolTo s 16, x.size = 16 := by
  intro x hx
  obtain ⟨j, hj, rfl⟩ := List.mem_map.1 hx
  have := List.mem_range.1 hj
  rw [pub_cut hs ⟨by omega, by omega⟩]
  exact cutT_size _
theorem upTo_at {l : List ByteArray} {n q : Nat} (hq : q < n) : (upTo l n).getD q ByteArray.empty = txt (hashT 3 [l.getD (2 * q) ByteArray.empty, l.getD (2 * q + 1) ByteArray.empty] 16) := by
  unfold upTo
  rw [List.getD_eq_getElem?_getD, List.getElem?_map, List.getElem?_range hq]
  rfl
theorem getD_mem {l : List ByteArray} {i : Nat} (h : i < l.length) : l.getD i ByteArray.empty ∈ l := by
  rw [List.getD_eq_getElem?_getD, List.getElem?_eq_getElem h]
  exact List.getElem_mem h
theorem upN_wide {l : List ByteArray} (h16 : l.length = 16) (hl : ∀ x ∈ l, x.size = 16) : (k : Nat) → k ≤ 4 → ∀ x ∈ upN k l, x.size = 16
  | 0, _ => hl
  | k + 1, hk => fun x hx => by
    have ih := upN_wide h16 hl k (by omega)
    have hlen := upN_len h16 k (by omega)
    obtain ⟨j, hj, rfl⟩ := List.mem_map.1 (show x ∈ upTo (upN k l) ((upN k l).length / 2) from hx)
    have hj2 := List.mem_range.1 hj
    have g1 := ih _ (getD_mem (l := upN k l) (i := 2 * j) (by omega))
    have g2 := ih _ (getD_mem (l := upN k l) (i := 2 * j + 1) (by omega))
    rw [hash_cutT (by decide) (by simp) (by simp only [List.mem_cons, List.not_mem_nil, or_false, forall_eq_or_imp, forall_eq]; omega)]
    exact cutT_size _
theorem xor_even {m : Nat} (hm : m < 16) : (m % 2 = 0 → m ^^^ 1 = m + 1) ∧ (m % 2 = 1 → m ^^^ 1 = m - 1) := by
  have : ∀ m : Fin 16, (m.val % 2 = 0 → m.val ^^^ 1 = m.val + 1) ∧ (m.val % 2 = 1 → m.val ^^^ 1 = m.val - 1) := by decide +kernel
  exact this ⟨m, hm⟩
theorem sidTo_at {l : List ByteArray} {a k : Nat} (hk : k < 4) : (sidTo l a 4).getD k ByteArray.empty = (upN k l).getD ((a / 2 ^ k) ^^^ 1) ByteArray.empty := by
  unfold sidTo
  rw [List.getD_eq_getElem?_getD, List.getElem?_map, List.getElem?_range hk]
  rfl
theorem sidTo_wide {l : List ByteArray} (h16 : l.length = 16) (hl : ∀ x ∈ l, x.size = 16) {a : Nat} (ha : a < 16) : WideL (sidTo l a 4) 4 := by
  refine ⟨sidTo_len _ _ _, fun x hx => ?_⟩
  obtain ⟨j, hj, rfl⟩ := List.mem_map.1 hx
  have hj2 := List.mem_range.1 hj
  refine upN_wide h16 hl j (by omega) _ (getD_mem ?_)
  rw [upN_len h16 j (by omega)]
  exact (beside_lt ha hj2).2
/-- The way up from a key leads through the pool's hashes. -/
theorem climb_pool {l : List ByteArray} (h16 : l.length = 16) (hl : ∀ x ∈ l, x.size = 16) {a : Nat} (ha : a < 16) {t0 : ByteArray} (h0 : cutT t0 = l.getD a ByteArray.empty) : ∀ k, k ≤ 4 → cutT (climbT a (sidTo l a 4) t0 k) = (upN k l).getD (a / 2 ^ k) ByteArray.empty
  | 0, _ => by rw [Nat.pow_zero, Nat.div_one]; exact h0
  | k + 1, hk => by
    have ih := climb_pool h16 hl ha h0 k (by omega)
    have hlen := upN_len h16 k (by omega)
    have hw := upN_wide h16 hl k (by omega)
    have hb := beside_lt ha (j := k) (by omega)
    have hq : a / 2 ^ (k + 1) = a / 2 ^ k / 2 := by rw [Nat.pow_succ, Nat.div_div_eq_div_mul]
    have hak : a / 2 ^ k ≤ a := Nat.div_le_self _ _
    have hx := xor_even (m := a / 2 ^ k) (by omega)
    have hpow : 2 ^ (4 - k) = 2 * 2 ^ (4 - (k + 1)) := by rw [show 4 - k = (4 - (k + 1)) + 1 by omega, Nat.pow_succ, Nat.mul_comm]
    rw [climbT, ih, sidTo_at (by omega), hq]
    generalize a / 2 ^ k = m at *
    show _ = (upTo (upN k l) ((upN k l).length / 2)).getD (m / 2) ByteArray.empty
    rw [upTo_at (by omega)]
    have g1 := hw _ (getD_mem (l := upN k l) (i := 2 * (m / 2)) (by omega))
    have g2 := hw _ (getD_mem (l := upN k l) (i := 2 * (m / 2) + 1) (by omega))
    rw [hash_cutT (by decide) (by simp) (by simp only [List.mem_cons, List.not_mem_nil, or_false, forall_eq_or_imp, forall_eq]; omega)]
    unfold nodeT
    rcases Nat.mod_two_eq_zero_or_one m with hm | hm
    · rw [if_pos hm, hx.1 hm, show 2 * (m / 2) = m by omega]
    · rw [if_neg (by omega), hx.2 hm, show 2 * (m / 2) = m - 1 by omega, show m - 1 + 1 = m by omega]
theorem rootL_pool {l : List ByteArray} (h16 : l.length = 16) : rootL l = (upN 4 l).getD 0 ByteArray.empty := if_pos h16
theorem sig_made {s t : ByteArray} {a : Nat} (hs : s.size ≤ 100) (ha : a < 16) (ht : t.size ≤ 200) :
    SigGood t (a : Nat) (opnTo s (a : Nat) (signB t : Nat) 8) (shtTo s (a : Nat) (signB t : Nat) 8) (sidTo (poolTo s 16) a 4) ∧
    sigRoot t (a : Nat) (opnTo s (a : Nat) (signB t : Nat) 8) (shtTo s (a : Nat) (signB t : Nat) 8) (sidTo (poolTo s 16) a 4) 4 = rootL (poolTo s 16) := by
  have h16 := poolTo_len s 16
  have hw := pool_wide hs
  refine ⟨⟨⟨⟨by omega, by omega⟩, opnTo_wide hs ⟨by omega, by omega⟩, shtTo_wide _ _ _, sidTo_wide h16 hw ha⟩, ht⟩, ?_⟩
  rw [rootL_pool h16]
  unfold sigRoot
  rw [Int.toNat_natCast]
  have h0 : cutT (keyT t (opnTo s (a : Nat) (signB t : Nat) 8) (shtTo s (a : Nat) (signB t : Nat) 8)) = (poolTo s 16).getD a ByteArray.empty := by
    unfold keyT
    rw [sideTo_pub _ _ _ 8 (by omega), show 2 * 8 = 16 from rfl, ← pub_cut hs ⟨by omega, by omega⟩]
    unfold poolTo
    rw [List.getD_eq_getElem?_getD, List.getElem?_map, List.getElem?_range ha]
    rfl
  rw [climb_pool h16 hw ha h0 4 (by omega), show a / 2 ^ 4 = 0 by omega]
/-- The place of a seed's key in the pool. -/
theorem signGood_made {s t : ByteArray} {a : Nat} (hs : s.size ≤ 100) (ha : a < 16) (ht : t.size ≤ 200) : SignGood s (poolTo s 16) (a : Nat) t := by
  refine ⟨⟨poolTo_len _ _, ⟨by omega, by omega⟩, ht⟩, hs, ?_⟩
  rw [Int.toNat_natCast]
  unfold poolTo
  rw [List.getElem?_map, List.getElem?_range ha]
  rfl

/-! ### A signature that is right for two texts -/

/-- What the law's 'twins' looks for. -/
def twinAt (x y : ByteArray) (o s : List ByteArray) (j : Nat) : Prop := bitOf (signB x : Nat) (j : Nat) ≠ bitOf (signB y : Nat) (j : Nat) ∧ txt (lockL (o.getD j ByteArray.empty)) = s.getD j ByteArray.empty
theorem sig_same {r x y : ByteArray} {p : Int} {o s d : List ByteArray} (h : signB y = signB x) (hx : SigGood x p o s d) (hr : sigRoot x p o s d 4 = r) (hy : y.size ≤ 200) : sigOk r y p o s d = true := by
  rw [sigOk_yes ⟨hx.1, hy⟩]
  refine decide_eq_true ?_
  rw [← hr]
  unfold sigRoot keyT
  rw [h]
theorem climb_down {p : Nat} {d : List ByteArray} (hd : ∀ x ∈ d, x.size = 16) {u v : ByteArray} {n : Nat} (hn : n < d.length) (h : climbT p d u (n + 1) = climbT p d v (n + 1)) : cutT (climbT p d u n) = cutT (climbT p d v n) := by
  rw [climbT, climbT] at h
  exact nodeT_inj (cutT_size _) (cutT_size _) (hd _ (getD_mem hn)) h
theorem sig_other {x y : ByteArray} {p : Int} {o s d : List ByteArray} (hne : signB y ≠ signB x) (hx : SigGood x p o s d) (hy : SigGood y p o s d) (hr : sigRoot x p o s d 4 = sigRoot y p o s d 4) (hc : clashV (sigTexts x p o s d) (sigTexts y p o s d) = false) : ∃ j, j < 8 ∧ twinAt x y o s j := by
  obtain ⟨⟨hp, ho, hs, hd⟩, hx2⟩ := id hx
  rw [sigTexts_yes hx, sigTexts_yes hy] at hc
  unfold clashV at hc
  rw [if_pos (by rw [sigTo_len, sigTo_len]), sigTo_len] at hc
  have step : ∀ n, n ≤ 4 → clashTo (sigTo x p o s d 4) (sigTo y p o s d 4) (8 + n + 1) = false → cutT (climbT p.toNat d (keyT x o s) n) = cutT (climbT p.toNat d (keyT y o s) n) → climbT p.toNat d (keyT x o s) n = climbT p.toNat d (keyT y o s) n ∧ clashTo (sigTo x p o s d 4) (sigTo y p o s d 4) (8 + n) = false := by
    intro n hn h1 h2
    have h3 := clash_step h1 (by rw [sigTo_at _ _ _ _ _ n hn, sigTo_at _ _ _ _ _ n hn]; exact h2)
    rw [sigTo_at _ _ _ _ _ n hn, sigTo_at _ _ _ _ _ n hn] at h3
    exact h3
  have hdl : d.length = 4 := hd.1
  obtain ⟨e4, c4⟩ := step 4 (by omega) hc hr
  obtain ⟨e3, c3⟩ := step 3 (by omega) c4 (climb_down hd.2 (by omega) e4)
  obtain ⟨e2, c2⟩ := step 2 (by omega) c3 (climb_down hd.2 (by omega) e3)
  obtain ⟨e1, c1⟩ := step 1 (by omega) c2 (climb_down hd.2 (by omega) e2)
  obtain ⟨e0, -⟩ := step 0 (by omega) c1 (climb_down hd.2 (by omega) e1)
  have e0 : keyT x o s = keyT y o s := e0
  unfold keyT at e0
  have hz : ∀ b, ∀ z ∈ sideTo b o s 8, z.size = 16 := fun b => sideTo_size hs.2 8 (by rw [hs.1]; exact Nat.le_refl _)
  have e := tagT_inj (by decide) (hz _) (hz _) (by rw [sideTo_len, sideTo_len]) (by rw [sideTo_len]; decide) e0
  obtain ⟨j, hj, hb⟩ := bits_apart (byt_lt _ _) (byt_lt _ _) (show signB x ≠ signB y from fun h => hne h.symm)
  refine ⟨j, hj, hb, ?_⟩
  have hpair := sideTo_all 8 e j hj
  have hsz : (o.getD j ByteArray.empty).size ≤ 200 := by have := ho.2 _ (getD_mem (l := o) (i := j) (by rw [ho.1]; exact hj)); omega
  rw [lockS_eq hsz]
  unfold pairAt at hpair
  have hb : bitOf (signB x : Nat) (j : Nat) ≠ bitOf (signB y : Nat) (j : Nat) := hb
  rcases bit_either (signB x : Nat) j with h1 | h1 <;> rcases bit_either (signB y : Nat) j with h2 | h2
  · exact absurd (h1.trans h2.symm) hb
  · rw [if_pos h1, if_neg (by omega)] at hpair
    exact (List.cons.inj hpair).1
  · rw [if_neg (by omega), if_pos h2] at hpair
    exact (List.cons.inj hpair).1.symm
  · exact absurd (h1.trans h2.symm) hb

end Go.Proofs.YtcehbmlibfalaaaDoor

/-
  Plain law: more of the draws. No program in sight.
-/
namespace Go.Proofs.YtcehbmlibfalaaaDoor
open Go.RowKit

theorem and30 (x : Int) : 0 ≤ bits BinOp.and IntKind.i64 x 1073741823 ∧ bits BinOp.and IntKind.i64 x 1073741823 ≤ 1073741823 := by
  have h2 : ((BitVec.ofInt 64 x) &&& (BitVec.ofInt 64 1073741823)).toNat ≤ 1073741823 := by
    rw [BitVec.toNat_and]
    exact Nat.and_le_right
  have e : bits BinOp.and IntKind.i64 x 1073741823 = IntKind.i64.wrap (((BitVec.ofInt 64 x) &&& (BitVec.ofInt 64 1073741823)).toNat : Int) := rfl
  rw [e, IntKind.wrap_i64]
  omega

/-- A string, one of a list, is handed back. -/
def DrawnS (T : TypeId) (p : ByteArray → Prop) (w0 : World) (n g : Nat) (w : World) (e : Ending) (w' : World) : Prop :=
  (∃ x : ByteArray, p x ∧ e = .returned (.string x)) ∧ Cur T w0 n w' g ∧ w.grownBy w' (some g)
/-- A bool is handed back. -/
def DrawnB (T : TypeId) (w0 : World) (n g : Nat) (w : World) (e : Ending) (w' : World) : Prop :=
  (∃ x : Bool, e = .returned (.bool x)) ∧ Cur T w0 n w' g ∧ w.grownBy w' (some g)
/-- A number of a list is handed back. -/
def DrawnL (T : TypeId) (l : List Int) (w0 : World) (n g : Nat) (w : World) (e : Ending) (w' : World) : Prop :=
  (∃ x : Int, x ∈ l ∧ e = .returned (.int .i64 x)) ∧ Cur T w0 n w' g ∧ w.grownBy w' (some g)

theorem Cur.alloc {T : TypeId} {w0 w : World} {n g : Nat} (h : Cur T w0 n w g) (o : Obj) : Cur T w0 n (w.alloc o) g := h.carry ((Below.refl _ _).alloc (Nat.le_refl _) _) (Nat.le_refl _)

/-- A row that has just been made is read after the cursor has turned. -/
theorem rdC_kept {w w' : World} {ao : Option Addr} {cs : List Value} {g : Nat} (h : RdC w ao cs) (hg : w.grownBy w' (some g)) (hne : ∀ b off, ao = some ⟨b, off, none⟩ → b ≠ g) : RdC w' ao cs := by
  intro j u hu
  obtain ⟨b, off, e, hc⟩ := h j u hu
  have hlt := World.block_lt_of_cell? _ _ hc
  exact ⟨b, off, e, (World.cell?_of_block (hg.block b hlt (by intro e'; cases e'; exact hne _ _ e rfl))).trans hc⟩
theorem rdC_new (w : World) (cs : List Value) (A : Array Value) (hA : A = cs.toArray) (e : TypeId) : RdC (w.alloc (.cells A e)) (some ⟨w.heap.size, 0, none⟩) cs := by
  subst hA
  intro j x hx
  refine ⟨_, _, rfl, ?_⟩
  have e1 : (w.alloc (.cells cs.toArray e)).cell? ⟨w.heap.size, 0 + j, none⟩ = _ := World.cell?_alloc_new w _ _ (0 + j)
  rw [e1, Nat.zero_add]
  simpa using hx
theorem grownBy_alloc' {a b : World} {row : Option Nat} (h : a.grownBy b row) (o : Obj) : a.grownBy (b.alloc o) row := grownBy_trans h (grownBy_below ((Below.refl _ _).alloc (Nat.le_refl _) _) (Nat.le_refl _) row)

theorem Own.kept_only {w w' : World} {B size : Nat} {v : Value} {n : Nat} {cs : List Value} {g : Nat} (h : Own w B size v n cs) (hg : w.grownBy w' (some g)) (hgB : g < B) : Own w' B size v n cs := by
  refine h.kept hg ?_
  cases hb : v.ownBlock with
  | none => exact .inl rfl
  | some k => exact .inr (fun e => by cases e; have := (h.block _ hb).1; omega)

/-- A row of the call's own is written: the cursor stays. -/
theorem Cur.kept_row {T : TypeId} {w0 w w' : World} {n g : Nat} {row : Option Nat} (h : Cur T w0 n w g) (hg : w.grownBy w' row) (hne : row = some g → False) (hr : ∀ k, row = some k → w0.heap.size ≤ k) : Cur T w0 n w' g := by
  obtain ⟨ao, cap, i, x, hk, h0, h1, hB⟩ := h.blk
  exact ⟨h.below.grown hg h.below.size hr, h.ge, ⟨ao, cap, i, x, hk.kept hg (fun e => hne e.symm), h0, h1, hB⟩, h.small⟩
/-- What has turned is the cursor, or has been made since. -/
theorem grownBy_only {a b c : World} {row : Option Nat} {g : Nat} (h : a.grownBy b (some g)) (k : b.grownBy c row) (hr : ∀ k, row = some k → a.heap.size ≤ k) : a.grownBy c (some g) :=
  ⟨k.os.trans h.os, k.tape.trans h.tape, k.output.trans h.output, Nat.le_trans h.size k.size, fun i hi hne => (k.block i (Nat.lt_of_lt_of_le hi h.size) (by intro e; have := hr i e.symm; omega)).trans (h.block i hi hne)⟩

end Go.Proofs.YtcehbmlibfalaaaDoor
