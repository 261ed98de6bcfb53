/-
  What the walks of this claim lean on, joined: plain laws, no code of the seat.
-/
import Derived.Test.YtdecehecjlbbiaaBase5
import Derived.Deep.WholeRow
import Derived.Great.Walk
import Derived.Test.YtdecehecjlbbiaaBase4

/-
  Whole blocks: what they hold, how they are kept; a long array by value laid into a new block. No program in sight.
-/
namespace Go.Proofs.Ytdecehecjlbbiaa
open Go.RowKit

/-- Block g is just these cells; all of it may be written. -/
def Blk (w : World) (g : Nat) (t : TypeId) (cs : List Value) : Prop := w.heap[g]? = some (.cells cs.toArray t (0, 0))

theorem Blk.lt {w : World} {g : Nat} {t : TypeId} {cs : List Value} (h : Blk w g t cs) : g < w.heap.size := (Array.getElem?_eq_some_iff.1 h).1
theorem Blk.cell {w : World} {g : Nat} {t : TypeId} {cs : List Value} (h : Blk w g t cs) (i : Nat) : w.cell? ⟨g, i, none⟩ = cs[i]? := by
  rw [cell_of_row w g i _ t (0, 0) h]; simp
theorem Blk.frozen {w : World} {g : Nat} {t : TypeId} {cs : List Value} (h : Blk w g t cs) (i : Nat) : w.frozen? ⟨g, i, none⟩ = false := frozen_of_row w g i _ t h
theorem Blk.new (w : World) (t : TypeId) (cs : List Value) (A : Array Value) (hA : A = cs.toArray) : Blk (w.alloc (.cells A t)) w.heap.size t cs := by
  subst hA; exact alloc_at w _
theorem Blk.below {w w' : World} {g : Nat} {t : TypeId} {cs : List Value} {C : Nat} (h : Blk w g t cs) (hb : Below C w w') (hg : g < C) : Blk w' g t cs := (hb.block g hg).trans h
theorem Blk.drew {w : World} {g : Nat} {t : TypeId} {cs : List Value} (h : Blk w g t cs) : Blk w.drew g t cs := h
theorem Blk.drewN {w : World} {g : Nat} {t : TypeId} {cs : List Value} (h : Blk w g t cs) (n : Nat) : Blk (w.drewN n) g t cs := h
theorem Blk.alloc {w : World} {g : Nat} {t : TypeId} {cs : List Value} (h : Blk w g t cs) (o : Obj) : Blk (w.alloc o) g t cs := (Below.heap_alloc w o g h.lt).trans h
theorem Blk.set_ {w : World} {g : Nat} {t : TypeId} {cs : List Value} (h : Blk w g t cs) (i : Nat) (u : Value) : Blk (w.setCell ⟨g, i, none⟩ u) g t (cs.set i u) := by
  unfold Blk at h ⊢
  simp [World.setCell, Array.getElem?_modify, h]
theorem Blk.far {w : World} {g : Nat} {t : TypeId} {cs : List Value} (h : Blk w g t cs) {p : Addr} (hp : g ≠ p.block) (u : Value) : Blk (w.setCell p u) g t cs := (Below.heap_setCell w p u g hp).trans h
theorem Blk.setRow_far {w : World} {g k : Nat} {t : TypeId} {cs : List Value} (h : Blk w g t cs) (hk : g ≠ k) (A : Array Value) : Blk (w.setRow k A) g t cs := by
  unfold Blk; rw [setRow_other _ _ _ _ hk]; exact h
theorem Blk.kept {w w' : World} {g : Nat} {t : TypeId} {cs : List Value} {row : Option Nat} (h : Blk w g t cs) (hb : w.grownBy w' row) (hg : some g ≠ row) : Blk w' g t cs := (hb.block g h.lt hg).trans h

/-- A whole array goes into the block that was made last. -/
theorem wpList_store_new {P : Program} {ops : Array Oper} {rest : List Oper} {o : Oper} {a : Act} {Q : Exit → Act → World → Prop} (hgd : o.guard = none) (ty : TypeId) (x y : Operand) (ho : o.op = .store ty x y) (hd : o.dst = none)
    (w : World) (N : Nat) (hN : w.heap.size = N) (t : TypeId) (old cells : Array Value) (hx : a.eval x = .pointer (some ⟨N, 0, none⟩)) (hy : a.eval y = .agg cells)
    (hi : (P.info? ty).map (·.size) = some cells.size) (hold : old.size = cells.size) (h1 : cells.all (·.oneCell') = true)
    (h : wpList P ops Q rest a (w.alloc (.cells cells t))) : wpList P ops Q (o :: rest) a (w.alloc (.cells old t)) := by
  subst hN
  refine wpList_store_row hgd ty x y ho w.heap.size cells hx hy t old (heap_alloc_last w _) hi hold h1 ?_
  rw [hd, World.setRow_alloc_new]
  exact h

/-- 'var w [n]T': the array's zero is built, a new block is made, the zero goes into it. -/
theorem wpList_zero_arr {P : Program} {ops : Array Oper} {rest : List Oper} {o1 o2 o3 : Oper} {a : Act} {Q : Exit → Act → World → Prop} (t : TypeId) (z : Array Value) (hz : P.built t [] = some z) (hi : (P.info? t).map (fun i => (i.zero, i.size)) = some (some (.agg z), z.size)) (h1 : z.all (·.oneCell') = true)
    (g1 : o1.guard = none) (g2 : o2.guard = none) (g3 : o3.guard = none) (x y : Operand) (e1 : o1.op = .build t #[]) (e2 : o2.op = .alloc t) (e3 : o3.op = .store t x y) (d3 : o3.dst = none) (w : World) (N : Nat) (hN : w.heap.size = N)
    (hx : ((a.put o1.dst (.agg z)).put o2.dst (.pointer (some ⟨N, 0, none⟩))).eval x = .pointer (some ⟨N, 0, none⟩)) (hy : ((a.put o1.dst (.agg z)).put o2.dst (.pointer (some ⟨N, 0, none⟩))).eval y = .agg z)
    (h : wpList P ops Q rest ((a.put o1.dst (.agg z)).put o2.dst (.pointer (some ⟨N, 0, none⟩))) (w.alloc (.cells z t))) : wpList P ops Q (o1 :: o2 :: o3 :: rest) a w := by
  subst hN
  obtain ⟨hzero, hsz⟩ := zero_of_info hi
  refine wpList_buildTo g1 t #[] e1 _ rfl z (by simpa using hz) ?_
  refine Great.wpList_runTo g2 _ rfl (.pointer (some ⟨w.heap.size, 0, none⟩)) (w.alloc (.cells z t)) ?_ ?_
  · unfold execOp
    rw [e2]
    simp [Instr.alloc, hzero, newVar, Value.cells]
    rfl
  · exact wpList_store_new g3 t x y e3 d3 w _ rfl t z z hx hy hsz rfl h1 h

/-- The four blocks that have just been made, told; the world under a name. -/
theorem wp_four {P : Program} {c : Code} {Q : Exit → Act → World → Prop} {a : Act} {w : World} {A B C D : Array Value} {t1 t2 t3 t4 : TypeId}
    (h : ∀ W : World, Blk W w.heap.size t1 A.toList → Blk W (w.heap.size + 1) t2 B.toList → Blk W (w.heap.size + 2) t3 C.toList → Blk W (w.heap.size + 3) t4 D.toList → Below w.heap.size w W → W.heap.size = w.heap.size + 4 → Code.wp P c Q a W) :
    Code.wp P c Q a ((((w.alloc (.cells A t1)).alloc (.cells B t2)).alloc (.cells C t3)).alloc (.cells D t4)) := by
  have s1 := alloc_size w (.cells A t1)
  have s2 := alloc_size (w.alloc (.cells A t1)) (.cells B t2)
  have s3 := alloc_size ((w.alloc (.cells A t1)).alloc (.cells B t2)) (.cells C t3)
  have s4 := alloc_size (((w.alloc (.cells A t1)).alloc (.cells B t2)).alloc (.cells C t3)) (.cells D t4)
  have b1 := Blk.new w t1 A.toList A (by simp)
  have b2 := Blk.new (w.alloc (.cells A t1)) t2 B.toList B (by simp)
  have b3 := Blk.new ((w.alloc (.cells A t1)).alloc (.cells B t2)) t3 C.toList C (by simp)
  have b4 := Blk.new (((w.alloc (.cells A t1)).alloc (.cells B t2)).alloc (.cells C t3)) t4 D.toList D (by simp)
  rw [s1] at b2
  rw [s2, s1] at b3
  rw [s3, s2, s1] at b4
  exact h _ (((b1.alloc _).alloc _).alloc _) ((b2.alloc _).alloc _) (b3.alloc _) b4
    (((((Below.refl _ w).alloc (Nat.le_refl _) _).alloc (by omega) _).alloc (by omega) _).alloc (by omega) _) (by omega)

/-- Numbers of 32 bits, as cells. -/
def natC (l : List Nat) : List Value := l.map fun (x : Nat) => Value.int .u32 (x : Int)
theorem natC_length (l : List Nat) : (natC l).length = l.length := by simp [natC]
theorem natC_get (l : List Nat) (j : Nat) : (natC l)[j]? = (l[j]?).map fun (x : Nat) => Value.int .u32 (x : Int) := by simp [natC]

/-- 64 zeros. -/
def z64L : List Value := List.replicate 64 (.int .u32 0)
def z64 : Array Value := z64L.toArray
theorem z64L_length : z64L.length = 64 := by simp [z64L]
theorem z64_one : z64.all (·.oneCell') = true := by decide +kernel

/-- 'b[i]' of a string, told by its number. -/
theorem idx_byt {P : Program} {t : TypeId} (ht : P.underlying t = some .string) (s : ByteArray) (i : Int) (a : Nat) (hi : i = a) (h : a < s.size) (w : World) :
    (Instr.index t (.string s) (.int .i64 i)).run P w = .ok (.int .u8 (byt s.data.toList a : Nat)) w := by
  rw [idx_str ht s i a hi h w]
  have h' : a < s.data.toList.length := by simpa using h
  have e : byt s.data.toList a = s[a].toNat := by
    unfold byt
    rw [List.getD_eq_getElem?_getD, List.getElem?_eq_getElem h']
    rfl
  rw [e]

theorem step_set {cs : List Value} {N k : Nat} {g : Nat → Value} {v : Value} (H : cs.length = N ∧ ∀ j, j < k → cs[j]? = some (g j)) (hk : k < N) (hv : v = g k) :
    (cs.set k v).length = N ∧ ∀ j, j < k + 1 → (cs.set k v)[j]? = some (g j) := by
  refine ⟨by rw [List.length_set]; exact H.1, fun j hj => ?_⟩
  by_cases hjk : j = k
  · subst hjk; rw [List.getElem?_set_self (by rw [H.1]; exact hk), hv]
  · rw [List.getElem?_set_ne (by omega)]; exact H.2 j (by omega)

theorem wordB_int {a b c d : Nat} (ha : a < 256) (hb : b < 256) (hc : c < 256) (hd : d < 256) :
    bits BinOp.or IntKind.u32 (bits BinOp.or IntKind.u32 (bits BinOp.or IntKind.u32 ((a : Int) * 16777216) ((b : Int) * 65536)) ((c : Int) * 256)) (d : Int) = (wordB a b c d : Nat) := by
  have e1 := u32_or_nat (a * 16777216) (b * 65536) (by omega) (by omega)
  have l1 : (a * 16777216) ||| (b * 65536) < 4294967296 := Nat.or_lt_two_pow (n := 32) (by omega) (by omega)
  have e2 := u32_or_nat ((a * 16777216) ||| (b * 65536)) (c * 256) l1 (by omega)
  have l2 : ((a * 16777216) ||| (b * 65536)) ||| (c * 256) < 4294967296 := Nat.or_lt_two_pow (n := 32) l1 (by omega)
  have e3 := u32_or_nat (((a * 16777216) ||| (b * 65536)) ||| (c * 256)) d l2 (by omega)
  have ta : ((a * 16777216 : Nat) : Int) = (a : Int) * 16777216 := by rw [Int.natCast_mul]; rfl
  have tb : ((b * 65536 : Nat) : Int) = (b : Int) * 65536 := by rw [Int.natCast_mul]; rfl
  have tc : ((c * 256 : Nat) : Int) = (c : Int) * 256 := by rw [Int.natCast_mul]; rfl
  rw [ta, tb] at e1
  rw [tc] at e2
  rw [e1, e2, e3]
  rfl

theorem xor_int {x y : Nat} {X Y : Int} (hX : X = (x : Int)) (hY : Y = (y : Int)) (hx : x < 4294967296) (hy : y < 4294967296) : bits BinOp.xor IntKind.u32 X Y = ((x ^^^ y : Nat) : Int) := by subst hX; subst hY; exact u32_xor_nat x y hx hy
theorem and_int {x y : Nat} {X Y : Int} (hX : X = (x : Int)) (hY : Y = (y : Int)) (hx : x < 4294967296) (hy : y < 4294967296) : bits BinOp.and IntKind.u32 X Y = ((x &&& y : Nat) : Int) := by subst hX; subst hY; exact u32_and_nat x y hx hy
theorem div_lt32 {x : Nat} (n : Nat) (h : x < 4294967296) : x / n < 4294967296 := Nat.lt_of_le_of_lt (Nat.div_le_self _ _) h
theorem sgA_int {x : Nat} (h : x < 4294967296) : bits BinOp.xor IntKind.u32 (bits BinOp.xor IntKind.u32 ((rot x 7 : Nat) : Int) ((rot x 18 : Nat) : Int)) ((x : Int) / 8) = ((sgA x : Nat) : Int) :=
  xor_int (xor_int rfl rfl (rot_lt _ _ h) (rot_lt _ _ h)) (by omega) (xor_lt32 (rot_lt _ _ h) (rot_lt _ _ h)) (div_lt32 8 h)
theorem sgB_int {x : Nat} (h : x < 4294967296) : bits BinOp.xor IntKind.u32 (bits BinOp.xor IntKind.u32 ((rot x 17 : Nat) : Int) ((rot x 19 : Nat) : Int)) ((x : Int) / 1024) = ((sgB x : Nat) : Int) :=
  xor_int (xor_int rfl rfl (rot_lt _ _ h) (rot_lt _ _ h)) (by omega) (xor_lt32 (rot_lt _ _ h) (rot_lt _ _ h)) (div_lt32 1024 h)
theorem sgE_int {x : Nat} (h : x < 4294967296) : bits BinOp.xor IntKind.u32 (bits BinOp.xor IntKind.u32 ((rot x 6 : Nat) : Int) ((rot x 11 : Nat) : Int)) ((rot x 25 : Nat) : Int) = ((sgE x : Nat) : Int) :=
  xor_int (xor_int rfl rfl (rot_lt _ _ h) (rot_lt _ _ h)) rfl (xor_lt32 (rot_lt _ _ h) (rot_lt _ _ h)) (rot_lt _ _ h)
theorem sgO_int {x : Nat} (h : x < 4294967296) : bits BinOp.xor IntKind.u32 (bits BinOp.xor IntKind.u32 ((rot x 2 : Nat) : Int) ((rot x 13 : Nat) : Int)) ((rot x 22 : Nat) : Int) = ((sgO x : Nat) : Int) :=
  xor_int (xor_int rfl rfl (rot_lt _ _ h) (rot_lt _ _ h)) rfl (xor_lt32 (rot_lt _ _ h) (rot_lt _ _ h)) (rot_lt _ _ h)
theorem xor_ones {e : Nat} (h : e < 4294967296) : e ^^^ 4294967295 = 4294967295 - e := by
  have h1 : (BitVec.ofNat 32 e ^^^ BitVec.allOnes 32).toNat = e ^^^ 4294967295 := by
    rw [BitVec.toNat_xor, BitVec.toNat_ofNat, BitVec.toNat_allOnes, Nat.mod_eq_of_lt h]
  rw [← h1, BitVec.xor_allOnes, BitVec.toNat_not, BitVec.toNat_ofNat, Nat.mod_eq_of_lt h]
theorem chW_int {e f g : Nat} (he : e < 4294967296) (hf : f < 4294967296) (hg : g < 4294967296) :
    bits BinOp.xor IntKind.u32 (bits BinOp.and IntKind.u32 (e : Int) (f : Int)) (bits BinOp.and IntKind.u32 (bits BinOp.xor IntKind.u32 (e : Int) 4294967295) (g : Int)) = ((chW e f g : Nat) : Int) := by
  have h1 : bits BinOp.xor IntKind.u32 (e : Int) 4294967295 = ((4294967295 - e : Nat) : Int) := (xor_int (x := e) (y := 4294967295) rfl rfl he (by decide)).trans (by rw [xor_ones he])
  exact xor_int (and_int rfl rfl he hf) (and_int h1 rfl (by omega) hg) (and_lt32 he) (and_lt32 (by omega))
theorem chW_int2 {e f g : Nat} (he : e < 4294967296) (hf : f < 4294967296) (hg : g < 4294967296) :
    bits BinOp.xor IntKind.u32 (bits BinOp.and IntKind.u32 (e : Int) (f : Int)) (bits BinOp.and IntKind.u32 (bits BinOp.xor IntKind.u32 (if IntKind.u32.signed = true then -1 else IntKind.u32.max) (e : Int)) (g : Int)) = ((chW e f g : Nat) : Int) := by
  have h0 : (if IntKind.u32.signed = true then (-1 : Int) else IntKind.u32.max) = ((4294967295 : Nat) : Int) := by decide +kernel
  have h1 : bits BinOp.xor IntKind.u32 (if IntKind.u32.signed = true then -1 else IntKind.u32.max) (e : Int) = ((4294967295 - e : Nat) : Int) := by
    rw [xor_int (x := 4294967295) (y := e) h0 rfl (by decide) he, Nat.xor_comm, xor_ones he]
  exact xor_int (and_int rfl rfl he hf) (and_int h1 rfl (by omega) hg) (and_lt32 he) (and_lt32 (by omega))
theorem majW_int {a b c : Nat} (ha : a < 4294967296) (hb : b < 4294967296) (hc : c < 4294967296) :
    bits BinOp.xor IntKind.u32 (bits BinOp.xor IntKind.u32 (bits BinOp.and IntKind.u32 (a : Int) (b : Int)) (bits BinOp.and IntKind.u32 (a : Int) (c : Int))) (bits BinOp.and IntKind.u32 (b : Int) (c : Int)) = ((majW a b c : Nat) : Int) :=
  xor_int (xor_int (and_int rfl rfl ha hb) (and_int rfl rfl ha hc) (and_lt32 ha) (and_lt32 ha)) (and_int rfl rfl hb hc) (xor_lt32 (and_lt32 ha) (and_lt32 ha)) (and_lt32 hb)

/-- Word j of a block's schedule. -/
def wd (b : List UInt8) (j : Nat) : Nat := (sched b 64).getD j 0
theorem sched_take (b : List UInt8) (k : Nat) (hk : k ≤ 64) : (sched b 64).take k = sched b k := by
  suffices h : ∀ m, (sched b (k + m)).take k = sched b k by
    have := h (64 - k); rwa [show k + (64 - k) = 64 by omega] at this
  intro m
  induction m with
  | zero => exact List.take_of_length_le (by rw [sched_length]; omega)
  | succ m ih => rw [← Nat.add_assoc, sched, List.take_append_of_le_length (by rw [sched_length]; omega)]; exact ih
theorem wd_at (b : List UInt8) (k j : Nat) (hk : k ≤ 64) (hj : j < k) : (sched b k).getD j 0 = wd b j := by
  unfold wd
  rw [← sched_take b k hk, List.getD_eq_getElem?_getD, List.getD_eq_getElem?_getD, List.getElem?_take, if_pos hj]
theorem wd_step (b : List UInt8) (k : Nat) (hk : k < 64) : wd b k = if k < 16 then wordAt b k else nextW ((sched b k).getD (k - 16) 0) ((sched b k).getD (k - 15) 0) ((sched b k).getD (k - 7) 0) ((sched b k).getD (k - 2) 0) := by
  rw [← wd_at b (k + 1) k (by omega) (by omega), sched, List.getD_eq_getElem?_getD, List.getElem?_append_right (by rw [sched_length]; exact Nat.le_refl _), sched_length, Nat.sub_self]
  rfl
theorem wd_lo (b : List UInt8) (k : Nat) (hk : k < 16) : wd b k = wordAt b k := by rw [wd_step b k (by omega), if_pos hk]
theorem wd_hi (b : List UInt8) (k : Nat) (h0 : 16 ≤ k) (hk : k < 64) : wd b k = nextW (wd b (k - 16)) (wd b (k - 15)) (wd b (k - 7)) (wd b (k - 2)) := by
  rw [wd_step b k hk, if_neg (by omega), wd_at b k _ (by omega) (by omega), wd_at b k _ (by omega) (by omega), wd_at b k _ (by omega) (by omega), wd_at b k _ (by omega) (by omega)]
theorem wd_fun (b : List UInt8) : ∃ f : Nat → Nat, f = wd b ∧ (∀ k, k < 16 → f k = wordAt b k) ∧ (∀ k, 16 ≤ k → k < 64 → f k = nextW (f (k - 16)) (f (k - 15)) (f (k - 7)) (f (k - 2))) ∧ (∀ j, f j < 4294967296) :=
  ⟨_, rfl, wd_lo b, wd_hi b, fun j => getD_lt32 (sched_lt b 64) j⟩
theorem wd_lt (b : List UInt8) (j : Nat) : wd b j < 4294967296 := getD_lt32 (sched_lt b 64) j

theorem nextW_int {p q r s y z : Nat} (hy : sgA q = y) (hz : sgB s = z) : ((p : Int) + y + r + z) % 4294967296 = ((nextW p q r s : Nat) : Int) := by
  subst hy; subst hz
  unfold nextW
  omega
theorem rndT_int {v : W8} {k w y z : Nat} (hy : sgE v.e = y) (hz : chW v.e v.f v.g = z) : ((v.h : Int) + y + z + k + w) % 4294967296 = ((rndT v k w : Nat) : Int) := by
  subst hy; subst hz
  unfold rndT
  omega
theorem rndT_int2 {v : W8} {k w y z : Nat} (hy : sgE v.e = y) (hz : chW v.e v.f v.g = z) : (((v.h : Int) + y + z + k) % 4294967296 + w) % 4294967296 = ((rndT v k w : Nat) : Int) := by
  rw [← rndT_int (w := w) hy hz]; omega
theorem rndT_lt (v : W8) (k w : Nat) : rndT v k w < 4294967296 := mod_lt32 _
theorem rndU_lt (v : W8) : rndU v < 4294967296 := mod_lt32 _
theorem rndU_int {v : W8} {y z : Nat} (hy : sgO v.a = y) (hz : majW v.a v.b v.c = z) : ((y : Int) + z) % 4294967296 = ((rndU v : Nat) : Int) := by
  subst hy; subst hz
  unfold rndU
  omega
theorem sum_int (x y : Nat) : ((x : Int) + y) % 4294967296 = (((x + y) % 4294967296 : Nat) : Int) := by omega

/-- The rounds, the words and the keys as functions. -/
def rndF (f k : Nat → Nat) (s : W8) : Nat → W8
  | 0 => s
  | i + 1 => rnd (rndF f k s i) (k i) (f i)
theorem rndF_eq (ws : List Nat) (s : W8) (n : Nat) : rnds ws s n = rndF (fun i => ws.getD i 0) (fun i => keyL.getD i 0) s n := by
  induction n with
  | zero => rfl
  | succ n ih => rw [rnds, rndF, ih]
theorem wd_eq (b : List UInt8) : wd b = fun i => (sched b 64).getD i 0 := rfl
theorem comp_eq (s : W8) (b : List UInt8) : comp s b = addW s (rndF (wd b) (fun i => keyL.getD i 0) s 64) := by
  rw [comp, rndF_eq, wd_eq]
def w8C (s : W8) : List Value := natC s.toL

/-- Word j of eight. -/
def W8.at_ (s : W8) (j : Nat) : Nat := s.toL.getD j 0
theorem W8.at_lt {s : W8} (h : s.Ok) (j : Nat) : s.at_ j < 4294967296 := by
  refine getD_lt32 (fun x hx => ?_) j
  simp only [W8.toL, List.mem_cons, List.not_mem_nil, or_false] at hx
  rcases hx with rfl | rfl | rfl | rfl | rfl | rfl | rfl | rfl
  · exact h.a
  · exact h.b
  · exact h.c
  · exact h.d
  · exact h.e
  · exact h.f
  · exact h.g
  · exact h.h
theorem W8.cell_at (s : W8) (j : Nat) (hj : j < 8) : (natC s.toL)[j]? = some (.int .u32 (s.at_ j : Nat)) := by
  rcases (show j = 0 ∨ j = 1 ∨ j = 2 ∨ j = 3 ∨ j = 4 ∨ j = 5 ∨ j = 6 ∨ j = 7 by omega) with rfl | rfl | rfl | rfl | rfl | rfl | rfl | rfl <;> rfl
theorem addW_at (s z : W8) (j : Nat) (hj : j < 8) : (addW s z).at_ j = (s.at_ j + z.at_ j) % 4294967296 := by
  rcases (show j = 0 ∨ j = 1 ∨ j = 2 ∨ j = 3 ∨ j = 4 ∨ j = 5 ∨ j = 6 ∨ j = 7 by omega) with rfl | rfl | rfl | rfl | rfl | rfl | rfl | rfl <;> rfl
theorem w8_of {cs : List Value} {s : W8} (hl : cs.length = 8) (h : ∀ j, j < 8 → cs[j]? = some (.int .u32 (s.at_ j : Nat))) : cs = natC s.toL := by
  apply List.ext_getElem?
  intro j
  by_cases hj : j < 8
  · rw [h j hj, s.cell_at j hj]
  · rw [List.getElem?_eq_none (by omega), List.getElem?_eq_none (by rw [natC_length]; show 8 ≤ j; omega)]
theorem mix_set {cs : List Value} {k : Nat} {g i : Nat → Value} {v : Value} (H : cs.length = 8 ∧ (∀ j, j < k → cs[j]? = some (g j)) ∧ ∀ j, k ≤ j → j < 8 → cs[j]? = some (i j)) (hk : k < 8) (hv : v = g k) :
    (cs.set k v).length = 8 ∧ (∀ j, j < k + 1 → (cs.set k v)[j]? = some (g j)) ∧ ∀ j, k + 1 ≤ j → j < 8 → (cs.set k v)[j]? = some (i j) := by
  have h := step_set ⟨H.1, H.2.1⟩ hk hv
  exact ⟨h.1, h.2, fun j h1 h2 => by rw [List.getElem?_set_ne (by omega)]; exact H.2.2 j (by omega) h2⟩

theorem natC_one (l : List Nat) : (natC l).toArray.all (·.oneCell') = true := by
  rw [Array.all_eq_true_iff_forall_mem]
  intro v hv
  obtain ⟨x, _, rfl⟩ := List.mem_map.1 (by simpa [natC] using hv : v ∈ natC l)
  rfl
theorem size_setRow' (w : World) (g : Nat) (cs : Array Value) : (w.setRow g cs).heap.size = w.heap.size := by simp [World.setRow]
theorem Below.setRow_ {C : Nat} {w0 w : World} (h : Below C w0 w) {g : Nat} (hg : C ≤ g) (cs : Array Value) : Below C w0 (w.setRow g cs) :=
  ⟨h.os, h.tape, h.output, by rw [size_setRow']; exact h.size, fun i hi => by rw [setRow_other _ _ _ _ (by omega)]; exact h.block i hi⟩

theorem keyL_cell (i : Nat) (hi : i < 64) : (natC keyL).toArray[i]? = some (.int .u32 (keyL.getD i 0 : Nat)) := by
  rw [List.getElem?_toArray, natC_get, List.getD_eq_getElem?_getD, List.getElem?_eq_getElem (by rw [keyL_length]; exact hi)]
  rfl
theorem keyL_getD_lt (i : Nat) : keyL.getD i 0 < 4294967296 := getD_lt32 keyL_lt i

/-- 'var w [n]T' where the zero stays: a new block of zeros. -/
theorem wpList_alloc_arr {P : Program} {ops : Array Oper} {rest : List Oper} {o : Oper} {a : Act} {Q : Exit → Act → World → Prop} (t : TypeId) (z : Array Value) (hi : (P.info? t).map (fun i => (i.zero, i.size)) = some (some (.agg z), z.size))
    (hg : o.guard = none) (ho : o.op = .alloc t) (w : World) (N : Nat) (hN : w.heap.size = N)
    (h : wpList P ops Q rest (a.put o.dst (.pointer (some ⟨N, 0, none⟩))) (w.alloc (.cells z t))) : wpList P ops Q (o :: rest) a w := by
  subst hN
  obtain ⟨hzero, _⟩ := zero_of_info hi
  refine Great.wpList_runTo hg _ rfl (.pointer (some ⟨w.heap.size, 0, none⟩)) (w.alloc (.cells z t)) ?_ h
  unfold execOp
  rw [ho]
  simp [Instr.alloc, hzero, newVar, Value.cells]
  rfl
theorem wp_three {P : Program} {c : Code} {Q : Exit → Act → World → Prop} {a : Act} {w : World} {A B C : Array Value} {t1 t2 t3 : TypeId}
    (h : ∀ W : World, Blk W w.heap.size t1 A.toList → Blk W (w.heap.size + 1) t2 B.toList → Blk W (w.heap.size + 2) t3 C.toList → Below w.heap.size w W → W.heap.size = w.heap.size + 3 → Code.wp P c Q a W) :
    Code.wp P c Q a (((w.alloc (.cells A t1)).alloc (.cells B t2)).alloc (.cells C t3)) := by
  have s1 := alloc_size w (.cells A t1)
  have s2 := alloc_size (w.alloc (.cells A t1)) (.cells B t2)
  have s3 := alloc_size ((w.alloc (.cells A t1)).alloc (.cells B t2)) (.cells C t3)
  have b1 := Blk.new w t1 A.toList A (by simp)
  have b2 := Blk.new (w.alloc (.cells A t1)) t2 B.toList B (by simp)
  have b3 := Blk.new ((w.alloc (.cells A t1)).alloc (.cells B t2)) t3 C.toList C (by simp)
  rw [s1] at b2
  rw [s2, s1] at b3
  exact h _ ((b1.alloc _).alloc _) (b2.alloc _) b3 ((((Below.refl _ w).alloc (Nat.le_refl _) _).alloc (by omega) _).alloc (by omega) _) (by omega)

def keyZ : List Int := keyL.map fun (x : Nat) => (x : Int)
theorem keyZ_at (i : Nat) (hi : i < 64) : keyZ[i]? = some ((keyL.getD i 0 : Nat) : Int) := by
  rw [keyZ, List.getElem?_map, List.getD_eq_getElem?_getD, List.getElem?_eq_getElem (by rw [keyL_length]; exact hi)]
  rfl

/-- A block that has just been made, told; the world under a name. -/
theorem wp_one {P : Program} {c : Code} {Q : Exit → Act → World → Prop} {a : Act} {w : World} {A : Array Value} {t : TypeId}
    (h : ∀ W : World, Blk W w.heap.size t A.toList → Below w.heap.size w W → W.heap.size = w.heap.size + 1 → Code.wp P c Q a W) :
    Code.wp P c Q a (w.alloc (.cells A t)) :=
  h _ (Blk.new w t A.toList A (by simp)) ((Below.refl _ w).alloc (Nat.le_refl _) _) (alloc_size w _)

end Go.Proofs.Ytdecehecjlbbiaa

/-
  Plain law: eight words as 32 bytes. No program in sight.
-/
namespace Go.Proofs.Ytdecehecjlbbiaa
open Go.RowKit

theorem be32s_append (l m : List Nat) : be32s (l ++ m) = be32s l ++ be32s m := by simp [be32s]
theorem be32s_prefix (l : List Nat) (k : Nat) (hk : k ≤ l.length) : (be32s l).take (4 * k) = be32s (l.take k) := by
  have e : be32s l = be32s (l.take k) ++ be32s (l.drop k) := by rw [← be32s_append, List.take_append_drop]
  rw [e]
  exact List.take_left' (by rw [be32s_length, List.length_take]; omega)
theorem be32s_take (l : List Nat) (k : Nat) (x : Nat) (hx : l[k]? = some x) : (be32s l).take (4 * k + 4) = (be32s l).take (4 * k) ++ be32 x := by
  have hk : k < l.length := (List.getElem?_eq_some_iff.1 hx).1
  rw [show 4 * k + 4 = 4 * (k + 1) by omega, be32s_prefix l (k + 1) (by omega), be32s_prefix l k (by omega), List.take_add_one, hx, be32s_append]
  simp [be32s]

theorem set4_take {cs A : List Value} {k : Nat} {a b c d : Value} (hl : cs.length = 32) (hk : 4 * k + 4 ≤ 32) (hA : cs.take (4 * k) = A) :
    ((((cs.set (4 * k) a).set (4 * k + 1) b).set (4 * k + 2) c).set (4 * k + 3) d).take (4 * k + 4) = A ++ [a, b, c, d] := by
  subst hA
  apply List.ext_getElem?
  intro j
  have hAl : (cs.take (4 * k)).length = 4 * k := by rw [List.length_take]; omega
  by_cases h1 : j < 4 * k
  · rw [List.getElem?_append_left (by omega), List.getElem?_take, if_pos (by omega), List.getElem?_set_ne (by omega), List.getElem?_set_ne (by omega), List.getElem?_set_ne (by omega), List.getElem?_set_ne (by omega), List.getElem?_take, if_pos h1]
  · rw [List.getElem?_append_right (by omega), hAl]
    by_cases h2 : j < 4 * k + 4
    · rw [List.getElem?_take, if_pos h2]
      rcases (show j = 4 * k ∨ j = 4 * k + 1 ∨ j = 4 * k + 2 ∨ j = 4 * k + 3 by omega) with rfl | rfl | rfl | rfl
      · rw [List.getElem?_set_ne (by omega), List.getElem?_set_ne (by omega), List.getElem?_set_ne (by omega), List.getElem?_set_self (by omega), Nat.sub_self]; rfl
      · rw [List.getElem?_set_ne (by omega), List.getElem?_set_ne (by omega), List.getElem?_set_self (by simp; omega), show 4 * k + 1 - 4 * k = 1 by omega]; rfl
      · rw [List.getElem?_set_ne (by omega), List.getElem?_set_self (by simp; omega), show 4 * k + 2 - 4 * k = 2 by omega]; rfl
      · rw [List.getElem?_set_self (by simp; omega), show 4 * k + 3 - 4 * k = 3 by omega]; rfl
    · rw [List.getElem?_take, if_neg h2, List.getElem?_eq_none (by simp; omega)]

theorem W8.toL_at (s : W8) (j : Nat) (hj : j < 8) : s.toL[j]? = some (s.at_ j) := by
  rcases (show j = 0 ∨ j = 1 ∨ j = 2 ∨ j = 3 ∨ j = 4 ∨ j = 5 ∨ j = 6 ∨ j = 7 by omega) with rfl | rfl | rfl | rfl | rfl | rfl | rfl | rfl <;> rfl
theorem u8s_take (l : List UInt8) (k : Nat) : (u8s l).take k = u8s (l.take k) := by simp [u8s]

end Go.Proofs.Ytdecehecjlbbiaa

/-
  Plain law: the compression function over eight integers. No program in sight.
-/
namespace Go.Proofs.Ytdecehecjlbbiaa
open Go.RowKit

/-- Whether these are the words of a state, and a block. -/
def BlkOk (l : List Int) (b : List UInt8) : Prop := l.length = 8 ∧ b.length = 64 ∧ ∀ x ∈ l, 0 ≤ x ∧ x ≤ 4294967295
instance (l : List Int) (b : List UInt8) : Decidable (BlkOk l b) := by unfold BlkOk; infer_instance
def wOf (l : List Int) (j : Nat) : Nat := (l.getD j 0).toNat
def w8Of (l : List Int) : W8 := ⟨wOf l 0, wOf l 1, wOf l 2, wOf l 3, wOf l 4, wOf l 5, wOf l 6, wOf l 7⟩
theorem w8Of_at (l : List Int) (j : Nat) (hj : j < 8) : (w8Of l).at_ j = wOf l j := by
  rcases (show j = 0 ∨ j = 1 ∨ j = 2 ∨ j = 3 ∨ j = 4 ∨ j = 5 ∨ j = 6 ∨ j = 7 by omega) with rfl | rfl | rfl | rfl | rfl | rfl | rfl | rfl <;> rfl
def intsOf (l : List Nat) : List Int := l.map fun (x : Nat) => (x : Int)
/-- What ShaBlock answers. -/
def shaB (l : List Int) (b : List UInt8) : List Int := if BlkOk l b then intsOf (comp (w8Of l) b).toL else l
theorem shaB_yes {l : List Int} {b : List UInt8} (h : BlkOk l b) : shaB l b = intsOf (comp (w8Of l) b).toL := if_pos h
theorem shaB_no {l : List Int} {b : List UInt8} (h : ¬ BlkOk l b) : shaB l b = l := if_neg h
theorem intsOf_length (l : List Nat) : (intsOf l).length = l.length := by simp [intsOf]
theorem shaB_length (l : List Int) (b : List UInt8) : (shaB l b).length = l.length := by
  unfold shaB; split
  · next h => rw [intsOf_length, h.1]; rfl
  · rfl
theorem wOf_val {l : List Int} (h : ∀ x ∈ l, 0 ≤ x ∧ x ≤ 4294967295) {j : Nat} {x : Int} (hx : l[j]? = some x) : x = (wOf l j : Nat) := by
  have := h x (List.mem_of_getElem? hx)
  unfold wOf
  rw [List.getD_eq_getElem?_getD, hx]
  simp only [Option.getD_some]
  omega
theorem w8Of_ok {l : List Int} (h : ∀ x ∈ l, 0 ≤ x ∧ x ≤ 4294967295) : (w8Of l).Ok := by
  have e : ∀ j, wOf l j < 4294967296 := by
    intro j
    unfold wOf
    rw [List.getD_eq_getElem?_getD]
    by_cases hj : j < l.length
    · rw [List.getElem?_eq_getElem hj]
      have := h _ (List.getElem_mem hj)
      simp only [Option.getD_some]
      omega
    · rw [List.getElem?_eq_none (by omega)]; decide
  exact ⟨e 0, e 1, e 2, e 3, e 4, e 5, e 6, e 7⟩
theorem intsOf_at (s : W8) (j : Nat) (hj : j < 8) : (intC (intsOf s.toL))[j]? = some (.int .i64 (s.at_ j : Nat)) := by
  rcases (show j = 0 ∨ j = 1 ∨ j = 2 ∨ j = 3 ∨ j = 4 ∨ j = 5 ∨ j = 6 ∨ j = 7 by omega) with rfl | rfl | rfl | rfl | rfl | rfl | rfl | rfl <;> rfl
theorem ints8_of {cs : List Value} {s : W8} (hl : cs.length = 8) (h : ∀ j, j < 8 → cs[j]? = some (.int .i64 (s.at_ j : Nat))) : cs = intC (intsOf s.toL) := by
  apply List.ext_getElem?
  intro j
  by_cases hj : j < 8
  · rw [h j hj, intsOf_at s j hj]
  · rw [List.getElem?_eq_none (by omega), List.getElem?_eq_none (by rw [intC_length, intsOf_length]; show 8 ≤ j; omega)]
theorem own_some {w : World} {B size n : Nat} {v : Value} {cs : List Value} (h : Own w B size v n cs) (hn : 0 < n) : ∃ g cap, v = .slice (some ⟨g, 0, none⟩) n cap := by
  rcases h with ⟨_, rfl, _⟩ | ⟨g, cap, rfl, _, _⟩
  · omega
  · exact ⟨g, cap, rfl⟩

/-- The eight cells of a state, and that they may be written. -/
theorem state8 {w : World} {g : Nat} {t : TypeId} {a b c d e f x y : Nat} (h : Blk w g t (natC (W8.toL ⟨a, b, c, d, e, f, x, y⟩))) :
    (w.cell? ⟨g, 0, none⟩ = some (.int .u32 a) ∧ w.cell? ⟨g, 1, none⟩ = some (.int .u32 b) ∧ w.cell? ⟨g, 2, none⟩ = some (.int .u32 c) ∧ w.cell? ⟨g, 3, none⟩ = some (.int .u32 d) ∧ w.cell? ⟨g, 4, none⟩ = some (.int .u32 e) ∧ w.cell? ⟨g, 5, none⟩ = some (.int .u32 f) ∧ w.cell? ⟨g, 6, none⟩ = some (.int .u32 x) ∧ w.cell? ⟨g, 7, none⟩ = some (.int .u32 y)) ∧
    (w.frozen? ⟨g, 0, none⟩ = false ∧ w.frozen? ⟨g, 1, none⟩ = false ∧ w.frozen? ⟨g, 2, none⟩ = false ∧ w.frozen? ⟨g, 3, none⟩ = false ∧ w.frozen? ⟨g, 4, none⟩ = false ∧ w.frozen? ⟨g, 5, none⟩ = false ∧ w.frozen? ⟨g, 6, none⟩ = false ∧ w.frozen? ⟨g, 7, none⟩ = false) :=
  ⟨⟨h.cell 0, h.cell 1, h.cell 2, h.cell 3, h.cell 4, h.cell 5, h.cell 6, h.cell 7⟩, h.frozen 0, h.frozen 1, h.frozen 2, h.frozen 3, h.frozen 4, h.frozen 5, h.frozen 6, h.frozen 7⟩

/-- Another block than the row's own is written. -/
theorem Own.far {w : World} {B size : Nat} {v : Value} {n : Nat} {cs : List Value} (h : Own w B size v n cs) {a : Addr} (hne : v.ownBlock ≠ some a.block) (u : Value) : Own (w.setCell a u) B size v n cs := by
  rcases h with h | ⟨g, cap, rfl, hB, r⟩
  · exact .inl h
  · exact .inr ⟨g, cap, rfl, hB, r.keep (by simp [World.setCell]) (Below.heap_setCell _ _ _ _ (by intro e; exact hne (by simp [Value.ownBlock, e])))⟩

/-- What a slice of integers that came in yields to append. -/
theorem RdI.src {P : Program} {t e' : TypeId} (ht : P.underlying t = some (.slice e')) {w : World} {ao : Option Addr} {l : List Int} (h : RdI w ao l) (c : Nat) :
    Src P 1 t (.slice ao l.length c) l.length (intC l) w := by
  cases ao with
  | none =>
    cases l with
    | nil => exact Src.ofNil w ht c
    | cons x r => obtain ⟨b, off, he, _⟩ := h 0 (.int .i64 x) rfl; cases he
  | some a =>
    refine Src.ofSlice _ ht _ _ _ _ (by rw [intC_length, Nat.mul_one]) (fun j u hu => ?_) (intC_one _)
    obtain ⟨b, off, he, hc⟩ := h j u hu
    cases he
    rw [Addr.add_lit]
    exact hc

end Go.Proofs.Ytdecehecjlbbiaa

/-
  The draws' cursor, told by what it may be: bytes, a place among them, a number; the answers told by their ranges. No program in sight.
-/
namespace Go.Proofs.Ytdecehecjlbbiaa
open Go.RowKit

/-- Bytes that stand at ao. -/
def Bytes (w : World) (ao : Option Addr) (n : Nat) : Prop :=
  ∀ j, j < n → ∃ b off z, ao = some ⟨b, off, none⟩ ∧ (0 : Int) ≤ z ∧ z ≤ 255 ∧ w.cell? ⟨b, off + j, none⟩ = some (.int .u8 z)
theorem Bytes.below {w w' : World} {ao : Option Addr} {n C : Nat} (h : Bytes w ao n) (hb : Below C w w') (hC : w.heap.size ≤ C) : Bytes w' ao n := by
  intro j hj
  obtain ⟨b, off, z, e, h0, h1, hc⟩ := h j hj
  have hlt := World.block_lt_of_cell? _ _ hc
  exact ⟨b, off, z, e, h0, h1, (hb.cell (p := ⟨b, off + j, none⟩) (Nat.lt_of_lt_of_le hlt hC)).trans hc⟩

/-- A cursor over n bytes that came in with world w0: its three cells are block g of world w. -/
structure Cur (T : TypeId) (w0 : World) (n : Nat) (w : World) (g : Nat) : Prop where
  below : Below w0.heap.size w0 w
  ge : w0.heap.size ≤ g
  blk : ∃ ao cap i h, Blk w g T [.slice ao n cap, .int .i64 i, .int .i64 h] ∧ 0 ≤ i ∧ i ≤ (n : Int) ∧ Bytes w0 ao n
  small : n ≤ 1048576

theorem Cur.carry {T : TypeId} {w0 w w' : World} {n g C : Nat} (h : Cur T w0 n w g) (hb : Below C w w') (hC : w.heap.size ≤ C) : Cur T w0 n w' g := by
  obtain ⟨ao, cap, i, x, hk, h0, h1, hB⟩ := h.blk
  have hs := h.below.size
  exact ⟨h.below.trans (hb.mono (by omega)), h.ge, ⟨ao, cap, i, x, hk.below hb (Nat.lt_of_lt_of_le hk.lt hC), h0, h1, hB⟩, h.small⟩
theorem Cur.lt {T : TypeId} {w0 w : World} {n g : Nat} (h : Cur T w0 n w g) : g < w.heap.size := by
  obtain ⟨_, _, _, _, hk, _⟩ := h.blk
  exact hk.lt

/-- A number in a range is handed back; the cursor is there still, and nothing but it has turned. -/
def DrawnI (T : TypeId) (lo hi : Int) (w0 : World) (n g : Nat) (w : World) (e : Ending) (w' : World) : Prop :=
  (∃ x : Int, lo ≤ x ∧ x ≤ hi ∧ e = .returned (.int .i64 x)) ∧ Cur T w0 n w' g ∧ w.grownBy w' (some g)

theorem and255 (x : Int) : 0 ≤ bits BinOp.and IntKind.i64 x 255 ∧ bits BinOp.and IntKind.i64 x 255 ≤ 255 := by
  have h2 : ((BitVec.ofInt 64 x) &&& (BitVec.ofInt 64 255)).toNat ≤ 255 := by
    rw [BitVec.toNat_and]
    exact Nat.and_le_right
  have e : bits BinOp.and IntKind.i64 x 255 = IntKind.i64.wrap (((BitVec.ofInt 64 x) &&& (BitVec.ofInt 64 255)).toNat : Int) := rfl
  rw [e, IntKind.wrap_i64]
  omega

theorem grownBy_trans {a b c : World} {row : Option Nat} (h : a.grownBy b row) (k : b.grownBy c row) : a.grownBy c row :=
  ⟨k.os.trans h.os, k.tape.trans h.tape, k.output.trans h.output, Nat.le_trans h.size k.size, fun i hi hne => (k.block i (Nat.lt_of_lt_of_le hi h.size) hne).trans (h.block i hi hne)⟩
theorem grownBy_below {a b : World} {C : Nat} (h : Below C a b) (hC : a.heap.size ≤ C) (row : Option Nat) : a.grownBy b row :=
  ⟨h.os, h.tape, h.output, h.size, fun i hi _ => h.block i (Nat.lt_of_lt_of_le hi hC)⟩
theorem grownBy_drewN {a b : World} {row : Option Nat} (h : a.grownBy b row) (n : Nat) : a.grownBy (b.drewN n) row := ⟨h.os, h.tape, h.output, h.size, h.block⟩
theorem grownBy_set {a b : World} {g : Nat} (h : a.grownBy b (some g)) (o : Nat) (u : Value) : a.grownBy (b.setCell ⟨g, o, none⟩ u) (some g) :=
  ⟨h.os, h.tape, h.output, by simpa [World.setCell] using h.size, fun i hi hne => (Below.heap_setCell _ _ _ _ (by intro e; exact hne (by rw [e]))).trans (h.block i hi hne)⟩
theorem below_only {a b : World} {g C : Nat} (h : a.grownBy b (some g)) (hg : C ≤ g) (hC : C ≤ a.heap.size) : Below C a b :=
  (Below.refl C a).grown h hC (fun k hk => by cases hk; exact hg)

end Go.Proofs.Ytdecehecjlbbiaa

/-
  Plain law: more of the draws. No program in sight.
-/
namespace Go.Proofs.Ytdecehecjlbbiaa
open Go.RowKit

theorem and30 (x : Int) : 0 ≤ bits BinOp.and IntKind.i64 x 1073741823 ∧ bits BinOp.and IntKind.i64 x 1073741823 ≤ 1073741823 := by
  have h2 : ((BitVec.ofInt 64 x) &&& (BitVec.ofInt 64 1073741823)).toNat ≤ 1073741823 := by
    rw [BitVec.toNat_and]
    exact Nat.and_le_right
  have e : bits BinOp.and IntKind.i64 x 1073741823 = IntKind.i64.wrap (((BitVec.ofInt 64 x) &&& (BitVec.ofInt 64 1073741823)).toNat : Int) := rfl
  rw [e, IntKind.wrap_i64]
  omega

/-- A string, one of a list, is handed back. -/
def DrawnS (T : TypeId) (p : ByteArray → Prop) (w0 : World) (n g : Nat) (w : World) (e : Ending) (w' : World) : Prop :=
  (∃ x : ByteArray, p x ∧ e = .returned (.string x)) ∧ Cur T w0 n w' g ∧ w.grownBy w' (some g)
/-- A bool is handed back. -/
def DrawnB (T : TypeId) (w0 : World) (n g : Nat) (w : World) (e : Ending) (w' : World) : Prop :=
  (∃ x : Bool, e = .returned (.bool x)) ∧ Cur T w0 n w' g ∧ w.grownBy w' (some g)
/-- A number of a list is handed back. -/
def DrawnL (T : TypeId) (l : List Int) (w0 : World) (n g : Nat) (w : World) (e : Ending) (w' : World) : Prop :=
  (∃ x : Int, x ∈ l ∧ e = .returned (.int .i64 x)) ∧ Cur T w0 n w' g ∧ w.grownBy w' (some g)

theorem Cur.alloc {T : TypeId} {w0 w : World} {n g : Nat} (h : Cur T w0 n w g) (o : Obj) : Cur T w0 n (w.alloc o) g := h.carry ((Below.refl _ _).alloc (Nat.le_refl _) _) (Nat.le_refl _)

/-- A row that has just been made is read after the cursor has turned. -/
theorem rdC_kept {w w' : World} {ao : Option Addr} {cs : List Value} {g : Nat} (h : RdC w ao cs) (hg : w.grownBy w' (some g)) (hne : ∀ b off, ao = some ⟨b, off, none⟩ → b ≠ g) : RdC w' ao cs := by
  intro j u hu
  obtain ⟨b, off, e, hc⟩ := h j u hu
  have hlt := World.block_lt_of_cell? _ _ hc
  exact ⟨b, off, e, (World.cell?_of_block (hg.block b hlt (by intro e'; cases e'; exact hne _ _ e rfl))).trans hc⟩
theorem rdC_new (w : World) (cs : List Value) (A : Array Value) (hA : A = cs.toArray) (e : TypeId) : RdC (w.alloc (.cells A e)) (some ⟨w.heap.size, 0, none⟩) cs := by
  subst hA
  intro j x hx
  refine ⟨_, _, rfl, ?_⟩
  have e1 : (w.alloc (.cells cs.toArray e)).cell? ⟨w.heap.size, 0 + j, none⟩ = _ := World.cell?_alloc_new w _ _ (0 + j)
  rw [e1, Nat.zero_add]
  simpa using hx
theorem grownBy_alloc' {a b : World} {row : Option Nat} (h : a.grownBy b row) (o : Obj) : a.grownBy (b.alloc o) row := grownBy_trans h (grownBy_below ((Below.refl _ _).alloc (Nat.le_refl _) _) (Nat.le_refl _) row)

theorem Own.kept_only {w w' : World} {B size : Nat} {v : Value} {n : Nat} {cs : List Value} {g : Nat} (h : Own w B size v n cs) (hg : w.grownBy w' (some g)) (hgB : g < B) : Own w' B size v n cs := by
  refine h.kept hg ?_
  cases hb : v.ownBlock with
  | none => exact .inl rfl
  | some k => exact .inr (fun e => by cases e; have := (h.block _ hb).1; omega)

/-- A row of the call's own is written: the cursor stays. -/
theorem Cur.kept_row {T : TypeId} {w0 w w' : World} {n g : Nat} {row : Option Nat} (h : Cur T w0 n w g) (hg : w.grownBy w' row) (hne : row = some g → False) (hr : ∀ k, row = some k → w0.heap.size ≤ k) : Cur T w0 n w' g := by
  obtain ⟨ao, cap, i, x, hk, h0, h1, hB⟩ := h.blk
  exact ⟨h.below.grown hg h.below.size hr, h.ge, ⟨ao, cap, i, x, hk.kept hg (fun e => hne e.symm), h0, h1, hB⟩, h.small⟩
/-- What has turned is the cursor, or has been made since. -/
theorem grownBy_only {a b c : World} {row : Option Nat} {g : Nat} (h : a.grownBy b (some g)) (k : b.grownBy c row) (hr : ∀ k, row = some k → a.heap.size ≤ k) : a.grownBy c (some g) :=
  ⟨k.os.trans h.os, k.tape.trans h.tape, k.output.trans h.output, Nat.le_trans h.size k.size, fun i hi hne => (k.block i (Nat.lt_of_lt_of_le hi h.size) (by intro e; have := hr i e.symm; omega)).trans (h.block i hi hne)⟩

end Go.Proofs.Ytdecehecjlbbiaa
