/-
  Whole blocks: what they hold, how they are kept; a long array by value laid into a new block. No program in sight.
-/
import Derived.Test.YtcehbmlibfalaaaDoorPuSha
import Derived.Deep.WholeRow
import Derived.Great.Walk
namespace Go.Proofs.YtcehbmlibfalaaaDoor
open Go.RowKit

/-- Block g is just these cells; all of it may be written. -/
def Blk (w : World) (g : Nat) (t : TypeId) (cs : List Value) : Prop := w.heap[g]? = some (.cells cs.toArray t (0, 0))

theorem Blk.lt {w : World} {g : Nat} {t : TypeId} {cs : List Value} (h : Blk w g t cs) : g < w.heap.size := (Array.getElem?_eq_some_iff.1 h).1
theorem Blk.cell {w : World} {g : Nat} {t : TypeId} {cs : List Value} (h : Blk w g t cs) (i : Nat) : w.cell? ⟨g, i, none⟩ = cs[i]? := by
  rw [cell_of_row w g i _ t (0, 0) h]; simp
theorem Blk.frozen {w : World} {g : Nat} {t : TypeId} {cs : List Value} (h : Blk w g t cs) (i : Nat) : w.frozen? ⟨g, i, none⟩ = false := frozen_of_row w g i _ t h
theorem Blk.new (w : World) (t : TypeId) (cs : List Value) (A : Array Value) (hA : A = cs.toArray) : Blk (w.alloc (.cells A t)) w.heap.size t cs := by
  subst hA; exact alloc_at w _
theorem Blk.below {w w' : World} {g : Nat} {t : TypeId} {cs : List Value} {C : Nat} (h : Blk w g t cs) (hb : Below C w w') (hg : g < C) : Blk w' g t cs := (hb.block g hg).trans h
theorem Blk.drew {w : World} {g : Nat} {t : TypeId} {cs : List Value} (h : Blk w g t cs) : Blk w.drew g t cs := h
theorem Blk.drewN {w : World} {g : Nat} {t : TypeId} {cs : List Value} (h : Blk w g t cs) (n : Nat) : Blk (w.drewN n) g t cs := h
theorem Blk.alloc {w : World} {g : Nat} {t : TypeId} {cs : List Value} (h : Blk w g t cs) (o : Obj) : Blk (w.alloc o) g t cs := (Below.heap_alloc w o g h.lt).trans h
theorem Blk.set_ {w : World} {g : Nat} {t : TypeId} {cs : List Value} (h : Blk w g t cs) (i : Nat) (u : Value) : Blk (w.setCell ⟨g, i, none⟩ u) g t (cs.set i u) := by
  unfold Blk at h ⊢
  simp [World.setCell, Array.getElem?_modify, h]
theorem Blk.far {w : World} {g : Nat} {t : TypeId} {cs : List Value} (h : Blk w g t cs) {p : Addr} (hp : g ≠ p.block) (u : Value) : Blk (w.setCell p u) g t cs := (Below.heap_setCell w p u g hp).trans h
theorem Blk.setRow_far {w : World} {g k : Nat} {t : TypeId} {cs : List Value} (h : Blk w g t cs) (hk : g ≠ k) (A : Array Value) : Blk (w.setRow k A) g t cs := by
  unfold Blk; rw [setRow_other _ _ _ _ hk]; exact h
theorem Blk.kept {w w' : World} {g : Nat} {t : TypeId} {cs : List Value} {row : Option Nat} (h : Blk w g t cs) (hb : w.grownBy w' row) (hg : some g ≠ row) : Blk w' g t cs := (hb.block g h.lt hg).trans h

/-- A whole array goes into the block that was made last. -/
theorem wpList_store_new {P : Program} {ops : Array Oper} {rest : List Oper} {o : Oper} {a : Act} {Q : Exit → Act → World → Prop} (hgd : o.guard = none) (ty : TypeId) (x y : Operand) (ho : o.op = .store ty x y) (hd : o.dst = none)
    (w : World) (N : Nat) (hN : w.heap.size = N) (t : TypeId) (old cells : Array Value) (hx : a.eval x = .pointer (some ⟨N, 0, none⟩)) (hy : a.eval y = .agg cells)
    (hi : (P.info? ty).map (·.size) = some cells.size) (hold : old.size = cells.size) (h1 : cells.all (·.oneCell') = true)
    (h : wpList P ops Q rest a (w.alloc (.cells cells t))) : wpList P ops Q (o :: rest) a (w.alloc (.cells old t)) := by
  subst hN
  refine wpList_store_row hgd ty x y ho w.heap.size cells hx hy t old (heap_alloc_last w _) hi hold h1 ?_
  rw [hd, World.setRow_alloc_new]
  exact h

/-- 'var w [n]T': the array's zero is built, a new block is made, the zero goes into it. -/
theorem wpList_zero_arr {P : Program} {ops : Array Oper} {rest : List Oper} {o1 o2 o3 : Oper} {a : Act} {Q : Exit → Act → World → Prop} (t : TypeId) (z : Array Value) (hz : P.built t [] = some z) (hi : (P.info? t).map (fun i => (i.zero, i.size)) = some (some (.agg z), z.size)) (h1 : z.all (·.oneCell') = true)
    (g1 : o1.guard = none) (g2 : o2.guard = none) (g3 : o3.guard = none) (x y : Operand) (e1 : o1.op = .build t #[]) (e2 : o2.op = .alloc t) (e3 : o3.op = .store t x y) (d3 : o3.dst = none) (w : World) (N : Nat) (hN : w.heap.size = N)
    (hx : ((a.put o1.dst (.agg z)).put o2.dst (.pointer (some ⟨N, 0, none⟩))).eval x = .pointer (some ⟨N, 0, none⟩)) (hy : ((a.put o1.dst (.agg z)).put o2.dst (.pointer (some ⟨N, 0, none⟩))).eval y = .agg z)
    (h : wpList P ops Q rest ((a.put o1.dst (.agg z)).put o2.dst (.pointer (some ⟨N, 0, none⟩))) (w.alloc (.cells z t))) : wpList P ops Q (o1 :: o2 :: o3 :: rest) a w := by
  subst hN
  obtain ⟨hzero, hsz⟩ := zero_of_info hi
  refine wpList_buildTo g1 t #[] e1 _ rfl z (by simpa using hz) ?_
  refine Great.wpList_runTo g2 _ rfl (.pointer (some ⟨w.heap.size, 0, none⟩)) (w.alloc (.cells z t)) ?_ ?_
  · unfold execOp
    rw [e2]
    simp [Instr.alloc, hzero, newVar, Value.cells]
    rfl
  · exact wpList_store_new g3 t x y e3 d3 w _ rfl t z z hx hy hsz rfl h1 h

/-- The four blocks that have just been made, told; the world under a name. -/
theorem wp_four {P : Program} {c : Code} {Q : Exit → Act → World → Prop} {a : Act} {w : World} {A B C D : Array Value} {t1 t2 t3 t4 : TypeId}
    (h : ∀ W : World, Blk W w.heap.size t1 A.toList → Blk W (w.heap.size + 1) t2 B.toList → Blk W (w.heap.size + 2) t3 C.toList → Blk W (w.heap.size + 3) t4 D.toList → Below w.heap.size w W → W.heap.size = w.heap.size + 4 → Code.wp P c Q a W) :
    Code.wp P c Q a ((((w.alloc (.cells A t1)).alloc (.cells B t2)).alloc (.cells C t3)).alloc (.cells D t4)) := by
  have s1 := alloc_size w (.cells A t1)
  have s2 := alloc_size (w.alloc (.cells A t1)) (.cells B t2)
  have s3 := alloc_size ((w.alloc (.cells A t1)).alloc (.cells B t2)) (.cells C t3)
  have s4 := alloc_size (((w.alloc (.cells A t1)).alloc (.cells B t2)).alloc (.cells C t3)) (.cells D t4)
  have b1 := Blk.new w t1 A.toList A (by simp)
  have b2 := Blk.new (w.alloc (.cells A t1)) t2 B.toList B (by simp)
  have b3 := Blk.new ((w.alloc (.cells A t1)).alloc (.cells B t2)) t3 C.toList C (by simp)
  have b4 := Blk.new (((w.alloc (.cells A t1)).alloc (.cells B t2)).alloc (.cells C t3)) t4 D.toList D (by simp)
  rw [s1] at b2
  rw [s2, s1] at b3
  rw [s3, s2, s1] at b4
  exact h _ (((b1.alloc _).alloc _).alloc _) ((b2.alloc _).alloc _) (b3.alloc _) b4
    (((((Below.refl _ w).alloc (Nat.le_refl _) _).alloc (by omega) _).alloc (by omega) _).alloc (by omega) _) (by omega)

/-- Numbers of 32 bits, as cells. -/
def natC (l : List Nat) : List Value := l.map fun (x : Nat) => Value.int .u32 (x : Int)
theorem natC_length (l : List Nat) : (natC l).length = l.length := by simp [natC]
theorem natC_get (l : List Nat) (j : Nat) : (natC l)[j]? = (l[j]?).map fun (x : Nat) => Value.int .u32 (x : Int) := by simp [natC]

/-- 64 zeros. -/
def z64L : List Value := List.replicate 64 (.int .u32 0)
def z64 : Array Value := z64L.toArray
theorem z64L_length : z64L.length = 64 := by simp [z64L]
theorem z64_one : z64.all (·.oneCell') = true := by decide +kernel

/-- 'b[i]' of a string, told by its number. -/
theorem idx_byt {P : Program} {t : TypeId} (ht : P.underlying t = some .string) (s : ByteArray) (i : Int) (a : Nat) (hi : i = a) (h : a < s.size) (w : World) :
    (Instr.index t (.string s) (.int .i64 i)).run P w = .ok (.int .u8 (byt s.data.toList a : Nat)) w := by
  rw [idx_str ht s i a hi h w]
  have h' : a < s.data.toList.length := by simpa using h
  have e : byt s.data.toList a = s[a].toNat := by
    unfold byt
    rw [List.getD_eq_getElem?_getD, List.getElem?_eq_getElem h']
    rfl
  rw [e]

theorem step_set {cs : List Value} {N k : Nat} {g : Nat → Value} {v : Value} (H : cs.length = N ∧ ∀ j, j < k → cs[j]? = some (g j)) (hk : k < N) (hv : v = g k) :
    (cs.set k v).length = N ∧ ∀ j, j < k + 1 → (cs.set k v)[j]? = some (g j) := by
  refine ⟨by rw [List.length_set]; exact H.1, fun j hj => ?_⟩
  by_cases hjk : j = k
  · subst hjk; rw [List.getElem?_set_self (by rw [H.1]; exact hk), hv]
  · rw [List.getElem?_set_ne (by omega)]; exact H.2 j (by omega)

theorem wordB_int {a b c d : Nat} (ha : a < 256) (hb : b < 256) (hc : c < 256) (hd : d < 256) :
    bits BinOp.or IntKind.u32 (bits BinOp.or IntKind.u32 (bits BinOp.or IntKind.u32 ((a : Int) * 16777216) ((b : Int) * 65536)) ((c : Int) * 256)) (d : Int) = (wordB a b c d : Nat) := by
  have e1 := u32_or_nat (a * 16777216) (b * 65536) (by omega) (by omega)
  have l1 : (a * 16777216) ||| (b * 65536) < 4294967296 := Nat.or_lt_two_pow (n := 32) (by omega) (by omega)
  have e2 := u32_or_nat ((a * 16777216) ||| (b * 65536)) (c * 256) l1 (by omega)
  have l2 : ((a * 16777216) ||| (b * 65536)) ||| (c * 256) < 4294967296 := Nat.or_lt_two_pow (n := 32) l1 (by omega)
  have e3 := u32_or_nat (((a * 16777216) ||| (b * 65536)) ||| (c * 256)) d l2 (by omega)
  have ta : ((a * 16777216 : Nat) : Int) = (a : Int) * 16777216 := by rw [Int.natCast_mul]; rfl
  have tb : ((b * 65536 : Nat) : Int) = (b : Int) * 65536 := by rw [Int.natCast_mul]; rfl
  have tc : ((c * 256 : Nat) : Int) = (c : Int) * 256 := by rw [Int.natCast_mul]; rfl
  rw [ta, tb] at e1
  rw [tc] at e2
  rw [e1, e2, e3]
  rfl

theorem xor_int {x y : Nat} {X Y : Int} (hX : X = (x : Int)) (hY : Y = (y : Int)) (hx : x < 4294967296) (hy : y < 4294967296) : bits BinOp.xor IntKind.u32 X Y = ((x ^^^ y : Nat) : Int) := by subst hX; subst hY; exact u32_xor_nat x y hx hy
theorem and_int {x y : Nat} {X Y : Int} (hX : X = (x : Int)) (hY : Y = (y : Int)) (hx : x < 4294967296) (hy : y < 4294967296) : bits BinOp.and IntKind.u32 X Y = ((x &&& y : Nat) : Int) := by subst hX; subst hY; exact u32_and_nat x y hx hy
theorem div_lt32 {x : Nat} (n : Nat) (h : x < 4294967296) : x / n < 4294967296 := Nat.lt_of_le_of_lt (Nat.div_le_self _ _) h
theorem sgA_int {x : Nat} (h : x < 4294967296) : bits BinOp.xor IntKind.u32 (bits BinOp.xor IntKind.u32 ((rot x 7 : Nat) : Int) ((rot x 18 : Nat) : Int)) ((x : Int) / 8) = ((sgA x : Nat) : Int) :=
  xor_int (xor_int rfl rfl (rot_lt _ _ h) (rot_lt _ _ h)) (by omega) (xor_lt32 (rot_lt _ _ h) (rot_lt _ _ h)) (div_lt32 8 h)
theorem sgB_int {x : Nat} (h : x < 4294967296) : bits BinOp.xor IntKind.u32 (bits BinOp.xor IntKind.u32 ((rot x 17 : Nat) : Int) ((rot x 19 : Nat) : Int)) ((x : Int) / 1024) = ((sgB x : Nat) : Int) :=
  xor_int (xor_int rfl rfl (rot_lt _ _ h) (rot_lt _ _ h)) (by omega) (xor_lt32 (rot_lt _ _ h) (rot_lt _ _ h)) (div_lt32 1024 h)
theorem sgE_int {x : Nat} (h : x < 4294967296) : bits BinOp.xor IntKind.u32 (bits BinOp.xor IntKind.u32 ((rot x 6 : Nat) : Int) ((rot x 11 : Nat) : Int)) ((rot x 25 : Nat) : Int) = ((sgE x : Nat) : Int) :=
  xor_int (xor_int rfl rfl (rot_lt _ _ h) (rot_lt _ _ h)) rfl (xor_lt32 (rot_lt _ _ h) (rot_lt _ _ h)) (rot_lt _ _ h)
theorem sgO_int {x : Nat} (h : x < 4294967296) : bits BinOp.xor IntKind.u32 (bits BinOp.xor IntKind.u32 ((rot x 2 : Nat) : Int) ((rot x 13 : Nat) : Int)) ((rot x 22 : Nat) : Int) = ((sgO x : Nat) : Int) :=
  xor_int (xor_int rfl rfl (rot_lt _ _ h) (rot_lt _ _ h)) rfl (xor_lt32 (rot_lt _ _ h) (rot_lt _ _ h)) (rot_lt _ _ h)
theorem xor_ones {e : Nat} (h : e < 4294967296) : e ^^^ 4294967295 = 4294967295 - e := by
  have h1 : (BitVec.ofNat 32 e ^^^ BitVec.allOnes 32).toNat = e ^^^ 4294967295 := by
    rw [BitVec.toNat_xor, BitVec.toNat_ofNat, BitVec.toNat_allOnes, Nat.mod_eq_of_lt h]
  rw [← h1, BitVec.xor_allOnes, BitVec.toNat_not, BitVec.toNat_ofNat, Nat.mod_eq_of_lt h]
theorem chW_int {e f g : Nat} (he : e < 4294967296) (hf : f < 4294967296) (hg : g < 4294967296) :
    bits BinOp.xor IntKind.u32 (bits BinOp.and IntKind.u32 (e : Int) (f : Int)) (bits BinOp.and IntKind.u32 (bits BinOp.xor IntKind.u32 (e : Int) 4294967295) (g : Int)) = ((chW e f g : Nat) : Int) := by
  have h1 : bits BinOp.xor IntKind.u32 (e : Int) 4294967295 = ((4294967295 - e : Nat) : Int) := (xor_int (x := e) (y := 4294967295) rfl rfl he (by decide)).trans (by rw [xor_ones he])
  exact xor_int (and_int rfl rfl he hf) (and_int h1 rfl (by omega) hg) (and_lt32 he) (and_lt32 (by omega))
theorem chW_int2 {e f g : Nat} (he : e < 4294967296) (hf : f < 4294967296) (hg : g < 4294967296) :
    bits BinOp.xor IntKind.u32 (bits BinOp.and IntKind.u32 (e : Int) (f : Int)) (bits BinOp.and IntKind.u32 (bits BinOp.xor IntKind.u32 (if IntKind.u32.signed = true then -1 else IntKind.u32.max) (e : Int)) (g : Int)) = ((chW e f g : Nat) : Int) := by
  have h0 : (if IntKind.u32.signed = true then (-1 : Int) else IntKind.u32.max) = ((4294967295 : Nat) : Int) := by decide +kernel
  have h1 : bits BinOp.xor IntKind.u32 (if IntKind.u32.signed = true then -1 else IntKind.u32.max) (e : Int) = ((4294967295 - e : Nat) : Int) := by
    rw [xor_int (x := 4294967295) (y := e) h0 rfl (by decide) he, Nat.xor_comm, xor_ones he]
  exact xor_int (and_int rfl rfl he hf) (and_int h1 rfl (by omega) hg) (and_lt32 he) (and_lt32 (by omega))
theorem majW_int {a b c : Nat} (ha : a < 4294967296) (hb : b < 4294967296) (hc : c < 4294967296) :
    bits BinOp.xor IntKind.u32 (bits BinOp.xor IntKind.u32 (bits BinOp.and IntKind.u32 (a : Int) (b : Int)) (bits BinOp.and IntKind.u32 (a : Int) (c : Int))) (bits BinOp.and IntKind.u32 (b : Int) (c : Int)) = ((majW a b c : Nat) : Int) :=
  xor_int (xor_int (and_int rfl rfl ha hb) (and_int rfl rfl ha hc) (and_lt32 ha) (and_lt32 ha)) (and_int rfl rfl hb hc) (xor_lt32 (and_lt32 ha) (and_lt32 ha)) (and_lt32 hb)

/-- Word j of a block's schedule. -/
def wd (b : List UInt8) (j : Nat) : Nat := (sched b 64).getD j 0
theorem sched_take (b : List UInt8) (k : Nat) (hk : k ≤ 64) : (sched b 64).take k = sched b k := by
  suffices h : ∀ m, (sched b (k + m)).take k = sched b k by
    have := h (64 - k); rwa [show k + (64 - k) = 64 by omega] at this
  intro m
  induction m with
  | zero => exact List.take_of_length_le (by rw [sched_length]; omega)
  | succ m ih => rw [← Nat.add_assoc, sched, List.take_append_of_le_length (by rw [sched_length]; omega)]; exact ih
theorem wd_at (b : List UInt8) (k j : Nat) (hk : k ≤ 64) (hj : j < k) : (sched b k).getD j 0 = wd b j := by
  unfold wd
  rw [← sched_take b k hk, List.getD_eq_getElem?_getD, List.getD_eq_getElem?_getD, List.getElem?_take, if_pos hj]
theorem wd_step (b : List UInt8) (k : Nat) (hk : k < 64) : wd b k = if k < 16 then wordAt b k else nextW ((sched b k).getD (k - 16) 0) ((sched b k).getD (k - 15) 0) ((sched b k).getD (k - 7) 0) ((sched b k).getD (k - 2) 0) := by
  rw [← wd_at b (k + 1) k (by omega) (by omega), sched, List.getD_eq_getElem?_getD, List.getElem?_append_right (by rw [sched_length]; exact Nat.le_refl _), sched_length, Nat.sub_self]
  rfl
theorem wd_lo (b : List UInt8) (k : Nat) (hk : k < 16) : wd b k = wordAt b k := by rw [wd_step b k (by omega), if_pos hk]
theorem wd_hi (b : List UInt8) (k : Nat) (h0 : 16 ≤ k) (hk : k < 64) : wd b k = nextW (wd b (k - 16)) (wd b (k - 15)) (wd b (k - 7)) (wd b (k - 2)) := by
  rw [wd_step b k hk, if_neg (by omega), wd_at b k _ (by omega) (by omega), wd_at b k _ (by omega) (by omega), wd_at b k _ (by omega) (by omega), wd_at b k _ (by omega) (by omega)]
theorem wd_fun (b : List UInt8) : ∃ f : Nat → Nat, f = wd b ∧ (∀ k, k < 16 → f k = wordAt b k) ∧ (∀ k, 16 ≤ k → k < 64 → f k = nextW (f (k - 16)) (f (k - 15)) (f (k - 7)) (f (k - 2))) ∧ (∀ j, f j < 4294967296) :=
  ⟨_, rfl, wd_lo b, wd_hi b, fun j => getD_lt32 (sched_lt b 64) j⟩
theorem wd_lt (b : List UInt8) (j : Nat) : wd b j < 4294967296 := getD_lt32 (sched_lt b 64) j

theorem nextW_int {p q r s y z : Nat} (hy : sgA q = y) (hz : sgB s = z) : ((p : Int) + y + r + z) % 4294967296 = ((nextW p q r s : Nat) : Int) := by
  subst hy; subst hz
  unfold nextW
  omega
theorem rndT_int {v : W8} {k w y z : Nat} (hy : sgE v.e = y) (hz : chW v.e v.f v.g = z) : ((v.h : Int) + y + z + k + w) % 4294967296 = ((rndT v k w : Nat) : Int) := by
  subst hy; subst hz
  unfold rndT
  omega
theorem rndT_int2 {v : W8} {k w y z : Nat} (hy : sgE v.e = y) (hz : chW v.e v.f v.g = z) : (((v.h : Int) + y + z + k) % 4294967296 + w) % 4294967296 = ((rndT v k w : Nat) : Int) := by
  rw [← rndT_int (w := w) hy hz]; omega
theorem rndT_lt (v : W8) (k w : Nat) : rndT v k w < 4294967296 := mod_lt32 _
theorem rndU_lt (v : W8) : rndU v < 4294967296 := mod_lt32 _
theorem rndU_int {v : W8} {y z : Nat} (hy : sgO v.a = y) (hz : majW v.a v.b v.c = z) : ((y : Int) + z) % 4294967296 = ((rndU v : Nat) : Int) := by
  subst hy; subst hz
  unfold rndU
  omega
theorem sum_int (x y : Nat) : ((x : Int) + y) % 4294967296 = (((x + y) % 4294967296 : Nat) : Int) := by omega

/-- The rounds, the words and the keys as functions. -/
def rndF (f k : Nat → Nat) (s : W8) : Nat → W8
  | 0 => s
  | i + 1 => rnd (rndF f k s i) (k i) (f i)
theorem rndF_eq (ws : List Nat) (s : W8) (n : Nat) : rnds ws s n = rndF (fun i => ws.getD i 0) (fun i => keyL.getD i 0) s n := by
  induction n with
  | zero => rfl
  | succ n ih => rw [rnds, rndF, ih]
theorem wd_eq (b : List UInt8) : wd b = fun i => (sched b 64).getD i 0 := rfl
theorem comp_eq (s : W8) (b : List UInt8) : comp s b = addW s (rndF (wd b) (fun i => keyL.getD i 0) s 64) := by
  rw [comp, rndF_eq, wd_eq]
def w8C (s : W8) : List Value := natC s.toL

/-- Word j of eight. -/
def W8.at_ (s : W8) (j : Nat) : Nat := s.toL.getD j 0
theorem W8.at_lt {s : W8} (h : s.Ok) (j : Nat) : s.at_ j < 4294967296 := by
  refine getD_lt32 (fun x hx => ?_) j
  simp only [W8.toL, List.mem_cons, List.not_mem_nil, or_false] at hx
  rcases hx with rfl | rfl | rfl | rfl | rfl | rfl | rfl | rfl
  · exact h.a
  · exact h.b
  · exact h.c
  · exact h.d
  · exact h.e
  · exact h.f
  · exact h.g
  · exact h.h
theorem W8.cell_at (s : W8) (j : Nat) (hj : j < 8) : (natC s.toL)[j]? = some (.int .u32 (s.at_ j : Nat)) := by
  rcases (show j = 0 ∨ j = 1 ∨ j = 2 ∨ j = 3 ∨ j = 4 ∨ j = 5 ∨ j = 6 ∨ j = 7 by omega) with rfl | rfl | rfl | rfl | rfl | rfl | rfl | rfl <;> rfl
theorem addW_at (s z : W8) (j : Nat) (hj : j < 8) : (addW s z).at_ j = (s.at_ j + z.at_ j) % 4294967296 := by
  rcases (show j = 0 ∨ j = 1 ∨ j = 2 ∨ j = 3 ∨ j = 4 ∨ j = 5 ∨ j = 6 ∨ j = 7 by omega) with rfl | rfl | rfl | rfl | rfl | rfl | rfl | rfl <;> rfl
theorem w8_of {cs : List Value} {s : W8} (hl : cs.length = 8) (h : ∀ j, j < 8 → cs[j]? = some (.int .u32 (s.at_ j : Nat))) : cs = natC s.toL := by
  apply List.ext_getElem?
  intro j
  by_cases hj : j < 8
  · rw [h j hj, s.cell_at j hj]
  · rw [List.getElem?_eq_none (by omega), List.getElem?_eq_none (by rw [natC_length]; show 8 ≤ j; omega)]
theorem mix_set {cs : List Value} {k : Nat} {g i : Nat → Value} {v : Value} (H : cs.length = 8 ∧ (∀ j, j < k → cs[j]? = some (g j)) ∧ ∀ j, k ≤ j → j < 8 → cs[j]? = some (i j)) (hk : k < 8) (hv : v = g k) :
    (cs.set k v).length = 8 ∧ (∀ j, j < k + 1 → (cs.set k v)[j]? = some (g j)) ∧ ∀ j, k + 1 ≤ j → j < 8 → (cs.set k v)[j]? = some (i j) := by
  have h := step_set ⟨H.1, H.2.1⟩ hk hv
  exact ⟨h.1, h.2, fun j h1 h2 => by rw [List.getElem?_set_ne (by omega)]; exact H.2.2 j (by omega) h2⟩

theorem natC_one (l : List Nat) : (natC l).toArray.all (·.oneCell') = true := by
  rw [Array.all_eq_true_iff_forall_mem]
  intro v hv
  obtain ⟨x, _, rfl⟩ := List.mem_map.1 (by simpa [natC] using hv : v ∈ natC l)
  rfl
theorem size_setRow' (w : World) (g : Nat) (cs : Array Value) : (w.setRow g cs).heap.size = w.heap.size := by simp [World.setRow]
theorem Below.setRow_ {C : Nat} {w0 w : World} (h : Below C w0 w) {g : Nat} (hg : C ≤ g) (cs : Array Value) : Below C w0 (w.setRow g cs) :=
  ⟨h.os, h.tape, h.output, by rw [size_setRow']; exact h.size, fun i hi => by rw [setRow_other _ _ _ _ (by omega)]; exact h.block i hi⟩

theorem keyL_cell (i : Nat) (hi : i < 64) : (natC keyL).toArray[i]? = some (.int .u32 (keyL.getD i 0 : Nat)) := by
  rw [List.getElem?_toArray, natC_get, List.getD_eq_getElem?_getD, List.getElem?_eq_getElem (by rw [keyL_length]; exact hi)]
  rfl
theorem keyL_getD_lt (i : Nat) : keyL.getD i 0 < 4294967296 := getD_lt32 keyL_lt i

/-- 'var w [n]T' where the zero stays: a new block of zeros. -/
theorem wpList_alloc_arr {P : Program} {ops : Array Oper} {rest : List Oper} {o : Oper} {a : Act} {Q : Exit → Act → World → Prop} (t : TypeId) (z : Array Value) (hi : (P.info? t).map (fun i => (i.zero, i.size)) = some (some (.agg z), z.size))
    (hg : o.guard = none) (ho : o.op = .alloc t) (w : World) (N : Nat) (hN : w.heap.size = N)
    (h : wpList P ops Q rest (a.put o.dst (.pointer (some ⟨N, 0, none⟩))) (w.alloc (.cells z t))) : wpList P ops Q (o :: rest) a w := by
  subst hN
  obtain ⟨hzero, _⟩ := zero_of_info hi
  refine Great.wpList_runTo hg _ rfl (.pointer (some ⟨w.heap.size, 0, none⟩)) (w.alloc (.cells z t)) ?_ h
  unfold execOp
  rw [ho]
  simp [Instr.alloc, hzero, newVar, Value.cells]
  rfl
theorem wp_three {P : Program} {c : Code} {Q : Exit → Act → World → Prop} {a : Act} {w : World} {A B C : Array Value} {t1 t2 t3 : TypeId}
    (h : ∀ W : World, Blk W w.heap.size t1 A.toList → Blk W (w.heap.size + 1) t2 B.toList → Blk W (w.heap.size + 2) t3 C.toList → Below w.heap.size w W → W.heap.size = w.heap.size + 3 → Code.wp P c Q a W) :
    Code.wp P c Q a (((w.alloc (.cells A t1)).alloc (.cells B t2)).alloc (.cells C t3)) := by
  have s1 := alloc_size w (.cells A t1)
  have s2 := alloc_size (w.alloc (.cells A t1)) (.cells B t2)
  have s3 := alloc_size ((w.alloc (.cells A t1)).alloc (.cells B t2)) (.cells C t3)
  have b1 := Blk.new w t1 A.toList A (by simp)
  have b2 := Blk.new (w.alloc (.cells A t1)) t2 B.toList B (by simp)
  have b3 := Blk.new ((w.alloc (.cells A t1)).alloc (.cells B t2)) t3 C.toList C (by simp)
  rw [s1] at b2
  rw [s2, s1] at b3
  exact h _ ((b1.alloc _).alloc _) (b2.alloc _) b3 ((((Below.refl _ w).alloc (Nat.le_refl _) _).alloc (by omega) _).alloc (by omega) _) (by omega)

def keyZ : List Int := keyL.map fun (x : Nat) => (x : Int)
theorem keyZ_at (i : Nat) (hi : i < 64) : keyZ[i]? = some ((keyL.getD i 0 : Nat) : Int) := by
  rw [keyZ, List.getElem?_map, List.getD_eq_getElem?_getD, List.getElem?_eq_getElem (by rw [keyL_length]; exact hi)]
  rfl

/-- A block that has just been made, told; the world under a name. -/
theorem wp_one {P : Program} {c : Code} {Q : Exit → Act → World → Prop} {a : Act} {w : World} {A : Array Value} {t : TypeId}
    (h : ∀ W : World, Blk W w.heap.size t A.toList → Below w.heap.size w W → W.heap.size = w.heap.size + 1 → Code.wp P c Q a W) :
    Code.wp P c Q a (w.alloc (.cells A t)) :=
  h _ (Blk.new w t A.toList A (by simp)) ((Below.refl _ w).alloc (Nat.le_refl _) _) (alloc_size w _)

end Go.Proofs.YtcehbmlibfalaaaDoor
