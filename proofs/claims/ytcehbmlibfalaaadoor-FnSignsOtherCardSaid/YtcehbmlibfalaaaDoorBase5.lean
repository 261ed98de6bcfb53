/-
  What the walks of this claim lean on, joined: plain laws, no code of the seat.
-/
import Derived.Test.YtcehbmlibfalaaaDoorBase4
import Derived.Laws.BitsAllLaws

/-
  Plain law: the digest's words. No program in sight.
-/
namespace Go.Proofs.YtcehbmlibfalaaaDoor
open Go.RowKit

/-- The turn of a word by n bits to the right. -/
def rot (x n : Nat) : Nat := (x / 2 ^ n) ||| (x * 2 ^ (32 - n) % 4294967296)
theorem rot_lt (x n : Nat) (hx : x < 4294967296) : rot x n < 4294967296 := by
  unfold rot
  have h : (4294967296 : Nat) = 2 ^ 32 := rfl
  rw [h]
  refine Nat.or_lt_two_pow ?_ (Nat.mod_lt _ (by decide))
  exact Nat.lt_of_le_of_lt (Nat.div_le_self _ _) hx

theorem sh_and (n : Nat) (hn : 1 ≤ n ∧ n ≤ 31) : bits BinOp.and IntKind.u64 (18446744073709551616 - (n : Int)) 31 = 32 - (n : Int) := by
  have h : ∀ n : Fin 32, 1 ≤ n.val → bits BinOp.and IntKind.u64 (18446744073709551616 - (n.val : Int)) 31 = 32 - (n.val : Int) := by decide +kernel
  exact h ⟨n, by omega⟩ hn.1
theorem wrap_neg (n : Nat) (hn : 1 ≤ n ∧ n ≤ 31) : IntKind.wrap .u64 (-(n : Int)) = 18446744073709551616 - (n : Int) := by
  simp [IntKind.wrap, IntKind.bits, IntKind.signed]; omega
theorem cast_div (x n : Nat) : ((x / 2 ^ n : Nat) : Int) = (x : Int) / 2 ^ n := by rw [Int.natCast_ediv, Int.natCast_pow]; rfl
theorem cast_shl (x m : Nat) : ((x * 2 ^ m % 4294967296 : Nat) : Int) = (x : Int) * 2 ^ m % 4294967296 := by rw [Int.natCast_emod, Int.natCast_mul, Int.natCast_pow]; rfl
theorem rot_eq (x n : Nat) (hx : x < 4294967296) : bits BinOp.or IntKind.u32 ((x : Int) / 2 ^ n) ((x : Int) * 2 ^ (32 - n) % 4294967296) = ((rot x n : Nat) : Int) := by
  have h := u32_or_nat (x / 2 ^ n) (x * 2 ^ (32 - n) % 4294967296) (Nat.lt_of_le_of_lt (Nat.div_le_self _ _) hx) (Nat.mod_lt _ (by decide))
  rw [cast_div, cast_shl] at h
  exact h
theorem rot_eq' (x n : Nat) (hn : 1 ≤ n ∧ n ≤ 31) (hx : x < 4294967296) : bits BinOp.or IntKind.u32 ((x : Int) * 2 ^ (32 - n) % 4294967296) ((x : Int) / 2 ^ (32 - (32 - n))) = ((rot x n : Nat) : Int) := by
  have h := u32_or_nat (x * 2 ^ (32 - n) % 4294967296) (x / 2 ^ n) (Nat.mod_lt _ (by decide)) (Nat.lt_of_le_of_lt (Nat.div_le_self _ _) hx)
  rw [Nat.or_comm] at h
  rw [cast_div, cast_shl] at h
  rw [show 32 - (32 - n) = n by omega]
  exact h

/-! ### The schedule and the rounds -/

theorem xor_lt32 {x y : Nat} (hx : x < 4294967296) (hy : y < 4294967296) : x ^^^ y < 4294967296 := Nat.xor_lt_two_pow (n := 32) hx hy
theorem and_lt32 {x y : Nat} (hx : x < 4294967296) : x &&& y < 4294967296 := Nat.lt_of_le_of_lt Nat.and_le_left hx
theorem mod_lt32 (x : Nat) : x % 4294967296 < 4294967296 := Nat.mod_lt _ (by decide)

def sgA (x : Nat) : Nat := rot x 7 ^^^ rot x 18 ^^^ (x / 8)
def sgB (x : Nat) : Nat := rot x 17 ^^^ rot x 19 ^^^ (x / 1024)
def sgE (x : Nat) : Nat := rot x 6 ^^^ rot x 11 ^^^ rot x 25
def sgO (x : Nat) : Nat := rot x 2 ^^^ rot x 13 ^^^ rot x 22
def chW (e f g : Nat) : Nat := (e &&& f) ^^^ ((4294967295 - e) &&& g)
def majW (a b c : Nat) : Nat := ((a &&& b) ^^^ (a &&& c)) ^^^ (b &&& c)
theorem sgA_lt {x : Nat} (h : x < 4294967296) : sgA x < 4294967296 := xor_lt32 (xor_lt32 (rot_lt _ _ h) (rot_lt _ _ h)) (Nat.lt_of_le_of_lt (Nat.div_le_self _ _) h)
theorem sgB_lt {x : Nat} (h : x < 4294967296) : sgB x < 4294967296 := xor_lt32 (xor_lt32 (rot_lt _ _ h) (rot_lt _ _ h)) (Nat.lt_of_le_of_lt (Nat.div_le_self _ _) h)
theorem sgE_lt {x : Nat} (h : x < 4294967296) : sgE x < 4294967296 := xor_lt32 (xor_lt32 (rot_lt _ _ h) (rot_lt _ _ h)) (rot_lt _ _ h)
theorem sgO_lt {x : Nat} (h : x < 4294967296) : sgO x < 4294967296 := xor_lt32 (xor_lt32 (rot_lt _ _ h) (rot_lt _ _ h)) (rot_lt _ _ h)
theorem chW_lt {e f g : Nat} (h : e < 4294967296) : chW e f g < 4294967296 := xor_lt32 (and_lt32 h) (and_lt32 (by omega))
theorem majW_lt {a b c : Nat} (ha : a < 4294967296) (hb : b < 4294967296) : majW a b c < 4294967296 := xor_lt32 (xor_lt32 (and_lt32 ha) (and_lt32 ha)) (and_lt32 hb)

/-- The word that stands at four bytes, the highest first. -/
def wordB (a b c d : Nat) : Nat := ((a * 16777216) ||| (b * 65536)) ||| (c * 256) ||| d
theorem wordB_lt {a b c d : Nat} (ha : a < 256) (hb : b < 256) (hc : c < 256) (hd : d < 256) : wordB a b c d < 4294967296 := by
  unfold wordB
  exact Nat.or_lt_two_pow (n := 32) (Nat.or_lt_two_pow (Nat.or_lt_two_pow (by omega) (by omega)) (by omega)) (by omega)
/-- Byte j of a block, as a number. -/
def byt (b : List UInt8) (j : Nat) : Nat := (b.getD j 0).toNat
theorem byt_lt (b : List UInt8) (j : Nat) : byt b j < 256 := UInt8.toNat_lt _
def wordAt (b : List UInt8) (i : Nat) : Nat := wordB (byt b (4 * i)) (byt b (4 * i + 1)) (byt b (4 * i + 2)) (byt b (4 * i + 3))
theorem wordAt_lt (b : List UInt8) (i : Nat) : wordAt b i < 4294967296 := wordB_lt (byt_lt _ _) (byt_lt _ _) (byt_lt _ _) (byt_lt _ _)

/-- The next word of the schedule. -/
def nextW (p q r s : Nat) : Nat := (((p + sgA q) % 4294967296 + r) % 4294967296 + sgB s) % 4294967296
theorem nextW_lt (p q r s : Nat) : nextW p q r s < 4294967296 := mod_lt32 _

/-- The first k words of the schedule of a block. -/
def sched (b : List UInt8) : Nat → List Nat
  | 0 => []
  | k + 1 => sched b k ++ [if k < 16 then wordAt b k else nextW ((sched b k).getD (k - 16) 0) ((sched b k).getD (k - 15) 0) ((sched b k).getD (k - 7) 0) ((sched b k).getD (k - 2) 0)]
theorem sched_length (b : List UInt8) (k : Nat) : (sched b k).length = k := by
  induction k with
  | zero => rfl
  | succ k ih => simp [sched, ih]
theorem sched_lt (b : List UInt8) (k : Nat) : ∀ x ∈ sched b k, x < 4294967296 := by
  induction k with
  | zero => intro x h; simp [sched] at h
  | succ k ih =>
    intro x h
    rw [sched] at h
    rcases List.mem_append.1 h with h | h
    · exact ih x h
    · rw [List.mem_singleton] at h
      subst h
      split
      · exact wordAt_lt _ _
      · exact nextW_lt _ _ _ _
theorem getD_lt32 {l : List Nat} (h : ∀ x ∈ l, x < 4294967296) (i : Nat) : l.getD i 0 < 4294967296 := by
  rw [List.getD_eq_getElem?_getD]
  by_cases hi : i < l.length
  · rw [List.getElem?_eq_getElem hi]; exact h _ (List.getElem_mem hi)
  · rw [List.getElem?_eq_none (by omega)]; decide

/-- Eight words. -/
structure W8 where
  a : Nat
  b : Nat
  c : Nat
  d : Nat
  e : Nat
  f : Nat
  g : Nat
  h : Nat
def W8.toL (s : W8) : List Nat := [s.a, s.b, s.c, s.d, s.e, s.f, s.g, s.h]
structure W8.Ok (s : W8) : Prop where
  a : s.a < 4294967296
  b : s.b < 4294967296
  c : s.c < 4294967296
  d : s.d < 4294967296
  e : s.e < 4294967296
  f : s.f < 4294967296
  g : s.g < 4294967296
  h : s.h < 4294967296

def rndT (s : W8) (k w : Nat) : Nat := ((((s.h + sgE s.e) % 4294967296 + chW s.e s.f s.g) % 4294967296 + k) % 4294967296 + w) % 4294967296
def rndU (s : W8) : Nat := (sgO s.a + majW s.a s.b s.c) % 4294967296
/-- One round. -/
def rnd (s : W8) (k w : Nat) : W8 := ⟨(rndT s k w + rndU s) % 4294967296, s.a, s.b, s.c, (s.d + rndT s k w) % 4294967296, s.e, s.f, s.g⟩
theorem rnd_ok {s : W8} (h : s.Ok) (k w : Nat) : (rnd s k w).Ok := ⟨mod_lt32 _, h.a, h.b, h.c, mod_lt32 _, h.e, h.f, h.g⟩

/-- The rounds' words. -/
def keyL : List Nat := [0x428a2f98, 0x71374491, 0xb5c0fbcf, 0xe9b5dba5, 0x3956c25b, 0x59f111f1, 0x923f82a4, 0xab1c5ed5, 0xd807aa98, 0x12835b01, 0x243185be, 0x550c7dc3, 0x72be5d74, 0x80deb1fe, 0x9bdc06a7, 0xc19bf174, 0xe49b69c1, 0xefbe4786, 0x0fc19dc6, 0x240ca1cc, 0x2de92c6f, 0x4a7484aa, 0x5cb0a9dc, 0x76f988da, 0x983e5152, 0xa831c66d, 0xb00327c8, 0xbf597fc7, 0xc6e00bf3, 0xd5a79147, 0x06ca6351, 0x14292967, 0x27b70a85, 0x2e1b2138, 0x4d2c6dfc, 0x53380d13, 0x650a7354, 0x766a0abb, 0x81c2c92e, 0x92722c85, 0xa2bfe8a1, 0xa81a664b, 0xc24b8b70, 0xc76c51a3, 0xd192e819, 0xd6990624, 0xf40e3585, 0x106aa070, 0x19a4c116, 0x1e376c08, 0x2748774c, 0x34b0bcb5, 0x391c0cb3, 0x4ed8aa4a, 0x5b9cca4f, 0x682e6ff3, 0x748f82ee, 0x78a5636f, 0x84c87814, 0x8cc70208, 0x90befffa, 0xa4506ceb, 0xbef9a3f7, 0xc67178f2]
theorem keyL_length : keyL.length = 64 := rfl
theorem keyL_lt : ∀ x ∈ keyL, x < 4294967296 := by decide

/-- The first i rounds. -/
def rnds (ws : List Nat) (s : W8) : Nat → W8
  | 0 => s
  | i + 1 => rnd (rnds ws s i) (keyL.getD i 0) (ws.getD i 0)
theorem rnds_ok (ws : List Nat) {s : W8} (h : s.Ok) (i : Nat) : (rnds ws s i).Ok := by
  induction i with
  | zero => exact h
  | succ i ih => exact rnd_ok ih _ _

def addW (s z : W8) : W8 := ⟨(s.a + z.a) % 4294967296, (s.b + z.b) % 4294967296, (s.c + z.c) % 4294967296, (s.d + z.d) % 4294967296, (s.e + z.e) % 4294967296, (s.f + z.f) % 4294967296, (s.g + z.g) % 4294967296, (s.h + z.h) % 4294967296⟩
theorem addW_ok (s z : W8) : (addW s z).Ok := ⟨mod_lt32 _, mod_lt32 _, mod_lt32 _, mod_lt32 _, mod_lt32 _, mod_lt32 _, mod_lt32 _, mod_lt32 _⟩
/-- The compression function. -/
def comp (s : W8) (b : List UInt8) : W8 := addW s (rnds (sched b 64) s 64)
theorem comp_ok (s : W8) (b : List UInt8) : (comp s b).Ok := addW_ok _ _

def startW : W8 := ⟨1779033703, 3144134277, 1013904242, 2773480762, 1359893119, 2600822924, 528734635, 1541459225⟩
theorem startW_ok : startW.Ok := ⟨by decide, by decide, by decide, by decide, by decide, by decide, by decide, by decide⟩

/-- The state behind the first k blocks of p. -/
def chain (p : List UInt8) : Nat → W8
  | 0 => startW
  | k + 1 => comp (chain p k) ((p.drop (64 * k)).take 64)
theorem chain_ok (p : List UInt8) (k : Nat) : (chain p k).Ok := by
  cases k with
  | zero => exact startW_ok
  | succ k => exact comp_ok _ _

def be32s (l : List Nat) : List UInt8 := l.flatMap be32
theorem be32s_length (l : List Nat) : (be32s l).length = 4 * l.length := by
  induction l with
  | nil => rfl
  | cons x r ih => simp [be32s, be32_length] at ih ⊢; omega

/-- The digest. -/
def sha (l : List UInt8) : List UInt8 := be32s (chain (padL l) ((padL l).length / 64)).toL
theorem sha_length (l : List UInt8) : (sha l).length = 32 := by rw [sha, be32s_length]; rfl

end Go.Proofs.YtcehbmlibfalaaaDoor
