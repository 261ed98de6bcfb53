/-
  What the walks of this claim lean on, joined: plain laws, no code of the seat.
-/
import Derived.Test.YtcehbmlibfalaaaDoorBase1
import Derived.Deep.RegionLaw

/-
  The kit of this set, its second part: cuts of strings, told ahead of a walk.
-/
namespace Go.Proofs.YtcehbmlibfalaaaDoor
open Go.RowKit

section
variable {P : Program}

/-- 's[i:j]', the two places as they stand in the walk, their numbers a and b. -/
theorem cut_str {t : TypeId} (ht : P.underlying t = some .string) (s : ByteArray) (i j : Int) (a b : Nat) (hi : i = a) (hj : j = b) (h : a ≤ b) (hb : b ≤ s.size) (w : World) :
    (Instr.slice t (.string s) (some (.int .i64 i)) (some (.int .i64 j)) none).run P w = .ok (.string (s.extract a b)) w := by
  subst hi; subst hj
  have := run_slice_string (P := P) w t s .i64 .i64 (a : Int) (b : Int) ht (by omega) (by omega) (by omega)
  simpa using this

/-- append onto a row of the call's own, as one operation. -/
theorem wp_append_Own (w : World) {o : Oper} {a : Act} {K : Act → World → Prop} {Q : Exit → Act → World → Prop}
    (s xo : Operand) (t tx : TypeId) (hop : o.op = Op.call { callee := Callee.builtin Builtin.append, args := #[s, xo], argTypes := #[t, tx] })
    (B : Nat) (e : TypeId) (z : Value) (size bytes : Nat) (ht : P.underlying t = some (.slice e)) (hinfo : (P.info? e).map (fun i => (i.zero, i.size, i.bytes)) = some (some z, size, bytes)) (hzs : z.cells.size = size)
    (v : Value) (n : Nat) (cs : List Value) (hsv : a.eval s = v) (h : Own w B size v n cs) (x : Value) (hx : a.eval xo = x) (m : Nat) (news : List Value) (hs : Src P size tx x m news w)
    (h63 : n + m ≤ maxLen) (hbytes : (n + m) * bytes ≤ 140737488355328) (hB : B ≤ w.heap.size)
    (hK : ∀ v' w', Own w' B size v' (n + m) (cs ++ news) → w.grownBy w' v.ownBlock → (v' = .slice none 0 0 ↔ v = .slice none 0 0 ∧ m = 0) → K (a.put o.dst v') w') :
    Oper.wp P o a w K Q := by
  obtain ⟨i, hi, hz, hsize, hby⟩ := info_parts hinfo
  obtain ⟨v', w', hrun, r1, r2, r3⟩ := run_append_Own (P := P) w B t tx o.type e i z size bytes ht hi hz hsize hby hzs v n cs h x m news hs h63 hbytes hB
  unfold Oper.wp
  simp [execOp, hop, resolve, invoke, builtin, hsv, hx, hrun, Result.andThen]
  exact hK v' w' r1 r2 r3

/-- 'append(b, x, y ..)' onto a []byte of the call's own, as one step of a region that draws its order. -/
theorem step_push_u8 (w W : World) {ops : Array Oper} {o : Oper} {a : Act} {K : Act → World → Prop} {Q : Exit → Act → World → Prop} {E : Prop}
    (hg : o.guard = none) (s xo : Operand) (t : TypeId) (hop : o.op = Op.call { callee := Callee.builtin Builtin.append, args := #[s, xo], argTypes := #[t, t] })
    (e : TypeId) (ht : P.underlying t = some (.slice e)) (hinfo : (P.info? e).map (fun i => (i.zero, i.size, i.bytes)) = some (some (.int .u8 0), 1, 1))
    (B : Nat) (v : Value) (l : List UInt8) (hs : a.eval s = v) (hown : OwnB w B v l) (xs : List Value) (news : List UInt8) (hx : xs = u8s news) (m c : Nat) (hm : news.length = m)
    (hxo : a.eval xo = .slice (some ⟨w.heap.size, 0, none⟩) m c) (hb : l.length + m ≤ 70368744177664) (hB : B ≤ w.heap.size) (hW : W = w.alloc (.cells xs.toArray e))
    (hK : ∀ v' w', OwnB w' B v' (l ++ news) → w.grownBy w' v.ownBlock → Below B w w' → K (a.put o.dst v') w') :
    if Region.wanted o (yielded ops a.tmps) = true then Oper.wp P o a W K Q else E := by
  subst hW
  have hw : Region.wanted o (yielded ops a.tmps) = true := by simp [Region.wanted, hg]
  rw [if_pos hw]
  have hsz : (w.alloc (.cells xs.toArray e)).heap.size = w.heap.size + 1 := by simp
  refine wp_append_Own (P := P) _ s xo t t hop B e _ 1 1 ht hinfo rfl v l.length (u8s l) hs (Own.alloc hown _) _ hxo m (u8s news) (src_u8 ht w c m news xs hm hx) (by unfold maxLen; omega) (by omega) (by omega) ?_
  intro v' w' h1 h2 _
  have hg' : w.grownBy w' v.ownBlock := ⟨h2.os, h2.tape, h2.output, by have := h2.size; omega, fun k hk hne => (h2.block k (by omega) hne).trans (Below.heap_alloc w _ k hk)⟩
  refine hK v' w' ?_ hg' ((Below.refl B w).grown hg' hB (fun k hk => (hown.block k hk).1))
  unfold OwnB
  rw [u8s_append, List.length_append, hm]
  exact h1

end

theorem OwnB.drew {w : World} {B : Nat} {v : Value} {l : List UInt8} (h : OwnB w B v l) : OwnB w.drew B v l := Own.drew h

theorem val_int {k : IntKind} {a b : Int} (h : a = b) : Value.int k a = Value.int k b := by rw [h]
theorem ret_val {a b : Value} (h : a = b) : Ending.returned a = Ending.returned b := by rw [h]

theorem extract_list (s : ByteArray) (a b : Nat) : (s.extract a b).data.toList = (s.data.toList.drop a).take (b - a) := Lib.extract_data s a b

theorem extract_txt (s : ByteArray) (a b : Nat) : s.extract a b = txt ((s.data.toList.drop a).take (b - a)) := by
  rw [← extract_list, txt_toList]

/-- How the walk tells that two strings are one. -/
theorem same_toList (l m : List UInt8) : ((txt l).toList == (txt m).toList) = (l == m) := by
  have e : ∀ x : List UInt8, (txt x).toList = x := fun x => by rw [ByteArray.toList_eq]; simp [txt]
  rw [e, e]

end Go.Proofs.YtcehbmlibfalaaaDoor

/-
  Plain law: the checksum, bit by bit, as a function on numbers. No program in sight.
-/
namespace Go.Proofs.YtcehbmlibfalaaaDoor

/-- One bit of the checksum. -/
def crcBit (x : Nat) : Nat := if x % 2 = 1 then x / 2 ^^^ 3558460437 else x / 2
/-- k bits. -/
def crcBits : Nat → Nat → Nat
  | 0, x => x
  | k + 1, x => crcBits k (crcBit x)
/-- A byte. -/
def crcByte (x : Nat) (b : UInt8) : Nat := crcBits 8 (x ^^^ b.toNat)
/-- A text. -/
def sumL (x : Nat) (l : List UInt8) : Nat := l.foldl crcByte x

theorem crcBit_lt {x : Nat} (h : x < 4294967296) : crcBit x < 4294967296 := by
  unfold crcBit
  split
  · exact Nat.xor_lt_two_pow (n := 32) (by omega) (by decide)
  · omega
theorem crcBits_snoc (k x : Nat) : crcBits (k + 1) x = crcBit (crcBits k x) := by
  induction k generalizing x with
  | zero => rfl
  | succ k ih => rw [crcBits, ih, crcBits]
theorem crcBits_lt (k : Nat) {x : Nat} (h : x < 4294967296) : crcBits k x < 4294967296 := by
  induction k generalizing x with
  | zero => exact h
  | succ k ih => exact ih (crcBit_lt h)
theorem crcByte_lt {x : Nat} (h : x < 4294967296) (b : UInt8) : crcByte x b < 4294967296 :=
  crcBits_lt 8 (Nat.xor_lt_two_pow (n := 32) h (by have := b.toNat_lt; omega))
theorem sumL_lt (l : List UInt8) {x : Nat} (h : x < 4294967296) : sumL x l < 4294967296 := by
  induction l generalizing x with
  | nil => exact h
  | cons b r ih => exact ih (crcByte_lt h b)
theorem sumL_snoc (x : Nat) (l : List UInt8) (b : UInt8) : sumL x (l ++ [b]) = crcByte (sumL x l) b := by simp [sumL]
theorem sumL_append (x : Nat) (l m : List UInt8) : sumL x (l ++ m) = sumL (sumL x l) m := by simp [sumL]

end Go.Proofs.YtcehbmlibfalaaaDoor

/-
  Plain law: hexadecimal digits. No program in sight.
-/
namespace Go.Proofs.YtcehbmlibfalaaaDoor

/-- The digit of a number below 16. -/
def fig (n : Nat) : UInt8 := if n < 10 then UInt8.ofNat (48 + n) else UInt8.ofNat (87 + n)
theorem fig_lo {n : Nat} (h : n < 10) : ((fig n).toNat : Int) = 48 + n := by
  rw [fig, if_pos h, UInt8.toNat_ofNat_of_lt' (by show _ < 256; omega)]; omega
theorem fig_hi {n : Nat} (h : ¬ n < 10) (h' : n < 16) : ((fig n).toNat : Int) = 87 + n := by
  rw [fig, if_neg h, UInt8.toNat_ofNat_of_lt' (by show _ < 256; omega)]; omega

/-- The two digits of a byte. -/
def hex2 (b : UInt8) : List UInt8 := [fig (b.toNat / 16), fig (b.toNat % 16)]
def hexL (l : List UInt8) : List UInt8 := l.flatMap hex2
theorem hexL_length (l : List UInt8) : (hexL l).length = 2 * l.length := by
  induction l with
  | nil => rfl
  | cons b r ih => simp [hexL, hex2] at ih ⊢; omega
theorem hexL_snoc (s : ByteArray) (k : Nat) (h : k < s.size) : hexL (s.data.toList.take (k + 1)) = hexL (s.data.toList.take k) ++ hex2 s[k] := by
  rw [take_snoc s k h, hexL, hexL, List.flatMap_append]; simp
theorem hexL_take (s : ByteArray) (k : Nat) (hk : k ≤ s.size) : (hexL (s.data.toList.take k)).length = 2 * k := by
  rw [hexL_length, List.length_take, Array.length_toList]
  show 2 * min k s.size = _
  omega

end Go.Proofs.YtcehbmlibfalaaaDoor
