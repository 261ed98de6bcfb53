/-
  The kit of this set, its second part: cuts of strings, told ahead of a walk.
-/
import Derived.Test.YtcehbmlibfalaaaDoorKit
import Derived.Deep.RegionLaw
namespace Go.Proofs.YtcehbmlibfalaaaDoor
open Go.RowKit

section
variable {P : Program}

/-- 's[i:j]', the two places as they stand in the walk, their numbers a and b. -/
theorem cut_str {t : TypeId} (ht : P.underlying t = some .string) (s : ByteArray) (i j : Int) (a b : Nat) (hi : i = a) (hj : j = b) (h : a ≤ b) (hb : b ≤ s.size) (w : World) :
    (Instr.slice t (.string s) (some (.int .i64 i)) (some (.int .i64 j)) none).run P w = .ok (.string (s.extract a b)) w := by
  subst hi; subst hj
  have := run_slice_string (P := P) w t s .i64 .i64 (a : Int) (b : Int) ht (by omega) (by omega) (by omega)
  simpa using this

/-- append onto a row of the call's own, as one operation. -/
theorem wp_append_Own (w : World) {o : Oper} {a : Act} {K : Act → World → Prop} {Q : Exit → Act → World → Prop}
    (s xo : Operand) (t tx : TypeId) (hop : o.op = Op.call { callee := Callee.builtin Builtin.append, args := #[s, xo], argTypes := #[t, tx] })
    (B : Nat) (e : TypeId) (z : Value) (size bytes : Nat) (ht : P.underlying t = some (.slice e)) (hinfo : (P.info? e).map (fun i => (i.zero, i.size, i.bytes)) = some (some z, size, bytes)) (hzs : z.cells.size = size)
    (v : Value) (n : Nat) (cs : List Value) (hsv : a.eval s = v) (h : Own w B size v n cs) (x : Value) (hx : a.eval xo = x) (m : Nat) (news : List Value) (hs : Src P size tx x m news w)
    (h63 : n + m ≤ maxLen) (hbytes : (n + m) * bytes ≤ 140737488355328) (hB : B ≤ w.heap.size)
    (hK : ∀ v' w', Own w' B size v' (n + m) (cs ++ news) → w.grownBy w' v.ownBlock → (v' = .slice none 0 0 ↔ v = .slice none 0 0 ∧ m = 0) → K (a.put o.dst v') w') :
    Oper.wp P o a w K Q := by
  obtain ⟨i, hi, hz, hsize, hby⟩ := info_parts hinfo
  obtain ⟨v', w', hrun, r1, r2, r3⟩ := run_append_Own (P := P) w B t tx o.type e i z size bytes ht hi hz hsize hby hzs v n cs h x m news hs h63 hbytes hB
  unfold Oper.wp
  simp [execOp, hop, resolve, invoke, builtin, hsv, hx, hrun, Result.andThen]
  exact hK v' w' r1 r2 r3

/-- 'append(b, x, y ..)' onto a []byte of the call's own, as one step of a region that draws its order. -/
theorem step_push_u8 (w W : World) {ops : Array Oper} {o : Oper} {a : Act} {K : Act → World → Prop} {Q : Exit → Act → World → Prop} {E : Prop}
    (hg : o.guard = none) (s xo : Operand) (t : TypeId) (hop : o.op = Op.call { callee := Callee.builtin Builtin.append, args := #[s, xo], argTypes := #[t, t] })
    (e : TypeId) (ht : P.underlying t = some (.slice e)) (hinfo : (P.info? e).map (fun i => (i.zero, i.size, i.bytes)) = some (some (.int .u8 0), 1, 1))
    (B : Nat) (v : Value) (l : List UInt8) (hs : a.eval s = v) (hown : OwnB w B v l) (xs : List Value) (news : List UInt8) (hx : xs = u8s news) (m c : Nat) (hm : news.length = m)
    (hxo : a.eval xo = .slice (some ⟨w.heap.size, 0, none⟩) m c) (hb : l.length + m ≤ 70368744177664) (hB : B ≤ w.heap.size) (hW : W = w.alloc (.cells xs.toArray e))
    (hK : ∀ v' w', OwnB w' B v' (l ++ news) → w.grownBy w' v.ownBlock → Below B w w' → K (a.put o.dst v') w') :
    if Region.wanted o (yielded ops a.tmps) = true then Oper.wp P o a W K Q else E := by
  subst hW
  have hw : Region.wanted o (yielded ops a.tmps) = true := by simp [Region.wanted, hg]
  rw [if_pos hw]
  have hsz : (w.alloc (.cells xs.toArray e)).heap.size = w.heap.size + 1 := by simp
  refine wp_append_Own (P := P) _ s xo t t hop B e _ 1 1 ht hinfo rfl v l.length (u8s l) hs (Own.alloc hown _) _ hxo m (u8s news) (src_u8 ht w c m news xs hm hx) (by unfold maxLen; omega) (by omega) (by omega) ?_
  intro v' w' h1 h2 _
  have hg' : w.grownBy w' v.ownBlock := ⟨h2.os, h2.tape, h2.output, by have := h2.size; omega, fun k hk hne => (h2.block k (by omega) hne).trans (Below.heap_alloc w _ k hk)⟩
  refine hK v' w' ?_ hg' ((Below.refl B w).grown hg' hB (fun k hk => (hown.block k hk).1))
  unfold OwnB
  rw [u8s_append, List.length_append, hm]
  exact h1

end

theorem OwnB.drew {w : World} {B : Nat} {v : Value} {l : List UInt8} (h : OwnB w B v l) : OwnB w.drew B v l := Own.drew h

theorem val_int {k : IntKind} {a b : Int} (h : a = b) : Value.int k a = Value.int k b := by rw [h]
theorem ret_val {a b : Value} (h : a = b) : Ending.returned a = Ending.returned b := by rw [h]

theorem extract_list (s : ByteArray) (a b : Nat) : (s.extract a b).data.toList = (s.data.toList.drop a).take (b - a) := Lib.extract_data s a b

theorem extract_txt (s : ByteArray) (a b : Nat) : s.extract a b = txt ((s.data.toList.drop a).take (b - a)) := by
  rw [← extract_list, txt_toList]

/-- How the walk tells that two strings are one. -/
theorem same_toList (l m : List UInt8) : ((txt l).toList == (txt m).toList) = (l == m) := by
  have e : ∀ x : List UInt8, (txt x).toList = x := fun x => by rw [ByteArray.toList_eq]; simp [txt]
  rw [e, e]

end Go.Proofs.YtcehbmlibfalaaaDoor
