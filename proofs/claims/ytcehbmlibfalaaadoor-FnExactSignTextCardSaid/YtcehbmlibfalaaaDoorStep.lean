/-
  Appending strings to a row of the call's own, at a step of a region that draws its order. No program in sight.
-/
import Derived.Test.YtcehbmlibfalaaaDoorPuStrs
import Derived.Deep.RegionHeld3
namespace Go.Proofs.YtcehbmlibfalaaaDoor
open Go.RowKit

/-- 'append(b, x, y ..)' onto a []string of the call's own, at a step of a region that draws. -/
theorem step_push_strs {P : Program} (w W : World) {ops : Array Oper} {o : Oper} {a : Act} {K : Act → World → Prop} {Q : Exit → Act → World → Prop} {E : Prop}
    (hg : o.guard = none) (s xo : Operand) (t : TypeId) (hop : o.op = Op.call { callee := Callee.builtin Builtin.append, args := #[s, xo], argTypes := #[t, t] })
    (e : TypeId) (ht : P.underlying t = some (.slice e)) (hinfo : (P.info? e).map (fun i => (i.zero, i.size, i.bytes)) = some (some (.string ⟨#[]⟩), 1, 16))
    (B : Nat) (v : Value) (l : List ByteArray) (hs : a.eval s = v) (hown : OwnS w B v l) (xs : List Value) (news : List ByteArray) (hx : xs = strC news) (m c : Nat) (hm : news.length = m)
    (H : Nat) (hxo : a.eval xo = .slice (some ⟨H, 0, none⟩) m c) (hH : w.heap.size = H) (hb : l.length + m ≤ 1099511627776) (hB : B ≤ w.heap.size) (hW : W = w.alloc (.cells xs.toArray e))
    (hK : ∀ v' w', OwnS w' B v' (l ++ news) → w.grownBy w' v.ownBlock → Below B w w' → K (a.put o.dst v') w') :
    if Region.wanted o (yielded ops a.tmps) = true then Oper.wp P o a W K Q else E := by
  have hw : Region.wanted o (yielded ops a.tmps) = true := by simp [Region.wanted, hg]
  rw [if_pos hw]
  subst hW
  subst hH
  have hsz : (w.alloc (.cells xs.toArray e)).heap.size = w.heap.size + 1 := by simp
  obtain ⟨i, hi, hz, hsize, hby⟩ := info_parts hinfo
  obtain ⟨v', w', hrun, r1, r2, r3⟩ := run_append_Own (P := P) (w.alloc (.cells xs.toArray e)) B t t o.type e i _ 1 16 ht hi hz hsize hby rfl v l.length (strC l) (Own.alloc hown _) _ m (strC news) (src_strs ht w c m news xs hm hx) (by unfold maxLen; omega) (by omega) (by omega)
  unfold Oper.wp
  simp [execOp, hop, resolve, invoke, builtin, hs, hxo, hrun, Result.andThen]
  have hg' : w.grownBy w' v.ownBlock := ⟨r2.os, r2.tape, r2.output, by have := r2.size; omega, fun k hk hne => (r2.block k (by omega) hne).trans (Below.heap_alloc w _ k hk)⟩
  refine hK v' w' ?_ hg' ((Below.refl B w).grown hg' hB (fun k hk => (hown.block k hk).1))
  unfold OwnS
  rw [strC_append, List.length_append, hm]
  exact r1

end Go.Proofs.YtcehbmlibfalaaaDoor
