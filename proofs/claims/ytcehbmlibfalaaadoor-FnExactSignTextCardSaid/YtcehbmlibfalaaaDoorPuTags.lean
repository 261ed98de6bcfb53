/-
  Plain law: a string with its purpose. And a string that is appended to a []byte. No program in sight.
-/
import Derived.Test.YtcehbmlibfalaaaDoorPuStrs
import Derived.Test.YtcehbmlibfalaaaDoorPuWords
import Derived.Test.YtcehbmlibfalaaaDoorPuSeal
namespace Go.Proofs.YtcehbmlibfalaaaDoor
open Go.RowKit

/-- 'append(b, s...)' for a []byte of the call's own and a string, for the walk. -/
theorem wpList_push_text {P : Program} (w : World) {ops : Array Oper} {rest : List Oper} {o : Oper} {a : Act} {Q : Exit → Act → World → Prop}
    (hg : o.guard = none) (s xo : Operand) (t tx : TypeId) (hop : o.op = Op.call { callee := Callee.builtin Builtin.append, args := #[s, xo], argTypes := #[t, tx] })
    (e : TypeId) (ht : P.underlying t = some (.slice e)) (htx : P.underlying tx = some .string) (hinfo : (P.info? e).map (fun i => (i.zero, i.size, i.bytes)) = some (some (.int .u8 0), 1, 1))
    (B : Nat) (v : Value) (l : List UInt8) (hs : a.eval s = v) (hown : OwnB w B v l) (x : ByteArray)
    (hxo : a.eval xo = .string x) (hb : l.length + x.size ≤ 70368744177664) (hB : B ≤ w.heap.size)
    (hK : ∀ v' w', OwnB w' B v' (l ++ x.data.toList) → w.grownBy w' v.ownBlock → Below B w w' → wpList P ops Q rest (a.put o.dst v') w') :
    wpList P ops Q (o :: rest) a w := by
  refine wpList_append_Own (P := P) _ hg s xo t tx hop B e _ 1 1 ht hinfo rfl v l.length (u8s l) hs hown _ hxo x.size (byteCells x) (Src.ofString w htx x) (by unfold maxLen; omega) (by omega) (by omega) ?_
  intro v' w' h1 hg' _
  refine hK v' w' ?_ hg' ((Below.refl B w).grown hg' hB (fun k hk => (hown.block k hk).1))
  have hx : x.data.toList.length = x.size := by rw [Array.length_toList]; rfl
  unfold OwnB
  rw [u8s_append, List.length_append, hx]
  exact h1

/-- A []byte that has just been built. -/
theorem OwnB.made (w : World) (B : Nat) (xs : List Value) (l : List UInt8) (hx : xs = u8s l) (m : Nat) (hm : l.length = m) (e : TypeId) (hB : B ≤ w.heap.size) (hmax : m ≤ maxLen) :
    OwnB (w.alloc (.cells xs.toArray e)) B (.slice (some ⟨w.heap.size, 0, none⟩) m m) l := by
  subst hm; subst hx
  unfold OwnB
  have e1 := fun j => World.cell?_alloc_new w (u8s l).toArray e j
  refine .inr ⟨w.heap.size, l.length, rfl, hB, by simp, Nat.le_refl _, hmax, by rw [u8s_length, Nat.mul_one], fun j hj => ?_, fun j hj => ⟨?_, World.frozen?_alloc_new _ _ _ _⟩⟩
  · refine (e1 j).trans ?_
    simp
  · rw [Nat.mul_one] at hj
    have e2 : (w.alloc (.cells (u8s l).toArray e)).cell? ⟨w.heap.size, j, none⟩ = _ := e1 j
    rw [e2, List.getElem?_toArray, List.getElem?_eq_getElem (by rw [u8s_length]; exact hj)]; rfl

def tagBody (ps : List ByteArray) : List UInt8 := ps.flatMap fun p => varL p.size ++ p.data.toList
theorem tagBody_step {l : List ByteArray} {k : Nat} {x : ByteArray} (hx : l[k]? = some x) : tagBody (l.take (k + 1)) = tagBody (l.take k) ++ (varL x.size ++ x.data.toList) := by
  unfold tagBody; rw [List.take_add_one, hx]; simp
theorem tagBody_len {l : List ByteArray} (h : ∀ p ∈ l, p.size ≤ 200) : (tagBody l).length ≤ 203 * l.length := by
  induction l with
  | nil => simp [tagBody]
  | cons x l ih =>
    have h1 := h x (by simp)
    have h2 := ih (fun p hp => h p (by simp [hp]))
    have h3 := varL_length_le 2 x.size (by omega)
    have h4 : x.data.toList.length = x.size := by rw [Array.length_toList]; rfl
    unfold tagBody at *
    rw [List.flatMap_cons, List.length_append, List.length_append, h4, List.length_cons]
    omega

/-- What TagText answers. -/
def tagL (k : Int) (ps : List ByteArray) : Option (List UInt8) := if 1 ≤ k ∧ k ≤ 8 ∧ ps.length ≤ 60 ∧ ∀ p ∈ ps, p.size ≤ 200 then some (UInt8.ofNat k.toNat :: tagBody ps) else none
theorem tagL_yes {k : Int} {ps : List ByteArray} (h : 1 ≤ k ∧ k ≤ 8) (h' : ps.length ≤ 60) (hp : ∀ p ∈ ps, p.size ≤ 200) : optTxt (tagL k ps) = .tuple #[.string (txt (UInt8.ofNat k.toNat :: tagBody ps)), .bool true] := by
  rw [tagL, if_pos ⟨h.1, h.2, h', hp⟩]; rfl
theorem tagL_no {k : Int} {ps : List ByteArray} (h : ¬ (1 ≤ k ∧ k ≤ 8 ∧ ps.length ≤ 60 ∧ ∀ p ∈ ps, p.size ≤ 200)) : optTxt (tagL k ps) = .tuple #[.string ⟨#[]⟩, .bool false] := by
  rw [tagL, if_neg h]; rfl
theorem all_step {l : List ByteArray} {k : Nat} {x : ByteArray} {p : ByteArray → Prop} (hx : l[k]? = some x) (h : ∀ y ∈ l.take k, p y) (hp : p x) : ∀ y ∈ l.take (k + 1), p y := by
  intro y hy
  rw [List.take_add_one, hx] at hy
  rcases List.mem_append.1 hy with hy | hy
  · exact h y hy
  · simp at hy; rw [hy]; exact hp

end Go.Proofs.YtcehbmlibfalaaaDoor
