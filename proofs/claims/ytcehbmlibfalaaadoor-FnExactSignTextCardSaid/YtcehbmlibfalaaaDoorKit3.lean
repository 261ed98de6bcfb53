/-
  The kit of this set, its third part: a string turned into bytes, and zeros appended.
-/
import Derived.Test.YtcehbmlibfalaaaDoorKit2
import Derived.Lib.AppendZerosOnto
import Derived.Laws.IdiomStrings
import Derived.Laws.Strings3
namespace Go.Proofs.YtcehbmlibfalaaaDoor
open Go.RowKit

section
variable {P : Program}

/-- 'append(b, x, y ..)' onto a []byte of the call's own, for the walk, the world under a name. -/
theorem wpList_push_u8w (w W : World) {ops : Array Oper} {rest : List Oper} {o : Oper} {a : Act} {Q : Exit → Act → World → Prop}
    (hg : o.guard = none) (s xo : Operand) (t : TypeId) (hop : o.op = Op.call { callee := Callee.builtin Builtin.append, args := #[s, xo], argTypes := #[t, t] })
    (e : TypeId) (ht : P.underlying t = some (.slice e)) (hinfo : (P.info? e).map (fun i => (i.zero, i.size, i.bytes)) = some (some (.int .u8 0), 1, 1))
    (B : Nat) (v : Value) (l : List UInt8) (hs : a.eval s = v) (hown : OwnB w B v l) (xs : List Value) (news : List UInt8) (hx : xs = u8s news) (m c : Nat) (hm : news.length = m)
    (H : Nat) (hxo : a.eval xo = .slice (some ⟨H, 0, none⟩) m c) (hH : w.heap.size = H) (hb : l.length + m ≤ 70368744177664) (hB : B ≤ w.heap.size) (hW : W = w.alloc (.cells xs.toArray e))
    (hK : ∀ v' w', OwnB w' B v' (l ++ news) → w.grownBy w' v.ownBlock → Below B w w' → wpList P ops Q rest (a.put o.dst v') w') :
    wpList P ops Q (o :: rest) a W := by
  subst hW
  subst hH
  exact wpList_push_u8 w hg s xo t hop e ht hinfo B v l hs hown xs news hx m c hm hxo hb hB hK

/-- The bytes of a string, in a new block (whatever its mark). -/
theorem OwnB.ofString (w : World) (B : Nat) (s : ByteArray) (e : TypeId) (hB : B ≤ w.heap.size) (hs : s.size ≤ maxLen) :
    OwnB (w.drew.alloc (.cells (bytesRow s (grownCap w s.size 0 e)) e ((bytesRow s (grownCap w s.size 0 e)).size, (bytesRow s (grownCap w s.size 0 e)).size + 1))) B (.slice (some ⟨w.heap.size, 0, none⟩) s.size (grownCap w s.size 0 e)) s.data.toList := by
  have hge := grownCap_ge w s.size 0 e
  have hcm := grownCap_le_maxLen w s.size 0 e hs
  have hrow : (bytesRow s (grownCap w s.size 0 e)).size = grownCap w s.size 0 e := by
    unfold bytesRow
    simp only [Array.size_append, Array.size_map, Array.size_replicate]
    show s.size + (_ - s.size) = _
    omega
  have hl : s.data.toList.length = s.size := by rw [Array.length_toList]; rfl
  unfold OwnB
  rw [hl]
  refine .inr ⟨w.heap.size, _, rfl, hB, by simp, hge, hcm, by rw [u8s_length, hl, Nat.mul_one], fun j hj => ?_, fun j hj => ⟨?_, ?_⟩⟩
  · rw [Nat.mul_one] at hj
    have e1 := World.cell?_alloc_mark w.drew (bytesRow s (grownCap w s.size 0 e)) e ((bytesRow s (grownCap w s.size 0 e)).size, (bytesRow s (grownCap w s.size 0 e)).size + 1) j
    refine e1.trans ?_
    rw [bytesRow_at s _ j hj, u8s_get, List.getElem?_eq_getElem (by rw [hl]; exact hj)]
    simp
  · have e1 := World.cell?_alloc_mark w.drew (bytesRow s (grownCap w s.size 0 e)) e ((bytesRow s (grownCap w s.size 0 e)).size, (bytesRow s (grownCap w s.size 0 e)).size + 1) j
    have e2 : (w.drew.alloc (.cells (bytesRow s (grownCap w s.size 0 e)) e ((bytesRow s (grownCap w s.size 0 e)).size, (bytesRow s (grownCap w s.size 0 e)).size + 1))).cell? ⟨w.heap.size, j, none⟩ = _ := e1
    rw [e2, Array.getElem?_eq_getElem (by rw [hrow]; omega)]
    rfl
  · have e1 := World.frozen?_alloc_mark w.drew (bytesRow s (grownCap w s.size 0 e)) e (bytesRow s (grownCap w s.size 0 e)).size ((bytesRow s (grownCap w s.size 0 e)).size + 1) j
    have e2 : (w.drew.alloc (.cells (bytesRow s (grownCap w s.size 0 e)) e ((bytesRow s (grownCap w s.size 0 e)).size, (bytesRow s (grownCap w s.size 0 e)).size + 1))).frozen? ⟨w.heap.size, j, none⟩ = _ := e1
    rw [e2, decide_eq_false (by rw [hrow]; omega), Bool.false_and]

theorem OwnB.ne_nil {w : World} {B : Nat} {v : Value} {l : List UInt8} (h : OwnB w B v l) (hl : l ≠ []) : v ≠ .slice none 0 0 := by
  rcases h with ⟨_, h0, _⟩ | ⟨g, cap, rfl, _, _⟩
  · exact absurd (List.eq_nil_of_length_eq_zero h0) hl
  · simp

/-- 's[i:]', 's[:i]', the place as it stands in the walk, its number a. -/
theorem cut_from {P : Program} {t : TypeId} (ht : P.underlying t = some .string) (s : ByteArray) (i : Int) (a : Nat) (hi : i = a) (h : a ≤ s.size) (w : World) :
    (Instr.slice t (.string s) (some (.int .i64 i)) none none).run P w = .ok (.string (s.extract a s.size)) w := by
  subst hi
  rw [run_slice_string_from_if w t s .i64 a ht, if_pos (by omega)]
  rfl
theorem cut_to {P : Program} {t : TypeId} (ht : P.underlying t = some .string) (s : ByteArray) (i : Int) (a : Nat) (hi : i = a) (h : a ≤ s.size) (w : World) :
    (Instr.slice t (.string s) none (some (.int .i64 i)) none).run P w = .ok (.string (s.extract 0 a)) w := by
  subst hi
  rw [run_slice_string_to_if w t s .i64 a ht, if_pos (by omega)]
  rfl
/-- 's[i]', the place as it stands in the walk, its number a. -/
theorem idx_str {P : Program} {t : TypeId} (ht : P.underlying t = some .string) (s : ByteArray) (i : Int) (a : Nat) (hi : i = a) (h : a < s.size) (w : World) :
    (Instr.index t (.string s) (.int .i64 i)).run P w = .ok (.int .u8 (s[a].toNat : Int)) w := by
  subst hi
  simp [run_index_string w t s .i64 a ht, h]
theorem extract_to (s : ByteArray) (a : Nat) : (s.extract 0 a).data.toList = s.data.toList.take a := by rw [extract_list]; simp
theorem extract_from (s : ByteArray) (a : Nat) : (s.extract a s.size).data.toList = s.data.toList.drop a := by
  rw [extract_list]
  apply List.take_of_length_le
  simp
/-- How the walk tells that two strings are one. -/
theorem same_bytes (s r : ByteArray) : (s.toList == r.toList) = (s.data.toList == r.data.toList) := by rw [ByteArray.toList_eq, ByteArray.toList_eq]

/-- A callee that turns nothing, met in a region that draws its order. -/
theorem below_of_same {P : Program} {f : FuncId} {args : Array Value} {w : World} {v : Value} (h : Calls P f args w fun e w' => e = .returned v ∧ w = w') : Calls P f args w fun e w' => e = .returned v ∧ Below w.heap.size w w' :=
  h.mono fun _ _ ⟨he, hw⟩ => ⟨he, hw ▸ Below.refl _ _⟩

theorem OwnB.drewN {w : World} {B : Nat} {v : Value} {l : List UInt8} (h : OwnB w B v l) (q : Nat) : OwnB (w.drewN q) B v l := Own.drewN h q

/-- The length in a slice's slot: for a loop's measure. -/
def lenV : Value → Nat
  | .slice _ n _ => n
  | _ => 0

theorem OwnB.shape {w : World} {B : Nat} {v : Value} {l : List UInt8} (h : OwnB w B v l) : ∃ ao cap, v = .slice ao l.length cap := Own.shape h
theorem OwnB.lenV {w : World} {B : Nat} {v : Value} {l : List UInt8} (h : OwnB w B v l) : lenV v = l.length := by
  obtain ⟨ao, cap, rfl⟩ := h.shape; rfl

theorem join_txt (s : ByteArray) (l : List UInt8) : s ++ txt l = txt (s.data.toList ++ l) := by
  apply ByteArray.ext
  simp [txt]

/-- Zeros, as cells. -/
theorem zeros_u8 (m : Nat) : (Builtin.zeroCells #[Value.int .u8 0] m).toList = u8s (List.replicate m 0) := by
  apply List.ext_getElem
  · simp [Builtin.zeroCells, u8s]
  · intro i h1 h2
    simp [Builtin.zeroCells, u8s, Nat.mod_one]

/-- 'append(b, make([]byte, m)...)' where there is room. -/
theorem run_append_room_zeros (w : World) (t tn ty e : TypeId) (i : TypeInfo) (kn : IntKind) (ht : P.underlying t = some (.slice e)) (htn : P.underlying tn = some (.int kn)) (hi : P.info? e = some i) (hz : i.zero = some (.int .u8 0)) (hsz : i.size = 1) (hby : i.bytes = 1)
    (g n cap m : Nat) (hm : m ≤ 70368744177664) (hroom : n + m ≤ cap) (hc : ∀ j, j < m → (w.cell? ⟨g, n + j, none⟩).isSome = true ∧ w.frozen? ⟨g, n + j, none⟩ = false) :
    (Builtin.append_ #[t, tn] ty #[.slice (some ⟨g, 0, none⟩) n cap, .int .i64 m]).run P w = .ok (.slice (some ⟨g, 0, none⟩) (n + m) cap) (w.setCells g n (u8s (List.replicate m 0))) := by
  have hw : IntKind.i64.wrap (m : Int) = m := by rw [IntKind.wrap_i64]; omega
  have hneg : ¬ ((m : Int) < 0) := by omega
  have h48i : ¬ (281474976710656 < (m : Int)) := by omega
  have hl : (u8s (List.replicate m 0)).length = m := by simp [u8s]
  have hst := run_storeCells_cells (P := P) g n (u8s (List.replicate m 0)) 0 w (fun j hj => by simpa using (hc j (by omega)).1) (fun j hj => by simpa using (hc j (by omega)).2) (u8s_one _)
  simp only [Nat.add_zero] at hst
  have hzz := zeros_u8 m
  rcases Nat.eq_zero_or_pos m with rfl | hpos
  · have hw0 : IntKind.i64.wrap 0 = 0 := by rw [IntKind.wrap_i64]; omega
    have hroom' : n ≤ cap := by omega
    simp [Builtin.append_, run_underlying ht, run_underlying htn, sizeOf, typeInfo, hi, hby, asInt, asIntOf, hw0, hroom', u8s, World.setCells, storeCells]
  · have hm0 : m ≠ 0 := by omega
    simp [Builtin.append_, run_underlying ht, run_underlying htn, sizeOf, typeInfo, zeroValue, hi, hz, hsz, hby, asInt, asIntOf, hw, hneg, hm0, h48i, hroom, hzz, Addr.add_lit, Value.cells, hst]

/-- 'append(b, make([]byte, m)...)' onto a []byte of the call's own. -/
theorem run_append_zeros_Own (w : World) (B : Nat) (t tn ty e : TypeId) (kn : IntKind) (ht : P.underlying t = some (.slice e)) (htn : P.underlying tn = some (.int kn)) (hinfo : (P.info? e).map (fun i => (i.zero, i.size, i.bytes)) = some (some (.int .u8 0), 1, 1))
    (v : Value) (l : List UInt8) (h : OwnB w B v l) (m : Nat) (hb : l.length + m ≤ 70368744177664) (hB : B ≤ w.heap.size) (hv : v ≠ .slice none 0 0) :
    ∃ v' w', (Builtin.append_ #[t, tn] ty #[v, .int .i64 m]).run P w = .ok v' w' ∧ OwnB w' B v' (l ++ List.replicate m 0) ∧ w.grownBy w' v.ownBlock := by
  obtain ⟨i, hi, hz, hsize, hby⟩ := info_parts hinfo
  have hzl : (u8s (List.replicate m 0)).length = m := by simp [u8s]
  rcases h with ⟨rfl, _⟩ | ⟨g, cap, rfl, hBg, r⟩
  · exact absurd rfl hv
  have hcl := r.len
  have hle := r.le
  rw [Nat.mul_one] at hcl
  by_cases hfit : l.length + m ≤ cap
  · have hth : ∀ j, j < m → (w.cell? ⟨g, l.length + j, none⟩).isSome = true ∧ w.frozen? ⟨g, l.length + j, none⟩ = false := fun j hj => r.there _ (by omega)
    have hrun := run_append_room_zeros (P := P) w t tn ty e i kn ht htn hi hz hsize hby g l.length cap m (by omega) hfit hth
    refine ⟨_, _, hrun, ?_, grownBy_setCells w g _ _⟩
    unfold OwnB
    rw [u8s_append, List.length_append, List.length_replicate]
    refine .inr ⟨g, cap, rfl, hBg, by rw [size_setCells]; exact r.lt, hfit, r.max, by rw [List.length_append, hcl, hzl, Nat.mul_one], fun j hj => ?_, fun j hj => ⟨?_, (World.frozen?_setCells g _ _ _ _).trans (r.there j hj).2⟩⟩
    · rw [Nat.mul_one] at hj
      by_cases hjo : j < l.length
      · rw [World.cell?_setCells_out g _ _ _ _ (fun _ _ => Or.inl hjo), List.getElem?_append_left (by omega)]
        exact r.holds j (by omega)
      · have ht' : j - l.length < (u8s (List.replicate m 0)).length := by omega
        have := World.cell?_setCells_in g (u8s (List.replicate m 0)) l.length w (fun j hj => (hth j (by omega)).1) (j - l.length) ht'
        rw [show l.length + (j - l.length) = j by omega] at this
        rw [this, List.getElem?_append_right (by omega), hcl, List.getElem?_eq_getElem ht']
    · by_cases hin : l.length ≤ j ∧ j < l.length + m
      · have := World.cell?_setCells_in g (u8s (List.replicate m 0)) l.length w (fun j hj => (hth j (by omega)).1) (j - l.length) (by omega)
        rw [show l.length + (j - l.length) = j by omega] at this
        rw [this]; rfl
      · rw [World.cell?_setCells_out g _ _ _ _ (fun _ _ => by show j < l.length ∨ l.length + (u8s (List.replicate m 0)).length ≤ j; omega)]
        exact (r.there j hj).1
  · have hold := run_firstCells_some (P := P) w.drew i.size l.length ⟨g, 0, none⟩ l.length cap (u8s l) (by rw [hsize, hcl, Nat.mul_one]) (fun j u hu => by
      rw [Addr.add_lit, Nat.zero_add]
      have hj : j < l.length := by rw [← hcl]; exact (List.getElem?_eq_some_iff.1 hu).1
      exact (r.holds j (by omega)).trans hu)
    have hrun := Lib.run_append_grow_zeros (P := P) w t tn ty e i _ .i64 kn ht htn hi hz (some ⟨g, 0, none⟩) l.length cap (u8s l) hold m (by omega) (by omega) (by omega) (by omega) (by rw [hby]; omega) (by
      rw [hby]; have := nextslicecap_le (show cap < l.length + m by omega); omega)
    have hge := grownCap_ge w (l.length + m) cap e
    have hcm := grownCap_le_maxLen w (l.length + m) cap e (by unfold maxLen; omega)
    have hcells : ((u8s l).toArray ++ Builtin.zeroCells (Value.int IntKind.u8 0).cells m ++ Builtin.zeroCells (Value.int IntKind.u8 0).cells (grownCap w (l.length + m) cap e - (l.length + m))) =
        (u8s (l ++ List.replicate m 0) ++ u8s (List.replicate (grownCap w (l.length + m) cap e - (l.length + m)) 0)).toArray := by
      apply Array.ext'
      simp only [Array.toList_append, u8s_append]
      show _ ++ (Builtin.zeroCells #[Value.int .u8 0] m).toList ++ (Builtin.zeroCells #[Value.int .u8 0] _).toList = _
      rw [zeros_u8, zeros_u8]
    rw [hcells] at hrun
    have hL : (l ++ List.replicate m 0).length = l.length + m := by simp
    have hL' : (u8s (l ++ List.replicate m 0)).length = l.length + m := by rw [u8s_length, hL]
    have hTot : (u8s (l ++ List.replicate m 0) ++ u8s (List.replicate (grownCap w (l.length + m) cap e - (l.length + m)) 0)).length = grownCap w (l.length + m) cap e := by
      rw [List.length_append, hL', u8s_length, List.length_replicate]; omega
    refine ⟨_, _, hrun, ?_, ⟨rfl, rfl, rfl, by simp, fun k hk _ => Below.heap_alloc w.drew _ k hk⟩⟩
    unfold OwnB
    rw [hL]
    refine .inr ⟨w.heap.size, _, rfl, hB, by simp, hge, hcm, by rw [hL', Nat.mul_one], fun j hj => ?_, fun j hj => ⟨?_, ?_⟩⟩
    · rw [Nat.mul_one] at hj
      have e1 := World.cell?_alloc_new w.drew (u8s (l ++ List.replicate m 0) ++ u8s (List.replicate (grownCap w (l.length + m) cap e - (l.length + m)) 0)).toArray e j
      refine Eq.trans e1 ?_
      rw [List.getElem?_toArray, List.getElem?_append_left (by omega)]
    · have e1 := World.cell?_alloc_new w.drew (u8s (l ++ List.replicate m 0) ++ u8s (List.replicate (grownCap w (l.length + m) cap e - (l.length + m)) 0)).toArray e j
      have e2 : (w.drew.alloc (.cells (u8s (l ++ List.replicate m 0) ++ u8s (List.replicate (grownCap w (l.length + m) cap e - (l.length + m)) 0)).toArray e)).cell? ⟨w.heap.size, j, none⟩ = _ := e1
      rw [e2, List.getElem?_toArray, List.getElem?_eq_getElem (by omega)]
      rfl
    · exact World.frozen?_alloc_new w.drew _ _ j

/-- The same, for the walk. -/
theorem wpList_push_zeros (w : World) {ops : Array Oper} {rest : List Oper} {o : Oper} {a : Act} {Q : Exit → Act → World → Prop}
    (hg : o.guard = none) (s xo : Operand) (t tn : TypeId) (hop : o.op = Op.call { callee := Callee.builtin Builtin.append, args := #[s, xo], argTypes := #[t, tn] })
    (e : TypeId) (kn : IntKind) (ht : P.underlying t = some (.slice e)) (htn : P.underlying tn = some (.int kn)) (hinfo : (P.info? e).map (fun i => (i.zero, i.size, i.bytes)) = some (some (.int .u8 0), 1, 1))
    (B : Nat) (v : Value) (l : List UInt8) (hs : a.eval s = v) (hown : OwnB w B v l) (n : Int) (m : Nat) (hn : n = m) (hxo : a.eval xo = .int .i64 n) (hb : l.length + m ≤ 70368744177664) (hB : B ≤ w.heap.size) (hv : v ≠ .slice none 0 0)
    (hK : ∀ v' w', OwnB w' B v' (l ++ List.replicate m 0) → w.grownBy w' v.ownBlock → Below B w w' → wpList P ops Q rest (a.put o.dst v') w') :
    wpList P ops Q (o :: rest) a w := by
  subst hn
  obtain ⟨v', w', hrun, r1, r2⟩ := run_append_zeros_Own (P := P) w B t tn o.type e kn ht htn hinfo v l hown m hb hB hv
  exact Lib.wpList_append_run w hg s xo t tn hop _ _ hs hxo v' w' hrun (hK v' w' r1 r2 ((Below.refl B w).grown r2 hB (fun k hk => (hown.block k hk).1)))

end

end Go.Proofs.YtcehbmlibfalaaaDoor
