/-
  What the walks of this claim lean on, joined: plain laws, no code of the seat.
-/
import Derived.Test.YtdecehecjlbbiaaBase2
import Derived.Lib.AppendZerosOnto
import Derived.Laws.IdiomStrings
import Derived.Laws.Strings3
import Derived.Test.YtdecehecjlbbiaaBase1
import Derived.Deep.QuietTactic

/-
  The kit of this set, its third part: a string turned into bytes, and zeros appended.
-/
namespace Go.Proofs.Ytdecehecjlbbiaa
open Go.RowKit

section
variable {P : Program}

/-- 'append(b, x, y ..)' onto a []byte of the call's own, for the walk, the world under a name. -/
theorem wpList_push_u8w (w W : World) {ops : Array Oper} {rest : List Oper} {o : Oper} {a : Act} {Q : Exit → Act → World → Prop}
    (hg : o.guard = none) (s xo : Operand) (t : TypeId) (hop : o.op = Op.call { callee := Callee.builtin Builtin.append, args := #[s, xo], argTypes := #[t, t] })
    (e : TypeId) (ht : P.underlying t = some (.slice e)) (hinfo : (P.info? e).map (fun i => (i.zero, i.size, i.bytes)) = some (some (.int .u8 0), 1, 1))
    (B : Nat) (v : Value) (l : List UInt8) (hs : a.eval s = v) (hown : OwnB w B v l) (xs : List Value) (news : List UInt8) (hx : xs = u8s news) (m c : Nat) (hm : news.length = m)
    (H : Nat) (hxo : a.eval xo = .slice (some ⟨H, 0, none⟩) m c) (hH : w.heap.size = H) (hb : l.length + m ≤ 70368744177664) (hB : B ≤ w.heap.size) (hW : W = w.alloc (.cells xs.toArray e))
    (hK : ∀ v' w', OwnB w' B v' (l ++ news) → w.grownBy w' v.ownBlock → Below B w w' → wpList P ops Q rest (a.put o.dst v') w') :
    wpList P ops Q (o :: rest) a W := by
  subst hW
  subst hH
  exact wpList_push_u8 w hg s xo t hop e ht hinfo B v l hs hown xs news hx m c hm hxo hb hB hK

/-- The bytes of a string, in a new block (whatever its mark). -/
theorem OwnB.ofString (w : World) (B : Nat) (s : ByteArray) (e : TypeId) (hB : B ≤ w.heap.size) (hs : s.size ≤ maxLen) :
    OwnB (w.drew.alloc (.cells (bytesRow s (grownCap w s.size 0 e)) e ((bytesRow s (grownCap w s.size 0 e)).size, (bytesRow s (grownCap w s.size 0 e)).size + 1))) B (.slice (some ⟨w.heap.size, 0, none⟩) s.size (grownCap w s.size 0 e)) s.data.toList := by
  have hge := grownCap_ge w s.size 0 e
  have hcm := grownCap_le_maxLen w s.size 0 e hs
  have hrow : (bytesRow s (grownCap w s.size 0 e)).size = grownCap w s.size 0 e := by
    unfold bytesRow
    simp only [Array.size_append, Array.size_map, Array.size_replicate]
    show s.size + (_ - s.size) = _
    omega
  have hl : s.data.toList.length = s.size := by rw [Array.length_toList]; rfl
  unfold OwnB
  rw [hl]
  refine .inr ⟨w.heap.size, _, rfl, hB, by simp, hge, hcm, by rw [u8s_length, hl, Nat.mul_one], fun j hj => ?_, fun j hj => ⟨?_, ?_⟩⟩
  · rw [Nat.mul_one] at hj
    have e1 := World.cell?_alloc_mark w.drew (bytesRow s (grownCap w s.size 0 e)) e ((bytesRow s (grownCap w s.size 0 e)).size, (bytesRow s (grownCap w s.size 0 e)).size + 1) j
    refine e1.trans ?_
    rw [bytesRow_at s _ j hj, u8s_get, List.getElem?_eq_getElem (by rw [hl]; exact hj)]
    simp
  · have e1 := World.cell?_alloc_mark w.drew (bytesRow s (grownCap w s.size 0 e)) e ((bytesRow s (grownCap w s.size 0 e)).size, (bytesRow s (grownCap w s.size 0 e)).size + 1) j
    have e2 : (w.drew.alloc (.cells (bytesRow s (grownCap w s.size 0 e)) e ((bytesRow s (grownCap w s.size 0 e)).size, (bytesRow s (grownCap w s.size 0 e)).size + 1))).cell? ⟨w.heap.size, j, none⟩ = _ := e1
    rw [e2, Array.getElem?_eq_getElem (by rw [hrow]; omega)]
    rfl
  · have e1 := World.frozen?_alloc_mark w.drew (bytesRow s (grownCap w s.size 0 e)) e (bytesRow s (grownCap w s.size 0 e)).size ((bytesRow s (grownCap w s.size 0 e)).size + 1) j
    have e2 : (w.drew.alloc (.cells (bytesRow s (grownCap w s.size 0 e)) e ((bytesRow s (grownCap w s.size 0 e)).size, (bytesRow s (grownCap w s.size 0 e)).size + 1))).frozen? ⟨w.heap.size, j, none⟩ = _ := e1
    rw [e2, decide_eq_false (by rw [hrow]; omega), Bool.false_and]

theorem OwnB.ne_nil {w : World} {B : Nat} {v : Value} {l : List UInt8} (h : OwnB w B v l) (hl : l ≠ []) : v ≠ .slice none 0 0 := by
  rcases h with ⟨_, h0, _⟩ | ⟨g, cap, rfl, _, _⟩
  · exact absurd (List.eq_nil_of_length_eq_zero h0) hl
  · simp

/-- 's[i:]', 's[:i]', the place as it stands in the walk, its number a. -/
theorem cut_from {P : Program} {t : TypeId} (ht : P.underlying t = some .string) (s : ByteArray) (i : Int) (a : Nat) (hi : i = a) (h : a ≤ s.size) (w : World) :
    (Instr.slice t (.string s) (some (.int .i64 i)) none none).run P w = .ok (.string (s.extract a s.size)) w := by
  subst hi
  rw [run_slice_string_from_if w t s .i64 a ht, if_pos (by omega)]
  rfl
theorem cut_to {P : Program} {t : TypeId} (ht : P.underlying t = some .string) (s : ByteArray) (i : Int) (a : Nat) (hi : i = a) (h : a ≤ s.size) (w : World) :
    (Instr.slice t (.string s) none (some (.int .i64 i)) none).run P w = .ok (.string (s.extract 0 a)) w := by
  subst hi
  rw [run_slice_string_to_if w t s .i64 a ht, if_pos (by omega)]
  rfl
/-- 's[i]', the place as it stands in the walk, its number a. -/
theorem idx_str {P : Program} {t : TypeId} (ht : P.underlying t = some .string) (s : ByteArray) (i : Int) (a : Nat) (hi : i = a) (h : a < s.size) (w : World) :
    (Instr.index t (.string s) (.int .i64 i)).run P w = .ok (.int .u8 (s[a].toNat : Int)) w := by
  subst hi
  simp [run_index_string w t s .i64 a ht, h]
theorem extract_to (s : ByteArray) (a : Nat) : (s.extract 0 a).data.toList = s.data.toList.take a := by rw [extract_list]; simp
theorem extract_from (s : ByteArray) (a : Nat) : (s.extract a s.size).data.toList = s.data.toList.drop a := by
  rw [extract_list]
  apply List.take_of_length_le
  simp
/-- How the walk tells that two strings are one. -/
theorem same_bytes (s r : ByteArray) : (s.toList == r.toList) = (s.data.toList == r.data.toList) := by rw [ByteArray.toList_eq, ByteArray.toList_eq]

/-- A callee that turns nothing, met in a region that draws its order. -/
theorem below_of_same {P : Program} {f : FuncId} {args : Array Value} {w : World} {v : Value} (h : Calls P f args w fun e w' => e = .returned v ∧ w = w') : Calls P f args w fun e w' => e = .returned v ∧ Below w.heap.size w w' :=
  h.mono fun _ _ ⟨he, hw⟩ => ⟨he, hw ▸ Below.refl _ _⟩

theorem OwnB.drewN {w : World} {B : Nat} {v : Value} {l : List UInt8} (h : OwnB w B v l) (q : Nat) : OwnB (w.drewN q) B v l := Own.drewN h q

/-- The length in a slice's slot: for a loop's measure. -/
def lenV : Value → Nat
  | .slice _ n _ => n
  | _ => 0

theorem OwnB.shape {w : World} {B : Nat} {v : Value} {l : List UInt8} (h : OwnB w B v l) : ∃ ao cap, v = .slice ao l.length cap := Own.shape h
theorem OwnB.lenV {w : World} {B : Nat} {v : Value} {l : List UInt8} (h : OwnB w B v l) : lenV v = l.length := by
  obtain ⟨ao, cap, rfl⟩ := h.shape; rfl

theorem join_txt (s : ByteArray) (l : List UInt8) : s ++ txt l = txt (s.data.toList ++ l) := by
  apply ByteArray.ext
  simp [txt]

/-- Zeros, as cells. -/
theorem zeros_u8 (m : Nat) : (Builtin.zeroCells #[Value.int .u8 0] m).toList = u8s (List.replicate m 0) := by
  apply List.ext_getElem
  · simp [Builtin.zeroCells, u8s]
  · intro i h1 h2
    simp [Builtin.zeroCells, u8s, Nat.mod_one]

/-- 'append(b, make([]byte, m)...)' where there is room. -/
theorem run_append_room_zeros (w : World) (t tn ty e : TypeId) (i : TypeInfo) (kn : IntKind) (ht : P.underlying t = some (.slice e)) (htn : P.underlying tn = some (.int kn)) (hi : P.info? e = some i) (hz : i.zero = some (.int .u8 0)) (hsz : i.size = 1) (hby : i.bytes = 1)
    (g n cap m : Nat) (hm : m ≤ 70368744177664) (hroom : n + m ≤ cap) (hc : ∀ j, j < m → (w.cell? ⟨g, n + j, none⟩).isSome = true ∧ w.frozen? ⟨g, n + j, none⟩ = false) :
    (Builtin.append_ #[t, tn] ty #[.slice (some ⟨g, 0, none⟩) n cap, .int .i64 m]).run P w = .ok (.slice (some ⟨g, 0, none⟩) (n + m) cap) (w.setCells g n (u8s (List.replicate m 0))) := by
  have hw : IntKind.i64.wrap (m : Int) = m := by rw [IntKind.wrap_i64]; omega
  have hneg : ¬ ((m : Int) < 0) := by omega
  have h48i : ¬ (281474976710656 < (m : Int)) := by omega
  have hl : (u8s (List.replicate m 0)).length = m := by simp [u8s]
  have hst := run_storeCells_cells (P := P) g n (u8s (List.replicate m 0)) 0 w (fun j hj => by simpa using (hc j (by omega)).1) (fun j hj => by simpa using (hc j (by omega)).2) (u8s_one _)
  simp only [Nat.add_zero] at hst
  have hzz := zeros_u8 m
  rcases Nat.eq_zero_or_pos m with rfl | hpos
  · have hw0 : IntKind.i64.wrap 0 = 0 := by rw [IntKind.wrap_i64]; omega
    have hroom' : n ≤ cap := by omega
    simp [Builtin.append_, run_underlying ht, run_underlying htn, sizeOf, typeInfo, hi, hby, asInt, asIntOf, hw0, hroom', u8s, World.setCells, storeCells]
  · have hm0 : m ≠ 0 := by omega
    simp [Builtin.append_, run_underlying ht, run_underlying htn, sizeOf, typeInfo, zeroValue, hi, hz, hsz, hby, asInt, asIntOf, hw, hneg, hm0, h48i, hroom, hzz, Addr.add_lit, Value.cells, hst]

/-- 'append(b, make([]byte, m)...)' onto a []byte of the call's own. -/
theorem run_append_zeros_Own (w : World) (B : Nat) (t tn ty e : TypeId) (kn : IntKind) (ht : P.underlying t = some (.slice e)) (htn : P.underlying tn = some (.int kn)) (hinfo : (P.info? e).map (fun i => (i.zero, i.size, i.bytes)) = some (some (.int .u8 0), 1, 1))
    (v : Value) (l : List UInt8) (h : OwnB w B v l) (m : Nat) (hb : l.length + m ≤ 70368744177664) (hB : B ≤ w.heap.size) (hv : v ≠ .slice none 0 0) :
    ∃ v' w', (Builtin.append_ #[t, tn] ty #[v, .int .i64 m]).run P w = .ok v' w' ∧ OwnB w' B v' (l ++ List.replicate m 0) ∧ w.grownBy w' v.ownBlock := by
  obtain ⟨i, hi, hz, hsize, hby⟩ := info_parts hinfo
  have hzl : (u8s (List.replicate m 0)).length = m := by simp [u8s]
  rcases h with ⟨rfl, _⟩ | ⟨g, cap, rfl, hBg, r⟩
  · exact absurd rfl hv
  have hcl := r.len
  have hle := r.le
  rw [Nat.mul_one] at hcl
  by_cases hfit : l.length + m ≤ cap
  · have hth : ∀ j, j < m → (w.cell? ⟨g, l.length + j, none⟩).isSome = true ∧ w.frozen? ⟨g, l.length + j, none⟩ = false := fun j hj => r.there _ (by omega)
    have hrun := run_append_room_zeros (P := P) w t tn ty e i kn ht htn hi hz hsize hby g l.length cap m (by omega) hfit hth
    refine ⟨_, _, hrun, ?_, grownBy_setCells w g _ _⟩
    unfold OwnB
    rw [u8s_append, List.length_append, List.length_replicate]
    refine .inr ⟨g, cap, rfl, hBg, by rw [size_setCells]; exact r.lt, hfit, r.max, by rw [List.length_append, hcl, hzl, Nat.mul_one], fun j hj => ?_, fun j hj => ⟨?_, (World.frozen?_setCells g _ _ _ _).trans (r.there j hj).2⟩⟩
    · rw [Nat.mul_one] at hj
      by_cases hjo : j < l.length
      · rw [World.cell?_setCells_out g _ _ _ _ (fun _ _ => Or.inl hjo), List.getElem?_append_left (by omega)]
        exact r.holds j (by omega)
      · have ht' : j - l.length < (u8s (List.replicate m 0)).length := by omega
        have := World.cell?_setCells_in g (u8s (List.replicate m 0)) l.length w (fun j hj => (hth j (by omega)).1) (j - l.length) ht'
        rw [show l.length + (j - l.length) = j by omega] at this
        rw [this, List.getElem?_append_right (by omega), hcl, List.getElem?_eq_getElem ht']
    · by_cases hin : l.length ≤ j ∧ j < l.length + m
      · have := World.cell?_setCells_in g (u8s (List.replicate m 0)) l.length w (fun j hj => (hth j (by omega)).1) (j - l.length) (by omega)
        rw [show l.length + (j - l.length) = j by omega] at this
        rw [this]; rfl
      · rw [World.cell?_setCells_out g _ _ _ _ (fun _ _ => by show j < l.length ∨ l.length + (u8s (List.replicate m 0)).length ≤ j; omega)]
        exact (r.there j hj).1
  · have hold := run_firstCells_some (P := P) w.drew i.size l.length ⟨g, 0, none⟩ l.length cap (u8s l) (by rw [hsize, hcl, Nat.mul_one]) (fun j u hu => by
      rw [Addr.add_lit, Nat.zero_add]
      have hj : j < l.length := by rw [← hcl]; exact (List.getElem?_eq_some_iff.1 hu).1
      exact (r.holds j (by omega)).trans hu)
    have hrun := Lib.run_append_grow_zeros (P := P) w t tn ty e i _ .i64 kn ht htn hi hz (some ⟨g, 0, none⟩) l.length cap (u8s l) hold m (by omega) (by omega) (by omega) (by omega) (by rw [hby]; omega) (by
      rw [hby]; have := nextslicecap_le (show cap < l.length + m by omega); omega)
    have hge := grownCap_ge w (l.length + m) cap e
    have hcm := grownCap_le_maxLen w (l.length + m) cap e (by unfold maxLen; omega)
    have hcells : ((u8s l).toArray ++ Builtin.zeroCells (Value.int IntKind.u8 0).cells m ++ Builtin.zeroCells (Value.int IntKind.u8 0).cells (grownCap w (l.length + m) cap e - (l.length + m))) =
        (u8s (l ++ List.replicate m 0) ++ u8s (List.replicate (grownCap w (l.length + m) cap e - (l.length + m)) 0)).toArray := by
      apply Array.ext'
      simp only [Array.toList_append, u8s_append]
      show _ ++ (Builtin.zeroCells #[Value.int .u8 0] m).toList ++ (Builtin.zeroCells #[Value.int .u8 0] _).toList = _
      rw [zeros_u8, zeros_u8]
    rw [hcells] at hrun
    have hL : (l ++ List.replicate m 0).length = l.length + m := by simp
    have hL' : (u8s (l ++ List.replicate m 0)).length = l.length + m := by rw [u8s_length, hL]
    have hTot : (u8s (l ++ List.replicate m 0) ++ u8s (List.replicate (grownCap w (l.length + m) cap e - (l.length + m)) 0)).length = grownCap w (l.length + m) cap e := by
      rw [List.length_append, hL', u8s_length, List.length_replicate]; omega
    refine ⟨_, _, hrun, ?_, ⟨rfl, rfl, rfl, by simp, fun k hk _ => Below.heap_alloc w.drew _ k hk⟩⟩
    unfold OwnB
    rw [hL]
    refine .inr ⟨w.heap.size, _, rfl, hB, by simp, hge, hcm, by rw [hL', Nat.mul_one], fun j hj => ?_, fun j hj => ⟨?_, ?_⟩⟩
    · rw [Nat.mul_one] at hj
      have e1 := World.cell?_alloc_new w.drew (u8s (l ++ List.replicate m 0) ++ u8s (List.replicate (grownCap w (l.length + m) cap e - (l.length + m)) 0)).toArray e j
      refine Eq.trans e1 ?_
      rw [List.getElem?_toArray, List.getElem?_append_left (by omega)]
    · have e1 := World.cell?_alloc_new w.drew (u8s (l ++ List.replicate m 0) ++ u8s (List.replicate (grownCap w (l.length + m) cap e - (l.length + m)) 0)).toArray e j
      have e2 : (w.drew.alloc (.cells (u8s (l ++ List.replicate m 0) ++ u8s (List.replicate (grownCap w (l.length + m) cap e - (l.length + m)) 0)).toArray e)).cell? ⟨w.heap.size, j, none⟩ = _ := e1
      rw [e2, List.getElem?_toArray, List.getElem?_eq_getElem (by omega)]
      rfl
    · exact World.frozen?_alloc_new w.drew _ _ j

/-- The same, for the walk. -/
theorem wpList_push_zeros (w : World) {ops : Array Oper} {rest : List Oper} {o : Oper} {a : Act} {Q : Exit → Act → World → Prop}
    (hg : o.guard = none) (s xo : Operand) (t tn : TypeId) (hop : o.op = Op.call { callee := Callee.builtin Builtin.append, args := #[s, xo], argTypes := #[t, tn] })
    (e : TypeId) (kn : IntKind) (ht : P.underlying t = some (.slice e)) (htn : P.underlying tn = some (.int kn)) (hinfo : (P.info? e).map (fun i => (i.zero, i.size, i.bytes)) = some (some (.int .u8 0), 1, 1))
    (B : Nat) (v : Value) (l : List UInt8) (hs : a.eval s = v) (hown : OwnB w B v l) (n : Int) (m : Nat) (hn : n = m) (hxo : a.eval xo = .int .i64 n) (hb : l.length + m ≤ 70368744177664) (hB : B ≤ w.heap.size) (hv : v ≠ .slice none 0 0)
    (hK : ∀ v' w', OwnB w' B v' (l ++ List.replicate m 0) → w.grownBy w' v.ownBlock → Below B w w' → wpList P ops Q rest (a.put o.dst v') w') :
    wpList P ops Q (o :: rest) a w := by
  subst hn
  obtain ⟨v', w', hrun, r1, r2⟩ := run_append_zeros_Own (P := P) w B t tn o.type e kn ht htn hinfo v l hown m hb hB hv
  exact Lib.wpList_append_run w hg s xo t tn hop _ _ hs hxo v' w' hrun (hK v' w' r1 r2 ((Below.refl B w).grown r2 hB (fun k hk => (hown.block k hk).1)))

end

end Go.Proofs.Ytdecehecjlbbiaa

/-
  Plain law: the padding of a text. No program in sight.
-/
namespace Go.Proofs.Ytdecehecjlbbiaa

/-- How many zeros. -/
def padZ (n : Nat) : Nat := (119 - n % 64) % 64
theorem padZ_lt (n : Nat) : padZ n < 64 := by unfold padZ; omega
theorem padZ_end (n : Nat) : (n + 1 + padZ n) % 64 = 56 := by unfold padZ; omega
theorem padZ_not (n j : Nat) (h : j < padZ n) : (n + 1 + j) % 64 ≠ 56 := by unfold padZ at h; omega

/-- A number in eight bytes, the highest first. -/
def be64 (n : Nat) : List UInt8 := [UInt8.ofNat (n / 72057594037927936), UInt8.ofNat (n / 281474976710656), UInt8.ofNat (n / 1099511627776), UInt8.ofNat (n / 4294967296), UInt8.ofNat (n / 16777216), UInt8.ofNat (n / 65536), UInt8.ofNat (n / 256), UInt8.ofNat n]
theorem be64_length (n : Nat) : (be64 n).length = 8 := rfl

/-- The padded text. -/
def padL (l : List UInt8) : List UInt8 := l ++ [128] ++ List.replicate (padZ l.length) 0 ++ be64 (8 * l.length)
theorem padL_length (l : List UInt8) : (padL l).length = l.length + 9 + padZ l.length := by
  simp [padL, be64_length]; omega
theorem padL_mod (l : List UInt8) : (padL l).length % 64 = 0 := by
  rw [padL_length]; have := padZ_end l.length; omega

theorem ofNat_mod (n : Nat) : ((UInt8.ofNat n).toNat : Int) = (n : Int) % 256 := by
  rw [UInt8.toNat_ofNat']; rfl

end Go.Proofs.Ytdecehecjlbbiaa

/-
  Rows of strings: how they are read and owned; the letter m with a number behind it. No program in sight.
-/
namespace Go.Proofs.Ytdecehecjlbbiaa
open Go.RowKit

/-- The cells that hold these strings. -/
def strC (l : List ByteArray) : List Value := l.map Value.string
theorem strC_length (l : List ByteArray) : (strC l).length = l.length := by simp [strC]
theorem strC_append (l m : List ByteArray) : strC (l ++ m) = strC l ++ strC m := by simp [strC]
theorem strC_get (l : List ByteArray) (j : Nat) : (strC l)[j]? = (l[j]?).map Value.string := by simp [strC]
theorem strC_one (l : List ByteArray) : ∀ u ∈ strC l, u.oneCell' = true := by
  intro u hu
  obtain ⟨_, _, rfl⟩ := List.mem_map.1 hu
  rfl

/-- A slice of strings that stands at ao reads as l. -/
def RdS (w : World) (ao : Option Addr) (l : List ByteArray) : Prop :=
  ∀ j x, l[j]? = some x → ∃ b off, ao = some ⟨b, off, none⟩ ∧ w.cell? ⟨b, off + j, none⟩ = some (.string x)

theorem RdS.below {w w' : World} {ao : Option Addr} {l : List ByteArray} {C : Nat} (h : RdS w ao l) (hb : Below C w w') (hC : w.heap.size ≤ C) : RdS w' ao l := by
  intro j x hx
  obtain ⟨b, off, e, hc⟩ := h j x hx
  have hlt := World.block_lt_of_cell? _ _ hc
  exact ⟨b, off, e, (hb.cell (p := ⟨b, off + j, none⟩) (Nat.lt_of_lt_of_le hlt hC)).trans hc⟩

/-- A row that stood before a world stands after another row of that world has been written. -/
theorem RdS.kept {w1 w w' : World} {ao : Option Addr} {l : List ByteArray} {row : Option Nat} (h : RdS w ao l) (h1 : RdS w1 ao l) (hg : w.grownBy w' row) (hr : ∀ k, row = some k → w1.heap.size ≤ k) : RdS w' ao l := by
  intro j x hx
  obtain ⟨b, off, e, hc⟩ := h j x hx
  obtain ⟨b', off', e', hc'⟩ := h1 j x hx
  have e2 : b = b' := by rw [e] at e'; cases e'; rfl
  subst e2
  have hlt := World.block_lt_of_cell? _ _ hc
  have hlt' := World.block_lt_of_cell? _ _ hc'
  refine ⟨b, off, e, (World.cell?_of_block (hg.block b hlt (fun hk => ?_))).trans hc⟩
  exact absurd (hr b hk.symm) (Nat.not_le_of_lt hlt')

theorem RdS.nil (w : World) (ao : Option Addr) : RdS w ao [] := fun j x h => by simp at h

/-- A []string of the call's own that holds l. -/
def OwnS (w : World) (B : Nat) (v : Value) (l : List ByteArray) : Prop := Own w B 1 v l.length (strC l)

theorem OwnS.nil (w : World) (B : Nat) : OwnS w B (.slice none 0 0) [] := Own.nil _ _ _
theorem OwnS.empty (w : World) (B : Nat) (e : TypeId) (hB : B ≤ w.heap.size) : OwnS (w.alloc (.cells #[] e)) B (.slice (some ⟨w.heap.size, 0, none⟩) 0 0) [] :=
  .inr ⟨w.heap.size, 0, rfl, hB, by simp, Nat.le_refl _, Nat.zero_le _, rfl, fun j hj => by simp at hj, fun j hj => by simp at hj⟩

theorem OwnS.rd {w : World} {B : Nat} {v : Value} {l : List ByteArray} (h : OwnS w B v l) : ∃ ao cap, v = .slice ao l.length cap ∧ RdS w ao l := by
  rcases h with ⟨rfl, h0, _⟩ | ⟨g, cap, rfl, _, r⟩
  · obtain rfl := List.eq_nil_of_length_eq_zero h0
    exact ⟨none, 0, rfl, RdS.nil _ _⟩
  · refine ⟨_, cap, rfl, fun j x hx => ⟨g, 0, rfl, ?_⟩⟩
    have hj : j < l.length := (List.getElem?_eq_some_iff.1 hx).1
    rw [Nat.zero_add, r.holds j (by omega), strC_get, hx]
    rfl

theorem OwnS.below {w w' : World} {B C : Nat} {v : Value} {l : List ByteArray} (h : OwnS w B v l) (hb : Below C w w') (hC : w.heap.size ≤ C) : OwnS w' B v l := Own.below h hb hC
theorem OwnS.drewN {w : World} {B : Nat} {v : Value} {l : List ByteArray} (h : OwnS w B v l) (q : Nat) : OwnS (w.drewN q) B v l := Own.drewN h q

/-- What a new block of strings yields. -/
theorem src_strs {P : Program} {t e' e : TypeId} (ht : P.underlying t = some (.slice e')) (w : World) (c m : Nat) (l : List ByteArray) (xs : List Value) (hm : l.length = m) (hx : xs = strC l) :
    Src P 1 t (.slice (some ⟨w.heap.size, 0, none⟩) m c) m (strC l) (w.alloc (.cells xs.toArray e)) := by
  subst hm
  subst hx
  refine Src.ofSlice _ ht _ _ _ _ (by rw [strC_length]; omega) (fun j u hu => ?_) (strC_one l)
  rw [Addr.add_lit, Nat.zero_add]
  have e1 : (w.alloc (.cells (strC l).toArray e)).cell? ⟨w.heap.size, j, none⟩ = _ := World.cell?_alloc_new w _ _ j
  rw [e1]
  simpa using hu

/-- 'append(b, x, y ..)' onto a []string of the call's own, for the walk. -/
theorem wpList_push_strs {P : Program} (w W : World) {ops : Array Oper} {rest : List Oper} {o : Oper} {a : Act} {Q : Exit → Act → World → Prop}
    (hg : o.guard = none) (s xo : Operand) (t : TypeId) (hop : o.op = Op.call { callee := Callee.builtin Builtin.append, args := #[s, xo], argTypes := #[t, t] })
    (e : TypeId) (ht : P.underlying t = some (.slice e)) (hinfo : (P.info? e).map (fun i => (i.zero, i.size, i.bytes)) = some (some (.string ⟨#[]⟩), 1, 16))
    (B : Nat) (v : Value) (l : List ByteArray) (hs : a.eval s = v) (hown : OwnS w B v l) (xs : List Value) (news : List ByteArray) (hx : xs = strC news) (m c : Nat) (hm : news.length = m)
    (H : Nat) (hxo : a.eval xo = .slice (some ⟨H, 0, none⟩) m c) (hH : w.heap.size = H) (hb : l.length + m ≤ 1099511627776) (hB : B ≤ w.heap.size) (hW : W = w.alloc (.cells xs.toArray e))
    (hK : ∀ v' w', OwnS w' B v' (l ++ news) → w.grownBy w' v.ownBlock → Below B w w' → wpList P ops Q rest (a.put o.dst v') w') :
    wpList P ops Q (o :: rest) a W := by
  subst hW
  subst hH
  have hsz : (w.alloc (.cells xs.toArray e)).heap.size = w.heap.size + 1 := by simp
  refine wpList_append_Own (P := P) _ hg s xo t t hop B e _ 1 16 ht hinfo rfl v l.length (strC l) hs (Own.alloc hown _) _ hxo m (strC news) (src_strs ht w c m news xs hm hx) (by unfold maxLen; omega) (by omega) (by omega) ?_
  intro v' w' h1 h2 _
  have hg' : w.grownBy w' v.ownBlock := ⟨h2.os, h2.tape, h2.output, by have := h2.size; omega, fun k hk hne => (h2.block k (by omega) hne).trans (Below.heap_alloc w _ k hk)⟩
  refine hK v' w' ?_ hg' ((Below.refl B w).grown hg' hB (fun k hk => (hown.block k hk).1))
  unfold OwnS
  rw [strC_append, List.length_append, hm]
  exact h1

/-- A cell of an owned row is written. -/
theorem OwnS.store {w : World} {B g cap : Nat} {l : List ByteArray} (h : OwnS w B (.slice (some ⟨g, 0, none⟩) l.length cap) l) (k : Nat) (hk : k < l.length) (x : ByteArray) :
    OwnS (w.setCell ⟨g, k, none⟩ (.string x)) B (.slice (some ⟨g, 0, none⟩) (l.set k x).length cap) (l.set k x) := by
  rcases h with ⟨h0, _⟩ | ⟨g', cap', he, hB, r⟩
  · cases h0
  · cases he
    refine .inr ⟨g, cap, by rw [List.length_set], hB, ?_⟩
    have hl := List.length_set («as» := l) (i := k) (a := x)
    refine ⟨by simpa [World.setCell] using r.lt, by rw [hl]; exact r.le, r.max, by rw [strC_length, Nat.mul_one], fun j hj => ?_, fun j hj => ⟨?_, (World.frozen?_setCell _ _ _ _).trans (r.there j hj).2⟩⟩
    · by_cases hjk : j = k
      · subst hjk
        obtain ⟨u, hu⟩ := Option.isSome_iff_exists.1 (r.there j (by have := r.le; omega)).1
        rw [World.cell?_setCell_same _ _ _ hu, strC_get, List.getElem?_set_self hk]
        rfl
      · rw [World.cell?_setCell_other _ _ _ _ (by intro e; injection e; omega), r.holds j (by rw [hl] at hj; exact hj), strC_get, strC_get, List.getElem?_set_ne (by omega)]
    · by_cases hjk : j = k
      · subst hjk
        obtain ⟨u, hu⟩ := Option.isSome_iff_exists.1 (r.there j hj).1
        rw [World.cell?_setCell_same _ _ _ hu]; rfl
      · rw [World.cell?_setCell_other _ _ _ _ (by intro e; injection e; omega)]
        exact (r.there j hj).1

/-- A row as the guide's laws tell it. -/
theorem Own.of_ownsRow {w : World} {B size : Nat} {e : TypeId} {v : Value} {n : Nat} {xs : List Value} (h : w.ownsRow B e size v n xs) : Own w B size v n xs := by
  obtain ⟨hx, h | ⟨g, cap, cur, hv, hB, hg, hn, hm, hc, ht⟩⟩ := h
  · obtain ⟨rfl, rfl⟩ := h
    exact .inl ⟨rfl, rfl, List.eq_nil_of_length_eq_zero (by simpa using hx)⟩
  · refine .inr ⟨g, cap, hv, hB, (Array.getElem?_eq_some_iff.1 hg).1, hn, hm, hx, fun j hj => ?_, fun j hj => ⟨?_, ?_⟩⟩
    · have e1 : w.cell? ⟨g, j, none⟩ = cur[j]? := by unfold World.cell?; simp only [hg]; rfl
      rw [e1, ← ht, List.getElem?_take, if_pos hj, Array.getElem?_toList]
    · have e1 : w.cell? ⟨g, j, none⟩ = cur[j]? := by unfold World.cell?; simp only [hg]; rfl
      rw [e1, Array.getElem?_eq_getElem (by omega)]; rfl
    · unfold World.frozen?; simp only [hg]; simp

/-- A cell of an owned row (one cell an element) is written. -/
theorem Own.store1 {w : World} {B g n cap : Nat} {cs : List Value} (h : Own w B 1 (.slice (some ⟨g, 0, none⟩) n cap) n cs) (k : Nat) (hk : k < n) (x : Value) :
    Own (w.setCell ⟨g, k, none⟩ x) B 1 (.slice (some ⟨g, 0, none⟩) n cap) n (cs.set k x) := by
  rcases h with ⟨h0, _⟩ | ⟨g', cap', he, hB, r⟩
  · cases h0
  · cases he
    have hl := r.len
    refine .inr ⟨g, cap, rfl, hB, ?_⟩
    refine ⟨by simpa [World.setCell] using r.lt, r.le, r.max, by rw [List.length_set, hl], fun j hj => ?_, fun j hj => ⟨?_, (World.frozen?_setCell _ _ _ _).trans (r.there j hj).2⟩⟩
    · by_cases hjk : j = k
      · subst hjk
        obtain ⟨u, hu⟩ := Option.isSome_iff_exists.1 (r.there j (by have := r.le; omega)).1
        rw [World.cell?_setCell_same _ _ _ hu, List.getElem?_set_self (by omega)]
      · rw [World.cell?_setCell_other _ _ _ _ (by intro e; injection e; omega), r.holds j hj, List.getElem?_set_ne (by omega)]
    · by_cases hjk : j = k
      · subst hjk
        obtain ⟨u, hu⟩ := Option.isSome_iff_exists.1 (r.there j hj).1
        rw [World.cell?_setCell_same _ _ _ hu]; rfl
      · rw [World.cell?_setCell_other _ _ _ _ (by intro e; injection e; omega)]
        exact (r.there j hj).1
theorem Own.at1 {w : World} {B g n cap : Nat} {cs : List Value} (h : Own w B 1 (.slice (some ⟨g, 0, none⟩) n cap) n cs) (k : Nat) (hk : k < n) :
    (∃ u, w.cell? ⟨g, k, none⟩ = some u) ∧ w.frozen? ⟨g, k, none⟩ = false := by
  rcases h with ⟨h0, _⟩ | ⟨g', cap', he, hB, r⟩
  · cases h0
  · cases he
    have := r.there k (by have := r.le; omega)
    exact ⟨Option.isSome_iff_exists.1 this.1, this.2⟩
theorem strC_of {cs : List Value} {l : List ByteArray} (hl : cs.length = l.length) (h : ∀ j, j < l.length → cs[j]? = (l[j]?).map Value.string) : cs = strC l := by
  apply List.ext_getElem?
  intro j
  rw [strC_get]
  by_cases hj : j < l.length
  · exact h j hj
  · rw [List.getElem?_eq_none (by omega), List.getElem?_eq_none (by omega)]; rfl

/-- How much a list of strings holds. -/
def totS (l : List ByteArray) : Nat := l.length + (l.map ByteArray.size).sum
def sumS (l : List ByteArray) : Nat := (l.map ByteArray.size).sum
/-- What the size law's count comes to. -/
def szV (l : List ByteArray) (left : Int) : Int := if (totS l : Int) ≤ left then left - totS l else -1
theorem szV_yes {l : List ByteArray} {left : Int} (h : (totS l : Int) ≤ left) : szV l left = left - totS l := if_pos h
theorem szV_no {l : List ByteArray} {left : Int} (h : ¬ (totS l : Int) ≤ left) : szV l left = -1 := if_neg h
theorem totS_eq (l : List ByteArray) : totS l = l.length + sumS l := rfl
theorem sum_mem {l : List ByteArray} {x : ByteArray} (h : x ∈ l) : x.size ≤ sumS l := by
  unfold sumS
  induction l with
  | nil => simp at h
  | cons y l ih =>
    rw [List.map_cons, List.sum_cons]
    rcases List.mem_cons.1 h with rfl | h
    · omega
    · have := ih h; omega
theorem tot_mem {l : List ByteArray} {x : ByteArray} (h : x ∈ l) : x.size ≤ totS l := by
  have := sum_mem h; rw [totS_eq]; omega
theorem sumS_step {l : List ByteArray} {k : Nat} {x : ByteArray} (hx : l[k]? = some x) : sumS (l.take (k + 1)) = sumS (l.take k) + x.size := by
  unfold sumS; rw [List.take_add_one, hx]; simp
theorem sumS_le {l : List ByteArray} (k : Nat) : sumS (l.take k) ≤ sumS l := by
  have h : sumS l = sumS (l.take k) + sumS (l.drop k) := by
    unfold sumS
    rw [← List.sum_append, ← List.map_append, List.take_append_drop]
  omega

/-- A cell of an owned row may be written. -/
theorem OwnS.at_ {w : World} {B g n cap : Nat} {l : List ByteArray} (h : OwnS w B (.slice (some ⟨g, 0, none⟩) n cap) l) (k : Nat) (hk : k < l.length) :
    (∃ u, w.cell? ⟨g, k, none⟩ = some u) ∧ w.frozen? ⟨g, k, none⟩ = false := by
  rcases h with ⟨h0, _⟩ | ⟨g', cap', he, hB, r⟩
  · cases h0
  · cases he
    have := r.there k (by have := r.le; omega)
    exact ⟨Option.isSome_iff_exists.1 this.1, this.2⟩

/-! ### The letter m and a number -/

/-- The last decimal digit. -/
def digB (n : Nat) : UInt8 := UInt8.ofNat (48 + n % 10)
theorem digB_val (n : Nat) : ((digB n).toNat : Int) = 48 + (n : Int) % 10 := by unfold digB; rw [ofNat_mod]; omega

/-- The decimal digits of a number above 0 (none of 0). -/
def digL (n : Nat) : List UInt8 := if n = 0 then [] else digL (n / 10) ++ [digB n]
termination_by n
decreasing_by omega
theorem digL_zero : digL 0 = [] := by rw [digL]; rfl
theorem digL_pos {n : Nat} (h : 0 < n) : digL n = digL (n / 10) ++ [digB n] := by rw [digL, if_neg (by omega)]
theorem digL_length (n : Nat) : (digL n).length ≤ n := by
  induction n using Nat.strongRecOn with
  | _ n ih =>
    rcases Nat.eq_zero_or_pos n with rfl | h
    · rw [digL_zero]; exact Nat.le_refl _
    · rw [digL_pos h, List.length_append]
      have := ih (n / 10) (by omega)
      simp only [List.length_singleton]
      omega

/-- markText. -/
def markB (k : Nat) : ByteArray := txt (109 :: digL k)

/-- The marks from k on. -/
def marks (k : Nat) : Nat → List ByteArray
  | 0 => []
  | n + 1 => markB k :: marks (k + 1) n
theorem marks_length (k n : Nat) : (marks k n).length = n := by
  induction n generalizing k with
  | zero => rfl
  | succ n ih => simp [marks, ih]
theorem marks_get (k n j : Nat) (h : j < n) : (marks k n)[j]? = some (markB (k + j)) := by
  induction n generalizing k j with
  | zero => omega
  | succ n ih =>
    cases j with
    | zero => simp [marks]
    | succ j => simp only [marks, List.getElem?_cons_succ]; rw [ih (k + 1) j (by omega)]; congr 2; omega

theorem marks_eq {m : List ByteArray} {K N : Nat} (hl : m.length = N) (h : ∀ j, j < N → m[j]? = some (markB (K + j))) : m = marks K N := by
  apply List.ext_getElem?
  intro j
  by_cases hj : j < N
  · rw [h j hj, marks_get K N j hj]
  · rw [List.getElem?_eq_none (by omega), List.getElem?_eq_none (by rw [marks_length]; omega)]

end Go.Proofs.Ytdecehecjlbbiaa

/-
  Rows of cells, whatever they hold: how they are read; appending onto a row of the call's own; rows of integers. No program in sight.
-/
namespace Go.Proofs.Ytdecehecjlbbiaa
open Go.RowKit

/-- A slice that stands at ao reads as these cells. -/
def RdC (w : World) (ao : Option Addr) (cs : List Value) : Prop :=
  ∀ j u, cs[j]? = some u → ∃ b off, ao = some ⟨b, off, none⟩ ∧ w.cell? ⟨b, off + j, none⟩ = some u

theorem RdC.below {w w' : World} {ao : Option Addr} {cs : List Value} {C : Nat} (h : RdC w ao cs) (hb : Below C w w') (hC : w.heap.size ≤ C) : RdC w' ao cs := by
  intro j x hx
  obtain ⟨b, off, e, hc⟩ := h j x hx
  have hlt := World.block_lt_of_cell? _ _ hc
  exact ⟨b, off, e, (hb.cell (p := ⟨b, off + j, none⟩) (Nat.lt_of_lt_of_le hlt hC)).trans hc⟩
theorem RdC.kept {w1 w w' : World} {ao : Option Addr} {cs : List Value} {row : Option Nat} (h : RdC w ao cs) (h1 : RdC w1 ao cs) (hg : w.grownBy w' row) (hr : ∀ k, row = some k → w1.heap.size ≤ k) : RdC w' ao cs := by
  intro j x hx
  obtain ⟨b, off, e, hc⟩ := h j x hx
  obtain ⟨b', off', e', hc'⟩ := h1 j x hx
  have e2 : b = b' := by rw [e] at e'; cases e'; rfl
  subst e2
  have hlt := World.block_lt_of_cell? _ _ hc
  have hlt' := World.block_lt_of_cell? _ _ hc'
  refine ⟨b, off, e, (World.cell?_of_block (hg.block b hlt (fun hk => ?_))).trans hc⟩
  exact absurd (hr b hk.symm) (Nat.not_le_of_lt hlt')
theorem RdC.nil (w : World) (ao : Option Addr) : RdC w ao [] := fun j x h => by simp at h

theorem Own.rdC {w : World} {B size n : Nat} {v : Value} {cs : List Value} (h : Own w B size v n cs) : ∃ ao cap, v = .slice ao n cap ∧ RdC w ao cs := by
  rcases h with ⟨rfl, rfl, rfl⟩ | ⟨g, cap, rfl, _, r⟩
  · exact ⟨none, 0, rfl, RdC.nil _ _⟩
  · refine ⟨_, cap, rfl, fun j x hx => ⟨g, 0, rfl, ?_⟩⟩
    have hj : j < cs.length := (List.getElem?_eq_some_iff.1 hx).1
    rw [Nat.zero_add, r.holds j (by rw [← r.len]; exact hj), hx]

theorem Own.empty (w : World) (B size : Nat) (e : TypeId) (hB : B ≤ w.heap.size) : Own (w.alloc (.cells #[] e)) B size (.slice (some ⟨w.heap.size, 0, none⟩) 0 0) 0 [] :=
  .inr ⟨w.heap.size, 0, rfl, hB, by simp, Nat.le_refl _, Nat.zero_le _, by simp, fun j hj => by simp at hj, fun j hj => by simp at hj⟩

/-- What a new block yields. -/
theorem src_cells {P : Program} {t e' e : TypeId} {size : Nat} (ht : P.underlying t = some (.slice e')) (w : World) (c m : Nat) (cs xs : List Value) (hm : cs.length = m * size) (hx : xs = cs) (h1 : ∀ u ∈ cs, u.oneCell' = true) :
    Src P size t (.slice (some ⟨w.heap.size, 0, none⟩) m c) m cs (w.alloc (.cells xs.toArray e)) := by
  subst hx
  refine Src.ofSlice _ ht _ _ _ _ hm (fun j u hu => ?_) h1
  rw [Addr.add_lit, Nat.zero_add]
  have e1 : (w.alloc (.cells xs.toArray e)).cell? ⟨w.heap.size, j, none⟩ = _ := World.cell?_alloc_new w _ _ j
  rw [e1]
  simpa using hu

/-- 'append(b, x, y ..)' onto a row of the call's own, for the walk. -/
theorem wpList_push_cells {P : Program} (w W : World) {ops : Array Oper} {rest : List Oper} {o : Oper} {a : Act} {Q : Exit → Act → World → Prop}
    (hg : o.guard = none) (s xo : Operand) (t : TypeId) (hop : o.op = Op.call { callee := Callee.builtin Builtin.append, args := #[s, xo], argTypes := #[t, t] })
    (e : TypeId) (ht : P.underlying t = some (.slice e)) (z : Value) (size bytes : Nat) (hzs : z.cells.size = size) (hinfo : (P.info? e).map (fun i => (i.zero, i.size, i.bytes)) = some (some z, size, bytes))
    (B : Nat) (v : Value) (n : Nat) (cs : List Value) (hs : a.eval s = v) (hown : Own w B size v n cs) (xs news : List Value) (hx : xs = news) (h1 : ∀ u ∈ news, u.oneCell' = true) (m c : Nat) (hm : news.length = m * size)
    (H : Nat) (hxo : a.eval xo = .slice (some ⟨H, 0, none⟩) m c) (hH : w.heap.size = H) (hb : n + m ≤ 1099511627776) (hbb : bytes ≤ 128) (hB : B ≤ w.heap.size) (hW : W = w.alloc (.cells xs.toArray e))
    (hK : ∀ v' w', Own w' B size v' (n + m) (cs ++ news) → w.grownBy w' v.ownBlock → Below B w w' → wpList P ops Q rest (a.put o.dst v') w') :
    wpList P ops Q (o :: rest) a W := by
  subst hW
  subst hH
  have hsz : (w.alloc (.cells xs.toArray e)).heap.size = w.heap.size + 1 := by simp
  have hbytes : (n + m) * bytes ≤ 140737488355328 := Nat.le_trans (Nat.mul_le_mul hb hbb) (by decide)
  refine wpList_append_Own (P := P) _ hg s xo t t hop B e _ size bytes ht hinfo hzs v n cs hs (Own.alloc hown _) _ hxo m news (src_cells ht w c m news xs hm hx h1) (by unfold maxLen; omega) hbytes (by omega) ?_
  intro v' w' h1 h2 _
  have hg' : w.grownBy w' v.ownBlock := ⟨h2.os, h2.tape, h2.output, by have := h2.size; omega, fun k hk hne => (h2.block k (by omega) hne).trans (Below.heap_alloc w _ k hk)⟩
  exact hK v' w' h1 hg' ((Below.refl B w).grown hg' hB (fun k hk => (hown.block k hk).1))

/-! ### Integers -/

def intC (l : List Int) : List Value := l.map (Value.int .i64)
theorem intC_length (l : List Int) : (intC l).length = l.length := by simp [intC]
theorem intC_append (l m : List Int) : intC (l ++ m) = intC l ++ intC m := by simp [intC]
theorem intC_get (l : List Int) (j : Nat) : (intC l)[j]? = (l[j]?).map (Value.int .i64) := by simp [intC]
theorem intC_one (l : List Int) : ∀ u ∈ intC l, u.oneCell' = true := by
  intro u hu
  obtain ⟨_, _, rfl⟩ := List.mem_map.1 hu
  rfl
def RdI (w : World) (ao : Option Addr) (l : List Int) : Prop := RdC w ao (intC l)
def OwnI (w : World) (B : Nat) (v : Value) (l : List Int) : Prop := Own w B 1 v l.length (intC l)
theorem RdI.at_ {w : World} {ao : Option Addr} {l : List Int} (h : RdI w ao l) (j : Nat) (x : Int) (hx : l[j]? = some x) : ∃ b off, ao = some ⟨b, off, none⟩ ∧ w.cell? ⟨b, off + j, none⟩ = some (.int .i64 x) :=
  h j _ (by rw [intC_get, hx]; rfl)
theorem RdI.below {w w' : World} {ao : Option Addr} {l : List Int} {C : Nat} (h : RdI w ao l) (hb : Below C w w') (hC : w.heap.size ≤ C) : RdI w' ao l := RdC.below h hb hC
theorem RdI.kept {w1 w w' : World} {ao : Option Addr} {l : List Int} {row : Option Nat} (h : RdI w ao l) (h1 : RdI w1 ao l) (hg : w.grownBy w' row) (hr : ∀ k, row = some k → w1.heap.size ≤ k) : RdI w' ao l := RdC.kept h h1 hg hr
theorem OwnI.nil (w : World) (B : Nat) : OwnI w B (.slice none 0 0) [] := Own.nil _ _ _
theorem OwnI.empty (w : World) (B : Nat) (e : TypeId) (hB : B ≤ w.heap.size) : OwnI (w.alloc (.cells #[] e)) B (.slice (some ⟨w.heap.size, 0, none⟩) 0 0) [] := Own.empty w B 1 e hB
theorem OwnI.rd {w : World} {B : Nat} {v : Value} {l : List Int} (h : OwnI w B v l) : ∃ ao cap, v = .slice ao l.length cap ∧ RdI w ao l := Own.rdC h
theorem OwnI.below {w w' : World} {B C : Nat} {v : Value} {l : List Int} (h : OwnI w B v l) (hb : Below C w w') (hC : w.heap.size ≤ C) : OwnI w' B v l := Own.below h hb hC

/-- 'append(b, x ..)' onto a []int of the call's own, for the walk. -/
theorem wpList_push_ints {P : Program} (w W : World) {ops : Array Oper} {rest : List Oper} {o : Oper} {a : Act} {Q : Exit → Act → World → Prop}
    (hg : o.guard = none) (s xo : Operand) (t : TypeId) (hop : o.op = Op.call { callee := Callee.builtin Builtin.append, args := #[s, xo], argTypes := #[t, t] })
    (e : TypeId) (ht : P.underlying t = some (.slice e)) (hinfo : (P.info? e).map (fun i => (i.zero, i.size, i.bytes)) = some (some (.int .i64 0), 1, 8))
    (B : Nat) (v : Value) (l : List Int) (hs : a.eval s = v) (hown : OwnI w B v l) (xs : List Value) (news : List Int) (hx : xs = intC news) (m c : Nat) (hm : news.length = m)
    (H : Nat) (hxo : a.eval xo = .slice (some ⟨H, 0, none⟩) m c) (hH : w.heap.size = H) (hb : l.length + m ≤ 1099511627776) (hB : B ≤ w.heap.size) (hW : W = w.alloc (.cells xs.toArray e))
    (hK : ∀ v' w', OwnI w' B v' (l ++ news) → w.grownBy w' v.ownBlock → Below B w w' → wpList P ops Q rest (a.put o.dst v') w') :
    wpList P ops Q (o :: rest) a W := by
  refine wpList_push_cells w W hg s xo t hop e ht _ 1 8 rfl hinfo B v l.length (intC l) hs hown xs (intC news) hx (intC_one _) m c (by rw [intC_length, hm, Nat.mul_one]) H hxo hH hb (by decide) hB hW ?_
  intro v' w' h1 h2 h3
  refine hK v' w' ?_ h2 h3
  unfold OwnI
  rw [intC_append, List.length_append, hm]
  exact h1

/-- The numbers from k on. -/
def nums (k : Int) : Nat → List Int
  | 0 => []
  | n + 1 => k :: nums (k + 1) n
theorem nums_length (k : Int) (n : Nat) : (nums k n).length = n := by
  induction n generalizing k with
  | zero => rfl
  | succ n ih => simp [nums, ih]
theorem nums_get (k : Int) (n j : Nat) (h : j < n) : (nums k n)[j]? = some (k + j) := by
  induction n generalizing k j with
  | zero => omega
  | succ n ih =>
    cases j with
    | zero => simp [nums]
    | succ j => simp only [nums, List.getElem?_cons_succ]; rw [ih (k + 1) j (by omega)]; congr 1; omega
theorem nums_eq {cs : List Value} {K : Int} {N : Nat} (hl : cs.length = N) (h : ∀ j, j < N → cs[j]? = some (.int .i64 (K + j))) : cs = intC (nums K N) := by
  apply List.ext_getElem?
  intro j
  by_cases hj : j < N
  · rw [h j hj, intC_get, nums_get K N j hj]; rfl
  · rw [List.getElem?_eq_none (by omega), List.getElem?_eq_none (by rw [intC_length, nums_length]; omega)]
theorem int_step {l1 l2 : List Int} {k : Nat} {x y : Int} (hx : l1[k]? = some x) (hy : l2[k]? = some y) (h : x = y) (ht : l1.take k = l2.take k) : l1.take (k + 1) = l2.take (k + 1) := by
  rw [List.take_add_one, List.take_add_one, hx, hy, h, ht]

end Go.Proofs.Ytdecehecjlbbiaa

/-
  A table of numbers that stands in a block (a package-level array), and the digest's two tables. No program in sight.
-/
namespace Go.Proofs.Ytdecehecjlbbiaa
open Go.RowKit

/-- Block g holds these numbers. -/
def TabAt (w : World) (g : Nat) (k : IntKind) (zs : List Int) : Prop := ∀ i x, zs[i]? = some x → w.cell? ⟨g, i, none⟩ = some (.int k x)
theorem TabAt.below {w w' : World} {g : Nat} {k : IntKind} {zs : List Int} {C : Nat} (h : TabAt w g k zs) (hb : Below C w w') (hC : w.heap.size ≤ C) : TabAt w' g k zs := by
  intro i x hx
  have hc := h i x hx
  have hlt := World.block_lt_of_cell? _ _ hc
  exact (hb.cell (p := ⟨g, i, none⟩) (Nat.lt_of_lt_of_le hlt hC)).trans hc

/-- 'a[i]' of an array of numbers by value. -/
theorem idx_arr {P : Program} {t e : TypeId} {n : Nat} {kk k : IntKind} (ht : P.underlying t = some (.array n e)) (he' : P.underlying e = some (.int kk)) (he : (P.info? e).map (·.size) = some 1) (cs : Array Value) (i : Nat) (hi : i < n) (x : Int) (hx : cs[i]? = some (.int kk x)) (w : World) :
    (Instr.index t (.agg cs) (.int k (i : Int))).run P w = .ok (.int kk x) w := by
  obtain ⟨inf, h1, h2⟩ := Option.map_eq_some_iff.1 he
  have h3 : (0 : Int) ≤ (i : Int) ∧ (i : Int) < (n : Int) := by omega
  have e1 : ∀ w', (sizeOf e).run P w' = .ok 1 w' := fun w' => by simp [sizeOf, run_typeInfo w' h1, h2]
  have e2 : ∀ w', (isAgg e).run P w' = .ok false w' := fun w' => by simp [isAgg, run_underlying he']
  simp [Instr.index, run_underlying ht, asIntOf, hi, go_sem, e1, e2, hx]

theorem alloc_at (w : World) (o : Obj) : (w.alloc o).heap[w.heap.size]? = some o := by
  show (w.heap.push o)[w.heap.size]? = some o
  simp
theorem alloc_size (w : World) (o : Obj) : (w.alloc o).heap.size = w.heap.size + 1 := by
  show (w.heap.push o).size = _
  simp
theorem tab_new (w : World) (zs : List Int) (k : IntKind) (t : TypeId) : TabAt (w.alloc (.cells (zs.map (Value.int k)).toArray t)) w.heap.size k zs := by
  intro i x hx
  have e1 : (w.alloc (.cells (zs.map (Value.int k)).toArray t)).cell? ⟨w.heap.size, i, none⟩ = _ := World.cell?_alloc_new w _ _ i
  rw [e1]
  simp [hx]
theorem TabAt.alloc {w : World} {g : Nat} {k : IntKind} {zs : List Int} (h : TabAt w g k zs) (o : Obj) : TabAt (w.alloc o) g k zs :=
  h.below ((Below.refl w.heap.size w).alloc (Nat.le_refl _) o) (Nat.le_refl _)

/-- The first words. -/
def startL : List Int := [1779033703, 3144134277, 1013904242, 2773480762, 1359893119, 2600822924, 528734635, 1541459225]
end Go.Proofs.Ytdecehecjlbbiaa

/-
  Plain law: a checksum behind a text; a framed record. No program in sight.
-/
namespace Go.Proofs.Ytdecehecjlbbiaa

/-- A number of 32 bits in four bytes, the highest first. -/
def be32 (n : Nat) : List UInt8 := [UInt8.ofNat (n / 16777216), UInt8.ofNat (n / 65536), UInt8.ofNat (n / 256), UInt8.ofNat n]
theorem be32_length (n : Nat) : (be32 n).length = 4 := rfl

/-- The checksum of a text. -/
def crc (l : List UInt8) : Nat := sumL 4294967295 l
theorem crc_lt (l : List UInt8) : crc l < 4294967296 := sumL_lt l (by decide)

/-- The checksum's four bytes. -/
def crc4 (l : List UInt8) : List UInt8 := be32 (crc l)
theorem crc4_length (l : List UInt8) : (crc4 l).length = 4 := rfl

def sealL (l : List UInt8) : List UInt8 := l ++ crc4 l

/-- What stands ahead of a right checksum. -/
def unsealL (l : List UInt8) : Option (List UInt8) :=
  if 4 ≤ l.length ∧ l.length ≤ 20004 ∧ l.drop (l.length - 4) = crc4 (l.take (l.length - 4)) then some (l.take (l.length - 4)) else none

/-- The two results. -/
def optTxt : Option (List UInt8) → Value
  | none => .tuple #[.string ⟨#[]⟩, .bool false]
  | some l => .tuple #[.string (txt l), .bool true]

end Go.Proofs.Ytdecehecjlbbiaa

/-
  Plain law: a string with its purpose. And a string that is appended to a []byte. No program in sight.
-/
namespace Go.Proofs.Ytdecehecjlbbiaa
open Go.RowKit

/-- 'append(b, s...)' for a []byte of the call's own and a string, for the walk. -/
theorem wpList_push_text {P : Program} (w : World) {ops : Array Oper} {rest : List Oper} {o : Oper} {a : Act} {Q : Exit → Act → World → Prop}
    (hg : o.guard = none) (s xo : Operand) (t tx : TypeId) (hop : o.op = Op.call { callee := Callee.builtin Builtin.append, args := #[s, xo], argTypes := #[t, tx] })
    (e : TypeId) (ht : P.underlying t = some (.slice e)) (htx : P.underlying tx = some .string) (hinfo : (P.info? e).map (fun i => (i.zero, i.size, i.bytes)) = some (some (.int .u8 0), 1, 1))
    (B : Nat) (v : Value) (l : List UInt8) (hs : a.eval s = v) (hown : OwnB w B v l) (x : ByteArray)
    (hxo : a.eval xo = .string x) (hb : l.length + x.size ≤ 70368744177664) (hB : B ≤ w.heap.size)
    (hK : ∀ v' w', OwnB w' B v' (l ++ x.data.toList) → w.grownBy w' v.ownBlock → Below B w w' → wpList P ops Q rest (a.put o.dst v') w') :
    wpList P ops Q (o :: rest) a w := by
  refine wpList_append_Own (P := P) _ hg s xo t tx hop B e _ 1 1 ht hinfo rfl v l.length (u8s l) hs hown _ hxo x.size (byteCells x) (Src.ofString w htx x) (by unfold maxLen; omega) (by omega) (by omega) ?_
  intro v' w' h1 hg' _
  refine hK v' w' ?_ hg' ((Below.refl B w).grown hg' hB (fun k hk => (hown.block k hk).1))
  have hx : x.data.toList.length = x.size := by rw [Array.length_toList]; rfl
  unfold OwnB
  rw [u8s_append, List.length_append, hx]
  exact h1

/-- A []byte that has just been built. -/
theorem OwnB.made (w : World) (B : Nat) (xs : List Value) (l : List UInt8) (hx : xs = u8s l) (m : Nat) (hm : l.length = m) (e : TypeId) (hB : B ≤ w.heap.size) (hmax : m ≤ maxLen) :
    OwnB (w.alloc (.cells xs.toArray e)) B (.slice (some ⟨w.heap.size, 0, none⟩) m m) l := by
  subst hm; subst hx
  unfold OwnB
  have e1 := fun j => World.cell?_alloc_new w (u8s l).toArray e j
  refine .inr ⟨w.heap.size, l.length, rfl, hB, by simp, Nat.le_refl _, hmax, by rw [u8s_length, Nat.mul_one], fun j hj => ?_, fun j hj => ⟨?_, World.frozen?_alloc_new _ _ _ _⟩⟩
  · refine (e1 j).trans ?_
    simp
  · rw [Nat.mul_one] at hj
    have e2 : (w.alloc (.cells (u8s l).toArray e)).cell? ⟨w.heap.size, j, none⟩ = _ := e1 j
    rw [e2, List.getElem?_toArray, List.getElem?_eq_getElem (by rw [u8s_length]; exact hj)]; rfl

def tagBody (ps : List ByteArray) : List UInt8 := ps.flatMap fun p => varL p.size ++ p.data.toList
theorem tagBody_step {l : List ByteArray} {k : Nat} {x : ByteArray} (hx : l[k]? = some x) : tagBody (l.take (k + 1)) = tagBody (l.take k) ++ (varL x.size ++ x.data.toList) := by
  unfold tagBody; rw [List.take_add_one, hx]; simp
theorem tagBody_len {l : List ByteArray} (h : ∀ p ∈ l, p.size ≤ 200) : (tagBody l).length ≤ 203 * l.length := by
  induction l with
  | nil => simp [tagBody]
  | cons x l ih =>
    have h1 := h x (by simp)
    have h2 := ih (fun p hp => h p (by simp [hp]))
    have h3 := varL_length_le 2 x.size (by omega)
    have h4 : x.data.toList.length = x.size := by rw [Array.length_toList]; rfl
    unfold tagBody at *
    rw [List.flatMap_cons, List.length_append, List.length_append, h4, List.length_cons]
    omega

/-- What TagText answers. -/
def tagL (k : Int) (ps : List ByteArray) : Option (List UInt8) := if 1 ≤ k ∧ k ≤ 8 ∧ ps.length ≤ 60 ∧ ∀ p ∈ ps, p.size ≤ 200 then some (UInt8.ofNat k.toNat :: tagBody ps) else none
theorem tagL_yes {k : Int} {ps : List ByteArray} (h : 1 ≤ k ∧ k ≤ 8) (h' : ps.length ≤ 60) (hp : ∀ p ∈ ps, p.size ≤ 200) : optTxt (tagL k ps) = .tuple #[.string (txt (UInt8.ofNat k.toNat :: tagBody ps)), .bool true] := by
  rw [tagL, if_pos ⟨h.1, h.2, h', hp⟩]; rfl
theorem tagL_no {k : Int} {ps : List ByteArray} (h : ¬ (1 ≤ k ∧ k ≤ 8 ∧ ps.length ≤ 60 ∧ ∀ p ∈ ps, p.size ≤ 200)) : optTxt (tagL k ps) = .tuple #[.string ⟨#[]⟩, .bool false] := by
  rw [tagL, if_neg h]; rfl
theorem all_step {l : List ByteArray} {k : Nat} {x : ByteArray} {p : ByteArray → Prop} (hx : l[k]? = some x) (h : ∀ y ∈ l.take k, p y) (hp : p x) : ∀ y ∈ l.take (k + 1), p y := by
  intro y hy
  rw [List.take_add_one, hx] at hy
  rcases List.mem_append.1 hy with hy | hy
  · exact h y hy
  · simp at hy; rw [hy]; exact hp

end Go.Proofs.Ytdecehecjlbbiaa

/-
  Rows of entries (a name, a value): their cells, their size. No program in sight.
-/
namespace Go.Proofs.Ytdecehecjlbbiaa
open Go.RowKit

/-- An entry. -/
abbrev Lf := ByteArray × ByteArray
def leafC : List Lf → List Value
  | [] => []
  | x :: l => .string x.1 :: .string x.2 :: leafC l
theorem leafC_length (l : List Lf) : (leafC l).length = l.length * 2 := by
  induction l with
  | nil => rfl
  | cons x l ih => simp only [leafC, List.length_cons, ih]; omega
theorem leafC_get (l : List Lf) (k : Nat) (x : Lf) (h : l[k]? = some x) : (leafC l)[k * 2]? = some (.string x.1) ∧ (leafC l)[k * 2 + 1]? = some (.string x.2) := by
  induction l generalizing k with
  | nil => simp at h
  | cons y l ih =>
    cases k with
    | zero => simp at h; subst h; exact ⟨rfl, rfl⟩
    | succ k =>
      rw [List.getElem?_cons_succ] at h
      obtain ⟨h1, h2⟩ := ih k h
      refine ⟨?_, ?_⟩
      · rw [show (k + 1) * 2 = k * 2 + 1 + 1 by omega]; exact h1
      · rw [show (k + 1) * 2 + 1 = (k * 2 + 1) + 1 + 1 by omega]; exact h2
theorem leafC_of {cs : List Value} {l : List Lf} (hl : cs.length = l.length * 2) (h : ∀ k x, l[k]? = some x → cs[k * 2]? = some (.string x.1) ∧ cs[k * 2 + 1]? = some (.string x.2)) : cs = leafC l := by
  apply List.ext_getElem?
  intro j
  by_cases hj : j < l.length * 2
  · obtain ⟨x, hx⟩ : ∃ x, l[j / 2]? = some x := ⟨_, List.getElem?_eq_getElem (by omega)⟩
    obtain ⟨h1, h2⟩ := h _ _ hx
    obtain ⟨g1, g2⟩ := leafC_get _ _ _ hx
    rcases (show j = j / 2 * 2 ∨ j = j / 2 * 2 + 1 by omega) with e | e
    · rw [e, h1, g1]
    · rw [e, h2, g2]
  · rw [List.getElem?_eq_none (by omega), List.getElem?_eq_none (by rw [leafC_length]; omega)]
def RdL (w : World) (ao : Option Addr) (l : List Lf) : Prop := RdC w ao (leafC l)
def OwnL (w : World) (B : Nat) (v : Value) (l : List Lf) : Prop := Own w B 2 v l.length (leafC l)
theorem RdL.below {w w' : World} {ao : Option Addr} {l : List Lf} {C : Nat} (h : RdL w ao l) (hb : Below C w w') (hC : w.heap.size ≤ C) : RdL w' ao l := RdC.below h hb hC
theorem RdL.at_ {w : World} {ao : Option Addr} {l : List Lf} (h : RdL w ao l) (k : Nat) (x : Lf) (hx : l[k]? = some x) :
    ∃ b off, ao = some ⟨b, off, none⟩ ∧ w.cell? ⟨b, off + k * 2, none⟩ = some (.string x.1) ∧ w.cell? ⟨b, off + k * 2 + 1, none⟩ = some (.string x.2) := by
  obtain ⟨h1, h2⟩ := leafC_get l k x hx
  obtain ⟨b, off, e, c1⟩ := h _ _ h1
  obtain ⟨b', off', e', c2⟩ := h _ _ h2
  rw [e] at e'
  cases e'
  exact ⟨b, off, e, c1, c2⟩
theorem OwnL.rd {w : World} {B : Nat} {v : Value} {l : List Lf} (h : OwnL w B v l) : ∃ ao cap, v = .slice ao l.length cap ∧ RdL w ao l := Own.rdC h
theorem OwnL.below {w w' : World} {B C : Nat} {v : Value} {l : List Lf} (h : OwnL w B v l) (hb : Below C w w') (hC : w.heap.size ≤ C) : OwnL w' B v l := Own.below h hb hC

/-- The bytes of entries. -/
def sumF : List Lf → Nat
  | [] => 0
  | x :: l => x.1.size + x.2.size + sumF l
theorem sumF_step {l : List Lf} {k : Nat} {x : Lf} (hx : l[k]? = some x) : sumF (l.take (k + 1)) = sumF (l.take k) + (x.1.size + x.2.size) := by
  induction l generalizing k with
  | nil => simp at hx
  | cons y l ih =>
    cases k with
    | zero => simp at hx; subst hx; simp [sumF]
    | succ k => rw [List.getElem?_cons_succ] at hx; simp only [List.take_succ_cons, sumF, ih hx]; omega
theorem sumF_le {l : List Lf} (k : Nat) : sumF (l.take k) ≤ sumF l := by
  induction l generalizing k with
  | nil => simp [sumF]
  | cons y l ih =>
    cases k with
    | zero => simp [sumF]
    | succ k => have := ih k; simp only [List.take_succ_cons, sumF]; omega
theorem sumF_mem {l : List Lf} {x : Lf} (h : x ∈ l) : x.1.size + x.2.size ≤ sumF l := by
  induction l with
  | nil => cases h
  | cons y l ih =>
    rcases List.mem_cons.1 h with rfl | h
    · simp only [sumF]; omega
    · have := ih h; simp only [sumF]; omega
def szF (l : List Lf) (left : Int) : Int := if (l.length : Int) + sumF l ≤ left then left - l.length - sumF l else -1
theorem szF_yes {l : List Lf} {left : Int} (h : (l.length : Int) + sumF l ≤ left) : szF l left = left - l.length - sumF l := if_pos h
theorem szF_no {l : List Lf} {left : Int} (h : ¬ (l.length : Int) + sumF l ≤ left) : szF l left = -1 := if_neg h

/-- A cell of an owned row, whatever its elements' size. -/
theorem Own.storeC {w : World} {B size g n cap : Nat} {cs : List Value} (h : Own w B size (.slice (some ⟨g, 0, none⟩) n cap) n cs) (k : Nat) (hk : k < n * size) (x : Value) :
    Own (w.setCell ⟨g, k, none⟩ x) B size (.slice (some ⟨g, 0, none⟩) n cap) n (cs.set k x) := by
  rcases h with ⟨h0, _⟩ | ⟨g', cap', he, hB, r⟩
  · cases h0
  · cases he
    have hl := r.len
    have hle := Nat.mul_le_mul_right size r.le
    refine .inr ⟨g, cap, rfl, hB, ?_⟩
    refine ⟨by simpa [World.setCell] using r.lt, r.le, r.max, by rw [List.length_set, hl], fun j hj => ?_, fun j hj => ⟨?_, (World.frozen?_setCell _ _ _ _).trans (r.there j hj).2⟩⟩
    · by_cases hjk : j = k
      · subst hjk
        obtain ⟨u, hu⟩ := Option.isSome_iff_exists.1 (r.there j (by omega)).1
        rw [World.cell?_setCell_same _ _ _ hu, List.getElem?_set_self (by omega)]
      · rw [World.cell?_setCell_other _ _ _ _ (by intro e; injection e; omega), r.holds j hj, List.getElem?_set_ne (by omega)]
    · by_cases hjk : j = k
      · subst hjk
        obtain ⟨u, hu⟩ := Option.isSome_iff_exists.1 (r.there j hj).1
        rw [World.cell?_setCell_same _ _ _ hu]; rfl
      · rw [World.cell?_setCell_other _ _ _ _ (by intro e; injection e; omega)]; exact (r.there j hj).1
theorem Own.atC {w : World} {B size g n cap : Nat} {cs : List Value} (h : Own w B size (.slice (some ⟨g, 0, none⟩) n cap) n cs) (k : Nat) (hk : k < n * size) :
    (∃ u, w.cell? ⟨g, k, none⟩ = some u) ∧ w.frozen? ⟨g, k, none⟩ = false := by
  rcases h with ⟨h0, _⟩ | ⟨g', cap', he, hB, r⟩
  · cases h0
  · cases he
    have hle := Nat.mul_le_mul_right size r.le
    have := r.there k (by omega)
    exact ⟨Option.isSome_iff_exists.1 this.1, this.2⟩
theorem lf_step {l1 l2 : List Lf} {k : Nat} {x y : Lf} (hx : l1[k]? = some x) (hy : l2[k]? = some y) (h : x = y) (ht : l1.take k = l2.take k) : l1.take (k + 1) = l2.take (k + 1) := by
  rw [List.take_add_one, List.take_add_one, hx, hy, h, ht]

end Go.Proofs.Ytdecehecjlbbiaa

/-
  Rows of files (a name, a text, how much is kept): their cells, their size. No program in sight.
-/
namespace Go.Proofs.Ytdecehecjlbbiaa
open Go.RowKit

/-- A file. -/
abbrev Fl := ByteArray × ByteArray × Int
def fileC : List Fl → List Value
  | [] => []
  | x :: l => .string x.1 :: .string x.2.1 :: .int .i64 x.2.2 :: fileC l
theorem fileC_length (l : List Fl) : (fileC l).length = l.length * 3 := by
  induction l with
  | nil => rfl
  | cons x l ih => simp only [fileC, List.length_cons, ih]; omega
theorem fileC_get (l : List Fl) (k : Nat) (x : Fl) (h : l[k]? = some x) : (fileC l)[k * 3]? = some (.string x.1) ∧ (fileC l)[k * 3 + 1]? = some (.string x.2.1) ∧ (fileC l)[k * 3 + 2]? = some (.int .i64 x.2.2) := by
  induction l generalizing k with
  | nil => simp at h
  | cons y l ih =>
    cases k with
    | zero => simp at h; subst h; exact ⟨rfl, rfl, rfl⟩
    | succ k =>
      rw [List.getElem?_cons_succ] at h
      obtain ⟨h1, h2, h3⟩ := ih k h
      refine ⟨?_, ?_, ?_⟩
      · rw [show (k + 1) * 3 = k * 3 + 1 + 1 + 1 by omega]; exact h1
      · rw [show (k + 1) * 3 + 1 = (k * 3 + 1) + 1 + 1 + 1 by omega]; exact h2
      · rw [show (k + 1) * 3 + 2 = (k * 3 + 2) + 1 + 1 + 1 by omega]; exact h3
theorem fileC_of {cs : List Value} {l : List Fl} (hl : cs.length = l.length * 3) (h : ∀ k x, l[k]? = some x → cs[k * 3]? = some (.string x.1) ∧ cs[k * 3 + 1]? = some (.string x.2.1) ∧ cs[k * 3 + 2]? = some (.int .i64 x.2.2)) : cs = fileC l := by
  apply List.ext_getElem?
  intro j
  by_cases hj : j < l.length * 3
  · obtain ⟨x, hx⟩ : ∃ x, l[j / 3]? = some x := ⟨_, List.getElem?_eq_getElem (by omega)⟩
    obtain ⟨h1, h2, h3⟩ := h _ _ hx
    obtain ⟨g1, g2, g3⟩ := fileC_get _ _ _ hx
    rcases (show j = j / 3 * 3 ∨ j = j / 3 * 3 + 1 ∨ j = j / 3 * 3 + 2 by omega) with e | e | e
    · rw [e, h1, g1]
    · rw [e, h2, g2]
    · rw [e, h3, g3]
  · rw [List.getElem?_eq_none (by omega), List.getElem?_eq_none (by rw [fileC_length]; omega)]
def RdF (w : World) (ao : Option Addr) (l : List Fl) : Prop := RdC w ao (fileC l)
def OwnF (w : World) (B : Nat) (v : Value) (l : List Fl) : Prop := Own w B 3 v l.length (fileC l)
theorem RdF.below {w w' : World} {ao : Option Addr} {l : List Fl} {C : Nat} (h : RdF w ao l) (hb : Below C w w') (hC : w.heap.size ≤ C) : RdF w' ao l := RdC.below h hb hC
theorem RdF.at_ {w : World} {ao : Option Addr} {l : List Fl} (h : RdF w ao l) (k : Nat) (x : Fl) (hx : l[k]? = some x) :
    ∃ b off, ao = some ⟨b, off, none⟩ ∧ w.cell? ⟨b, off + k * 3, none⟩ = some (.string x.1) ∧ w.cell? ⟨b, off + k * 3 + 1, none⟩ = some (.string x.2.1) ∧ w.cell? ⟨b, off + k * 3 + 2, none⟩ = some (.int .i64 x.2.2) := by
  obtain ⟨h1, h2, h3⟩ := fileC_get l k x hx
  obtain ⟨b, off, e, c1⟩ := h _ _ h1
  obtain ⟨b', off', e', c2⟩ := h _ _ h2
  obtain ⟨b2, off2, e2, c3⟩ := h _ _ h3
  rw [e] at e' e2
  cases e'
  cases e2
  exact ⟨b, off, e, c1, c2, c3⟩
theorem OwnF.rd {w : World} {B : Nat} {v : Value} {l : List Fl} (h : OwnF w B v l) : ∃ ao cap, v = .slice ao l.length cap ∧ RdF w ao l := Own.rdC h
theorem OwnF.below {w w' : World} {B C : Nat} {v : Value} {l : List Fl} (h : OwnF w B v l) (hb : Below C w w') (hC : w.heap.size ≤ C) : OwnF w' B v l := Own.below h hb hC

/-- The bytes of files. -/
def sumFl : List Fl → Nat
  | [] => 0
  | x :: l => x.1.size + x.2.1.size + sumFl l
theorem sumFl_step {l : List Fl} {k : Nat} {x : Fl} (hx : l[k]? = some x) : sumFl (l.take (k + 1)) = sumFl (l.take k) + (x.1.size + x.2.1.size) := by
  induction l generalizing k with
  | nil => simp at hx
  | cons y l ih =>
    cases k with
    | zero => simp at hx; subst hx; simp [sumFl]
    | succ k => rw [List.getElem?_cons_succ] at hx; simp only [List.take_succ_cons, sumFl, ih hx]; omega
theorem sumFl_le {l : List Fl} (k : Nat) : sumFl (l.take k) ≤ sumFl l := by
  induction l generalizing k with
  | nil => simp [sumFl]
  | cons y l ih =>
    cases k with
    | zero => simp [sumFl]
    | succ k => have := ih k; simp only [List.take_succ_cons, sumFl]; omega
theorem sumFl_mem {l : List Fl} {x : Fl} (h : x ∈ l) : x.1.size + x.2.1.size ≤ sumFl l := by
  induction l with
  | nil => cases h
  | cons y l ih =>
    rcases List.mem_cons.1 h with rfl | h
    · simp only [sumFl]; omega
    · have := ih h; simp only [sumFl]; omega
def szFl (l : List Fl) (left : Int) : Int := if (l.length : Int) + sumFl l ≤ left then left - l.length - sumFl l else -1
theorem szFl_yes {l : List Fl} {left : Int} (h : (l.length : Int) + sumFl l ≤ left) : szFl l left = left - l.length - sumFl l := if_pos h
theorem szFl_no {l : List Fl} {left : Int} (h : ¬ (l.length : Int) + sumFl l ≤ left) : szFl l left = -1 := if_neg h

theorem fl_step {l1 l2 : List Fl} {k : Nat} {x y : Fl} (hx : l1[k]? = some x) (hy : l2[k]? = some y) (h : x = y) (ht : l1.take k = l2.take k) : l1.take (k + 1) = l2.take (k + 1) := by
  rw [List.take_add_one, List.take_add_one, hx, hy, h, ht]

end Go.Proofs.Ytdecehecjlbbiaa

/-
  Disks: how they are read and owned; the marks of a law on files. No program in sight.
-/
namespace Go.Proofs.Ytdecehecjlbbiaa
open Go.RowKit

/-- The marks on files from k on. -/
def marksF (k : Nat) : Nat → List Fl
  | 0 => []
  | n + 1 => (markB k, markB (k + 1), ((k + 2 : Nat) : Int)) :: marksF (k + 3) n
theorem marksF_length (k n : Nat) : (marksF k n).length = n := by
  induction n generalizing k with
  | zero => rfl
  | succ n ih => simp [marksF, ih]
theorem marksF_get (k n j : Nat) (h : j < n) : (marksF k n)[j]? = some (markB (k + 3 * j), markB (k + 3 * j + 1), ((k + 3 * j + 2 : Nat) : Int)) := by
  induction n generalizing k j with
  | zero => omega
  | succ n ih =>
    cases j with
    | zero => simp [marksF]
    | succ j =>
      simp only [marksF, List.getElem?_cons_succ]
      rw [ih (k + 3) j (by omega), show k + 3 + 3 * j = k + 3 * (j + 1) by omega]
theorem marksF_eq {cs : List Value} {K N : Nat} (hl : cs.length = N * 3) (h : ∀ j, j < N → cs[j * 3]? = some (.string (markB (K + 3 * j))) ∧ cs[j * 3 + 1]? = some (.string (markB (K + 3 * j + 1))) ∧ cs[j * 3 + 2]? = some (.int .i64 ((K + 3 * j + 2 : Nat) : Int))) : cs = fileC (marksF K N) := by
  refine fileC_of (by rw [marksF_length]; exact hl) (fun k x hx => ?_)
  have hk : k < N := by have := (List.getElem?_eq_some_iff.1 hx).1; rw [marksF_length] at this; exact this
  rw [marksF_get K N k hk] at hx
  cases hx
  exact h k hk

/-- A disk reads so. -/
def RdK (w : World) (v : Value) (l : List Fl) : Prop := ∃ a c, v = .agg #[.slice a l.length c] ∧ RdF w a l
/-- A disk of the call's own; u: its row. -/
def OwnK (w : World) (B : Nat) (v u : Value) (l : List Fl) : Prop := v = .agg #[u] ∧ OwnF w B u l
theorem RdK.below {w w' : World} {v : Value} {l : List Fl} {C : Nat} (h : RdK w v l) (hb : Below C w w') (hC : w.heap.size ≤ C) : RdK w' v l := by
  obtain ⟨a, c, e, r⟩ := h
  exact ⟨a, c, e, r.below hb hC⟩
theorem OwnK.rd {w : World} {B : Nat} {v u : Value} {l : List Fl} (h : OwnK w B v u l) : RdK w v l := by
  obtain ⟨e, o⟩ := h
  obtain ⟨a, c, eu, r⟩ := o.rd
  exact ⟨a, c, by rw [e, eu], r⟩
theorem OwnK.below {w w' : World} {B C : Nat} {v u : Value} {l : List Fl} (h : OwnK w B v u l) (hb : Below C w w') (hC : w.heap.size ≤ C) : OwnK w' B v u l := ⟨h.1, h.2.below hb hC⟩
theorem OwnK.kept {w w' : World} {B : Nat} {v u : Value} {l : List Fl} {row : Option Nat} (h : OwnK w B v u l) (hg : w.grownBy w' row) (hne : u.ownBlock = none ∨ u.ownBlock ≠ row) : OwnK w' B v u l := ⟨h.1, Own.kept h.2 hg hne⟩
theorem OwnK.block {w : World} {B : Nat} {v u : Value} {l : List Fl} (h : OwnK w B v u l) : ∀ k, u.ownBlock = some k → B ≤ k ∧ k < w.heap.size := Own.block h.2

/-- A disk of the call's own is handed back. -/
def GivesK (B : Nat) (l : List Fl) (e : Ending) (w' : World) : Prop := ∃ v' u, e = .returned v' ∧ OwnK w' B v' u l
/-- A disk of the call's own and a bool are handed back. -/
def GivesK2 (B : Nat) (l : List Fl) (b : Value) (e : Ending) (w' : World) : Prop := ∃ v' u, e = .returned (.tuple #[v', b]) ∧ OwnK w' B v' u l
/-- The cells of a file in a row of the call's own. -/
theorem Own.fileAt {w : World} {B g n cap : Nat} {l : List Fl} {k : Nat} {x : Fl} (h : Own w B 3 (.slice (some ⟨g, 0, none⟩) n cap) n (fileC l)) (hx : l[k]? = some x) :
    (w.cell? ⟨g, k * 3, none⟩ = some (.string x.1) ∧ w.cell? ⟨g, k * 3 + 1, none⟩ = some (.string x.2.1) ∧ w.cell? ⟨g, k * 3 + 2, none⟩ = some (.int .i64 x.2.2)) ∧
      w.frozen? ⟨g, k * 3, none⟩ = false ∧ w.frozen? ⟨g, k * 3 + 1, none⟩ = false ∧ w.frozen? ⟨g, k * 3 + 2, none⟩ = false := by
  have hk := (List.getElem?_eq_some_iff.1 hx).1
  have hlen := h.len
  rw [fileC_length] at hlen
  obtain ⟨g0, g1, g2⟩ := fileC_get _ _ _ hx
  have f0 := (h.atC (k * 3) (by omega)).2
  have f1 := (h.atC (k * 3 + 1) (by omega)).2
  have f2 := (h.atC (k * 3 + 2) (by omega)).2
  rcases h with ⟨h0, _⟩ | ⟨g', cap', he, hB, r⟩
  · cases h0
  · cases he
    exact ⟨⟨by rw [r.holds _ (by omega)]; exact g0, by rw [r.holds _ (by omega)]; exact g1, by rw [r.holds _ (by omega)]; exact g2⟩, f0, f1, f2⟩

end Go.Proofs.Ytdecehecjlbbiaa

/-
  Plain law: when a disk is valid; where a file stands. No program in sight.
-/
namespace Go.Proofs.Ytdecehecjlbbiaa
open Go.RowKit

/-- The order of names. -/
def bless (a b : ByteArray) : Bool := Op.bytesLess a.toList b.toList
theorem less_eq : ∀ (x y : List UInt8), Op.bytesLess x y = decide (x < y)
  | [], [] => by simp [Op.bytesLess]
  | _ :: _, [] => by simp [Op.bytesLess]
  | [], _ :: _ => by simp [Op.bytesLess]
  | a :: x, b :: y => by
    rw [Op.bytesLess, less_eq x y]
    simp only [List.cons_lt_cons_iff]
    by_cases h1 : a < b <;> by_cases h2 : a = b <;> by_cases h3 : x < y <;> simp [h1, h2, h3]
theorem bless_eq (a b : ByteArray) : bless a b = decide (a.data.toList < b.data.toList) := by
  unfold bless
  rw [less_eq, ByteArray.toList_eq, ByteArray.toList_eq]
theorem u8_irrefl (a : UInt8) : ¬ a < a := by rw [UInt8.lt_iff_toNat_lt]; omega
theorem u8_trans {a b c : UInt8} (h : a < b) (k : b < c) : a < c := by rw [UInt8.lt_iff_toNat_lt] at *; omega
theorem lt_irr : ∀ l : List UInt8, ¬ l < l
  | [], h => by simp at h
  | a :: l, h => by
    rw [List.cons_lt_cons_iff] at h
    rcases h with h | h
    · exact u8_irrefl a h
    · exact lt_irr l h.2
theorem lt_tr : ∀ {a b c : List UInt8}, a < b → b < c → a < c
  | _, [], _, h, _ => by simp at h
  | _, _ :: _, [], _, h => by simp at h
  | [], _ :: _, _ :: _, _, _ => by simp
  | a :: l, b :: m, c :: n, h, k => by
    rw [List.cons_lt_cons_iff] at h k ⊢
    rcases h with h | ⟨h1, h2⟩
    · rcases k with k | ⟨k1, k2⟩
      · exact .inl (u8_trans h k)
      · subst k1; exact .inl h
    · subst h1
      rcases k with k | ⟨k1, k2⟩
      · exact .inl k
      · subst k1; exact .inr ⟨rfl, lt_tr h2 k2⟩
theorem lt_tri : ∀ a b : List UInt8, a < b ∨ a = b ∨ b < a
  | [], [] => .inr (.inl rfl)
  | [], _ :: _ => .inl (by simp)
  | _ :: _, [] => .inr (.inr (by simp))
  | a :: l, b :: m => by
    rw [List.cons_lt_cons_iff, List.cons_lt_cons_iff]
    rcases Nat.lt_trichotomy a.toNat b.toNat with h | h | h
    · exact .inl (.inl (UInt8.lt_iff_toNat_lt.2 h))
    · obtain rfl : a = b := UInt8.toNat_inj.1 h
      rcases lt_tri l m with k | k | k
      · exact .inl (.inr ⟨rfl, k⟩)
      · exact .inr (.inl (by rw [k]))
      · exact .inr (.inr (.inr ⟨rfl, k⟩))
    · exact .inr (.inr (.inl (UInt8.lt_iff_toNat_lt.2 h)))
theorem bless_irr (a : ByteArray) : bless a a = false := by rw [bless_eq]; exact decide_eq_false (lt_irr _)
theorem bless_tr {a b c : ByteArray} (h : bless a b = true) (k : bless b c = true) : bless a c = true := by
  rw [bless_eq, decide_eq_true_eq] at *; exact lt_tr h k
theorem bless_as {a b : ByteArray} (h : bless a b = true) : bless b a = false := by
  cases k : bless b a with
  | false => rfl
  | true => have := bless_tr h k; rw [bless_irr] at this; cases this
theorem bless_tri (a b : ByteArray) : bless a b = true ∨ a = b ∨ bless b a = true := by
  rw [bless_eq, bless_eq, decide_eq_true_eq, decide_eq_true_eq]
  rcases lt_tri a.data.toList b.data.toList with h | h | h
  · exact .inl h
  · exact .inr (.inl (ByteArray.ext (Array.ext' h)))
  · exact .inr (.inr h)

/-- A file that a disk may hold. -/
def FileGood (x : Fl) : Prop := (1 ≤ x.1.size ∧ x.1.size ≤ 8) ∧ x.2.1.size ≤ 20000 ∧ 0 ≤ x.2.2 ∧ x.2.2 ≤ x.2.1.size
instance (x : Fl) : Decidable (FileGood x) := by unfold FileGood; infer_instance
def Lower (x y : Fl) : Prop := bless x.1 y.1 = true
instance (x y : Fl) : Decidable (Lower x y) := by unfold Lower; infer_instance
def DiskGood (l : List Fl) : Prop := l.length ≤ 30 ∧ (∀ x ∈ l, FileGood x) ∧ l.Pairwise Lower
instance (l : List Fl) : Decidable (DiskGood l) := by unfold DiskGood; infer_instance
/-- The beginning of a disk. -/
def PartGood (l : List Fl) (k : Nat) : Prop := (∀ x ∈ l.take k, FileGood x) ∧ (l.take k).Pairwise Lower
theorem part_zero (l : List Fl) : PartGood l 0 := by unfold PartGood; simp
theorem part_next {l : List Fl} {k : Nat} {x : Fl} (hx : l[k]? = some x) (h : PartGood l k) (hf : FileGood x) (hp : ∀ y, 0 < k → l[k - 1]? = some y → bless y.1 x.1 = true) : PartGood l (k + 1) := by
  obtain ⟨h1, h2⟩ := h
  unfold PartGood
  rw [List.take_add_one, hx]
  refine ⟨fun y hy => ?_, ?_⟩
  · rcases List.mem_append.1 hy with hy | hy
    · exact h1 y hy
    · simp at hy; subst hy; exact hf
  · rw [List.pairwise_append]
    refine ⟨h2, by simp, fun a ha b hb => ?_⟩
    simp at hb
    subst hb
    have hkl := (List.getElem?_eq_some_iff.1 hx).1
    obtain ⟨j, hj, rfl⟩ := List.mem_iff_getElem.1 ha
    have hjk : j < k := by rw [List.length_take] at hj; omega
    have hl : l[k - 1]? = some l[k - 1] := List.getElem?_eq_getElem (by omega)
    have hlast := hp _ (by omega) hl
    by_cases he : j = k - 1
    · subst he
      show bless _ _ = true
      rw [List.getElem_take]
      exact hlast
    · have hj2 : k - 1 < (l.take k).length := by rw [List.length_take]; omega
      have h3 := List.pairwise_iff_getElem.1 h2 j (k - 1) hj hj2 (by omega)
      have h3' : bless (l.take k)[j].1 (l.take k)[k - 1].1 = true := h3
      rw [List.getElem_take (i := k - 1)] at h3'
      exact bless_tr h3' hlast
theorem good_all {l : List Fl} (h : PartGood l l.length) : decide (DiskGood l) = decide ((l.length : Int) ≤ 30) := by
  unfold PartGood at h
  rw [List.take_length] at h
  by_cases hl : l.length ≤ 30
  · rw [decide_eq_true (show DiskGood l from ⟨hl, h.1, h.2⟩), decide_eq_true (by omega)]
  · rw [decide_eq_false (fun h2 : DiskGood l => hl h2.1), decide_eq_false (by omega)]
theorem bad_file {l : List Fl} {k : Nat} {x : Fl} (hx : l[k]? = some x) (h : ¬ FileGood x) : decide (DiskGood l) = false :=
  decide_eq_false (fun h2 => h (h2.2.1 x (List.mem_of_getElem? hx)))
theorem bad_order {l : List Fl} {k : Nat} {x y : Fl} (hx : l[k]? = some x) (h0 : 0 < k) (hy : l[k - 1]? = some y) (h : bless y.1 x.1 = false) : decide (DiskGood l) = false := by
  refine decide_eq_false (fun h2 => ?_)
  obtain ⟨hk, rfl⟩ := List.getElem?_eq_some_iff.1 hx
  obtain ⟨hk', rfl⟩ := List.getElem?_eq_some_iff.1 hy
  have h3 : bless _ _ = true := List.pairwise_iff_getElem.1 h2.2.2 (k - 1) k hk' hk (by omega)
  rw [h3] at h
  cases h

/-- Where a file stands. -/
def posF (l : List Fl) (n : ByteArray) : Option Nat := l.findIdx? fun x => decide (x.1 = n)
def posV (l : List Fl) (n : ByteArray) : Int := match posF l n with
  | some k => k
  | none => -1
theorem posF_yes {l : List Fl} {n : ByteArray} {k : Nat} {x : Fl} (hx : l[k]? = some x) (h : ∀ y ∈ l.take k, y.1 ≠ n) (he : x.1 = n) : posF l n = some k := by
  unfold posF
  obtain ⟨hk, rfl⟩ := List.getElem?_eq_some_iff.1 hx
  rw [List.findIdx?_eq_some_iff_getElem]
  refine ⟨hk, by simpa using he, fun j hj => ?_⟩
  have hj' : j < (l.take k).length := by rw [List.length_take]; omega
  have := h _ (List.getElem_mem hj')
  rw [List.getElem_take] at this
  simpa using this
theorem posF_no {l : List Fl} {n : ByteArray} (h : ∀ y ∈ l, y.1 ≠ n) : posF l n = none := by
  unfold posF
  rw [List.findIdx?_eq_none_iff]
  intro x hx
  simpa using h x hx
theorem posF_some {l : List Fl} {n : ByteArray} {k : Nat} (h : posF l n = some k) : ∃ x, l[k]? = some x ∧ x.1 = n := by
  unfold posF at h
  rw [List.findIdx?_eq_some_iff_getElem] at h
  obtain ⟨hk, h1, _⟩ := h
  exact ⟨_, List.getElem?_eq_getElem hk, by simpa using h1⟩
theorem posF_none {l : List Fl} {n : ByteArray} (h : posF l n = none) : ∀ x ∈ l, x.1 ≠ n := by
  unfold posF at h
  rw [List.findIdx?_eq_none_iff] at h
  intro x hx
  simpa using h x hx
theorem fl_all {l : List Fl} {k : Nat} {x : Fl} {p : Fl → Prop} (hx : l[k]? = some x) (h : ∀ y ∈ l.take k, p y) (hp : p x) : ∀ y ∈ l.take (k + 1), p y := by
  intro y hy
  rw [List.take_add_one, hx] at hy
  rcases List.mem_append.1 hy with hy | hy
  · exact h y hy
  · simp at hy; subst hy; exact hp

/-- All bytes are durable. -/
def AllK (l : List Fl) : Prop := DiskGood l ∧ ∀ x ∈ l, x.2.2 = x.2.1.size
instance (l : List Fl) : Decidable (AllK l) := by unfold AllK; infer_instance

/-- A quiet call that leaves the world as it is. -/
theorem quiet_eq {P : Program} {f : FuncId} {args : Array Value} {w : World} {n : Nat} {v : Value}
    (h : Calls P f args (w.drewN n) fun e w' => e = .returned v ∧ w.drewN n = w') : Calls P f args (w.drewN n) fun e w'' => e = .returned v ∧ ∃ m, w'' = w.drewN m :=
  h.mono fun _ _ ⟨he, hm⟩ => ⟨he, n, hm.symm⟩

end Go.Proofs.Ytdecehecjlbbiaa

/-
  Plain law: what a power failure leaves; files in a row, one of them changed; rows of files appended. No program in sight.
-/
namespace Go.Proofs.Ytdecehecjlbbiaa
open Go.RowKit

theorem fileC_set {l : List Fl} {k : Nat} {x : Fl} (hx : l[k]? = some x) (y : Fl) (i : Nat) (hi : i < 3) (v : Value)
    (h0 : (if i = 0 then v else .string x.1) = .string y.1) (h1 : (if i = 1 then v else .string x.2.1) = .string y.2.1) (h2 : (if i = 2 then v else .int .i64 x.2.2) = .int .i64 y.2.2) :
    (fileC l).set (k * 3 + i) v = fileC (l.set k y) := by
  have hk := (List.getElem?_eq_some_iff.1 hx).1
  refine fileC_of (by rw [List.length_set, fileC_length, List.length_set]) (fun j z hz => ?_)
  by_cases hjk : j = k
  · subst hjk
    rw [List.getElem?_set_self hk] at hz
    cases hz
    obtain ⟨g0, g1, g2⟩ := fileC_get _ _ _ hx
    have hl : j * 3 + i < (fileC l).length := by rw [fileC_length]; omega
    rw [← h0, ← h1, ← h2]
    refine ⟨?_, ?_, ?_⟩
    · by_cases e : i = 0
      · subst e; rw [if_pos rfl, Nat.add_zero, List.getElem?_set_self (by omega)]
      · rw [if_neg e, List.getElem?_set_ne (by omega)]; exact g0
    · by_cases e : i = 1
      · subst e; rw [if_pos rfl, List.getElem?_set_self hl]
      · rw [if_neg e, List.getElem?_set_ne (by omega)]; exact g1
    · by_cases e : i = 2
      · subst e; rw [if_pos rfl, List.getElem?_set_self hl]
      · rw [if_neg e, List.getElem?_set_ne (by omega)]; exact g2
  · rw [List.getElem?_set_ne (by omega)] at hz
    obtain ⟨g0, g1, g2⟩ := fileC_get _ _ _ hz
    exact ⟨by rw [List.getElem?_set_ne (by omega)]; exact g0, by rw [List.getElem?_set_ne (by omega)]; exact g1, by rw [List.getElem?_set_ne (by omega)]; exact g2⟩
theorem fileC_name {l : List Fl} {k : Nat} {x : Fl} (hx : l[k]? = some x) (t : ByteArray) : (fileC l).set (k * 3) (.string t) = fileC (l.set k (t, x.2.1, x.2.2)) := fileC_set hx _ 0 (by omega) _ rfl rfl rfl
theorem fileC_text {l : List Fl} {k : Nat} {x : Fl} (hx : l[k]? = some x) (t : ByteArray) : (fileC l).set (k * 3 + 1) (.string t) = fileC (l.set k (x.1, t, x.2.2)) := fileC_set hx _ 1 (by omega) _ rfl rfl rfl
theorem fileC_kept {l : List Fl} {k : Nat} {x : Fl} (hx : l[k]? = some x) (n : Int) : (fileC l).set (k * 3 + 2) (.int .i64 n) = fileC (l.set k (x.1, x.2.1, n)) := fileC_set hx _ 2 (by omega) _ rfl rfl rfl
theorem fileC_append (l m : List Fl) : fileC (l ++ m) = fileC l ++ fileC m := by
  induction l with
  | nil => rfl
  | cons x l ih => simp only [List.cons_append, fileC, ih]
theorem fileC_one (l : List Fl) : ∀ u ∈ fileC l, u.oneCell' = true := by
  induction l with
  | nil => intro u hu; simp [fileC] at hu
  | cons x l ih =>
    intro u hu
    simp only [fileC, List.mem_cons] at hu
    rcases hu with rfl | rfl | rfl | hu
    · rfl
    · rfl
    · rfl
    · exact ih u hu
/-- A row that is read yields its cells. -/
theorem RdC.src {P : Program} {size : Nat} {t e' : TypeId} (ht : P.underlying t = some (.slice e')) {w : World} {ao : Option Addr} {n : Nat} {cs : List Value} (hl : cs.length = n * size) (hs : 0 < size) (h1 : ∀ u ∈ cs, u.oneCell' = true) (h : RdC w ao cs) (c : Nat) :
    Src P size t (.slice ao n c) n cs w := by
  cases ao with
  | none =>
    cases cs with
    | nil =>
      have : n = 0 := by
        rcases Nat.eq_zero_or_pos n with h0 | h0
        · exact h0
        · have := Nat.mul_pos h0 hs; simp at hl; omega
      subst this
      exact Src.ofNil w ht c
    | cons x r => obtain ⟨b, off, he, _⟩ := h 0 x rfl; cases he
  | some a =>
    refine Src.ofSlice _ ht _ _ _ _ hl (fun j u hu => ?_) h1
    obtain ⟨b, off, he, hc⟩ := h j u hu
    cases he
    rw [Addr.add_lit]
    exact hc
theorem RdF.src {P : Program} {t e' : TypeId} (ht : P.underlying t = some (.slice e')) {w : World} {ao : Option Addr} {l : List Fl} (h : RdF w ao l) (c : Nat) :
    Src P 3 t (.slice ao l.length c) l.length (fileC l) w := RdC.src ht (fileC_length l) (by omega) (fileC_one l) h c

/-- What is kept of a file. -/
def loseN (x : Fl) (m : Int) : Int := max (min m x.2.1.size) x.2.2
def loseF (x : Fl) (m : Int) : Fl := (x.1, x.2.1.extract 0 (loseN x m).toNat, loseN x m)
def noF : Fl := (ByteArray.empty, ByteArray.empty, 0)
def loseTo (l : List Fl) (q : List Int) (k : Nat) : List Fl := (List.range k).map fun i => loseF (l.getD i noF) (q.getD i 0)
def loseL (l : List Fl) (q : List Int) : List Fl := loseTo l q l.length
theorem loseTo_len (l : List Fl) (q : List Int) (k : Nat) : (loseTo l q k).length = k := by simp [loseTo]
theorem loseTo_next {l : List Fl} {q : List Int} {k : Nat} {x : Fl} (hx : l[k]? = some x) : loseTo l q (k + 1) = loseTo l q k ++ [loseF x (q.getD k 0)] := by
  unfold loseTo
  rw [List.range_succ, List.map_append, List.map_singleton, List.getD_eq_getElem?_getD (l := l), hx]
  rfl
/-- The first k are done. -/
def loseMid (l : List Fl) (q : List Int) (k : Nat) : List Fl := loseTo l q k ++ l.drop k
theorem loseMid_zero (l : List Fl) (q : List Int) : loseMid l q 0 = l := by simp [loseMid, loseTo]
theorem loseMid_all (l : List Fl) (q : List Int) : loseMid l q l.length = loseL l q := by simp [loseMid, loseL]
theorem loseMid_len {l : List Fl} {q : List Int} {k : Nat} (hk : k ≤ l.length) : (loseMid l q k).length = l.length := by
  unfold loseMid; rw [List.length_append, loseTo_len, List.length_drop]; omega
theorem loseMid_at {l : List Fl} {q : List Int} {k : Nat} {x : Fl} (hx : l[k]? = some x) : (loseMid l q k)[k]? = some x := by
  unfold loseMid
  rw [List.getElem?_append_right (by rw [loseTo_len]; exact Nat.le_refl _), loseTo_len, Nat.sub_self, List.getElem?_drop, Nat.add_zero, hx]
theorem loseMid_next {l : List Fl} {q : List Int} {k : Nat} {x : Fl} (hx : l[k]? = some x) : loseMid l q (k + 1) = (loseMid l q k).set k (loseF x (q.getD k 0)) := by
  have hk := (List.getElem?_eq_some_iff.1 hx).1
  unfold loseMid
  rw [List.set_append_right _ _ (by rw [loseTo_len]; exact Nat.le_refl _), loseTo_len, Nat.sub_self, loseTo_next hx, List.append_assoc]
  congr 1
  obtain ⟨_, rfl⟩ := List.getElem?_eq_some_iff.1 hx
  rw [← List.getElem_cons_drop hk]
  rfl
theorem loseN_bound {x : Fl} (h : 0 ≤ x.2.2 ∧ x.2.2 ≤ x.2.1.size) (m : Int) : x.2.2 ≤ loseN x m ∧ loseN x m ≤ x.2.1.size ∧ 0 ≤ loseN x m := by
  unfold loseN; omega
/-- The two results. -/
def loseV (l : List Fl) (q : List Int) : List Fl × Bool := if DiskGood l then (loseL l q, true) else ([], false)
theorem loseV_yes {l : List Fl} {q : List Int} (h : DiskGood l) : loseV l q = (loseL l q, true) := if_pos h
theorem loseV_no {l : List Fl} {q : List Int} (h : ¬ DiskGood l) : loseV l q = ([], false) := if_neg h

end Go.Proofs.Ytdecehecjlbbiaa

/-
  Rows of operations on disks (a kind, a name, a text, another name): their cells, their size, their marks. No program in sight.
-/
namespace Go.Proofs.Ytdecehecjlbbiaa
open Go.RowKit

/-- An operation. -/
abbrev Ac := Int × ByteArray × ByteArray × ByteArray
def actC : List Ac → List Value
  | [] => []
  | x :: l => .int .i64 x.1 :: .string x.2.1 :: .string x.2.2.1 :: .string x.2.2.2 :: actC l
theorem actC_length (l : List Ac) : (actC l).length = l.length * 4 := by
  induction l with
  | nil => rfl
  | cons x l ih => simp only [actC, List.length_cons, ih]; omega
/-- The four cells of an operation. -/
def ActIs (cs : List Value) (k : Nat) (x : Ac) : Prop :=
  cs[k * 4]? = some (.int .i64 x.1) ∧ cs[k * 4 + 1]? = some (.string x.2.1) ∧ cs[k * 4 + 2]? = some (.string x.2.2.1) ∧ cs[k * 4 + 3]? = some (.string x.2.2.2)
theorem actC_get (l : List Ac) (k : Nat) (x : Ac) (h : l[k]? = some x) : ActIs (actC l) k x := by
  unfold ActIs
  induction l generalizing k with
  | nil => simp at h
  | cons y l ih =>
    cases k with
    | zero => simp at h; subst h; exact ⟨rfl, rfl, rfl, rfl⟩
    | succ k =>
      rw [List.getElem?_cons_succ] at h
      obtain ⟨h1, h2, h3, h4⟩ := ih k h
      refine ⟨?_, ?_, ?_, ?_⟩
      · rw [show (k + 1) * 4 = k * 4 + 1 + 1 + 1 + 1 by omega]; exact h1
      · rw [show (k + 1) * 4 + 1 = (k * 4 + 1) + 1 + 1 + 1 + 1 by omega]; exact h2
      · rw [show (k + 1) * 4 + 2 = (k * 4 + 2) + 1 + 1 + 1 + 1 by omega]; exact h3
      · rw [show (k + 1) * 4 + 3 = (k * 4 + 3) + 1 + 1 + 1 + 1 by omega]; exact h4
theorem actC_of {cs : List Value} {l : List Ac} (hl : cs.length = l.length * 4) (h : ∀ k x, l[k]? = some x → ActIs cs k x) : cs = actC l := by
  apply List.ext_getElem?
  intro j
  by_cases hj : j < l.length * 4
  · obtain ⟨x, hx⟩ : ∃ x, l[j / 4]? = some x := ⟨_, List.getElem?_eq_getElem (by omega)⟩
    obtain ⟨h1, h2, h3, h4⟩ := h _ _ hx
    obtain ⟨g1, g2, g3, g4⟩ := actC_get _ _ _ hx
    rcases (show j = j / 4 * 4 ∨ j = j / 4 * 4 + 1 ∨ j = j / 4 * 4 + 2 ∨ j = j / 4 * 4 + 3 by omega) with e | e | e | e
    · rw [e, h1, g1]
    · rw [e, h2, g2]
    · rw [e, h3, g3]
    · rw [e, h4, g4]
  · rw [List.getElem?_eq_none (by omega), List.getElem?_eq_none (by rw [actC_length]; omega)]
theorem actC_one (l : List Ac) : ∀ u ∈ actC l, u.oneCell' = true := by
  induction l with
  | nil => intro u hu; simp [actC] at hu
  | cons x l ih =>
    intro u hu
    simp only [actC, List.mem_cons] at hu
    rcases hu with rfl | rfl | rfl | rfl | hu
    · rfl
    · rfl
    · rfl
    · rfl
    · exact ih u hu
theorem actC_append (l m : List Ac) : actC (l ++ m) = actC l ++ actC m := by
  induction l with
  | nil => rfl
  | cons x l ih => simp only [List.cons_append, actC, ih]
def RdA (w : World) (ao : Option Addr) (l : List Ac) : Prop := RdC w ao (actC l)
def OwnA (w : World) (B : Nat) (v : Value) (l : List Ac) : Prop := Own w B 4 v l.length (actC l)
theorem RdA.below {w w' : World} {ao : Option Addr} {l : List Ac} {C : Nat} (h : RdA w ao l) (hb : Below C w w') (hC : w.heap.size ≤ C) : RdA w' ao l := RdC.below h hb hC
/-- The four cells of an operation in memory. -/
def ActAt (w : World) (b o : Nat) (x : Ac) : Prop :=
  w.cell? ⟨b, o, none⟩ = some (.int .i64 x.1) ∧ w.cell? ⟨b, o + 1, none⟩ = some (.string x.2.1) ∧ w.cell? ⟨b, o + 2, none⟩ = some (.string x.2.2.1) ∧ w.cell? ⟨b, o + 3, none⟩ = some (.string x.2.2.2)
theorem RdA.at_ {w : World} {ao : Option Addr} {l : List Ac} (h : RdA w ao l) (k : Nat) (x : Ac) (hx : l[k]? = some x) :
    ∃ b off, ao = some ⟨b, off, none⟩ ∧ w.cell? ⟨b, off + k * 4, none⟩ = some (.int .i64 x.1) ∧ w.cell? ⟨b, off + k * 4 + 1, none⟩ = some (.string x.2.1) ∧ w.cell? ⟨b, off + k * 4 + 2, none⟩ = some (.string x.2.2.1) ∧ w.cell? ⟨b, off + k * 4 + 3, none⟩ = some (.string x.2.2.2) := by
  obtain ⟨h1, h2, h3, h4⟩ := actC_get l k x hx
  obtain ⟨b, off, e, c1⟩ := h _ _ h1
  obtain ⟨b', off', e', c2⟩ := h _ _ h2
  obtain ⟨b2, off2, e2, c3⟩ := h _ _ h3
  obtain ⟨b3, off3, e3, c4⟩ := h _ _ h4
  rw [e] at e' e2 e3
  cases e'
  cases e2
  cases e3
  exact ⟨b, off, e, c1, c2, c3, c4⟩
theorem OwnA.rd {w : World} {B : Nat} {v : Value} {l : List Ac} (h : OwnA w B v l) : ∃ ao cap, v = .slice ao l.length cap ∧ RdA w ao l := Own.rdC h
theorem OwnA.below {w w' : World} {B C : Nat} {v : Value} {l : List Ac} (h : OwnA w B v l) (hb : Below C w w') (hC : w.heap.size ≤ C) : OwnA w' B v l := Own.below h hb hC

/-- The bytes of operations. -/
def acLen (x : Ac) : Nat := x.2.1.size + x.2.2.1.size + x.2.2.2.size
def sumAc : List Ac → Nat
  | [] => 0
  | x :: l => acLen x + sumAc l
theorem sumAc_step {l : List Ac} {k : Nat} {x : Ac} (hx : l[k]? = some x) : sumAc (l.take (k + 1)) = sumAc (l.take k) + acLen x := by
  induction l generalizing k with
  | nil => simp at hx
  | cons y l ih =>
    cases k with
    | zero => simp at hx; subst hx; simp [sumAc]
    | succ k => rw [List.getElem?_cons_succ] at hx; simp only [List.take_succ_cons, sumAc, ih hx]; omega
theorem sumAc_le {l : List Ac} (k : Nat) : sumAc (l.take k) ≤ sumAc l := by
  induction l generalizing k with
  | nil => simp [sumAc]
  | cons y l ih =>
    cases k with
    | zero => simp [sumAc]
    | succ k => have := ih k; simp only [List.take_succ_cons, sumAc]; omega
theorem sumAc_mem {l : List Ac} {x : Ac} (h : x ∈ l) : acLen x ≤ sumAc l := by
  induction l with
  | nil => cases h
  | cons y l ih =>
    rcases List.mem_cons.1 h with rfl | h
    · simp only [sumAc]; omega
    · have := ih h; simp only [sumAc]; omega
def szAc (l : List Ac) (left : Int) : Int := if (l.length : Int) + sumAc l ≤ left then left - l.length - sumAc l else -1
theorem szAc_yes {l : List Ac} {left : Int} (h : (l.length : Int) + sumAc l ≤ left) : szAc l left = left - l.length - sumAc l := if_pos h
theorem szAc_no {l : List Ac} {left : Int} (h : ¬ (l.length : Int) + sumAc l ≤ left) : szAc l left = -1 := if_neg h
def AcSmall (x : Ac) (m : Nat) : Prop := x.2.1.size ≤ m ∧ x.2.2.1.size ≤ m ∧ x.2.2.2.size ≤ m

/-- The marks on operations from k on. -/
def markA (k : Nat) : Ac := ((k : Int), markB (k + 1), markB (k + 2), markB (k + 3))
def marksA (k : Nat) : Nat → List Ac
  | 0 => []
  | n + 1 => markA k :: marksA (k + 4) n
theorem marksA_length (k n : Nat) : (marksA k n).length = n := by
  induction n generalizing k with
  | zero => rfl
  | succ n ih => simp [marksA, ih]
theorem marksA_get (k n j : Nat) (h : j < n) : (marksA k n)[j]? = some (markA (k + 4 * j)) := by
  induction n generalizing k j with
  | zero => omega
  | succ n ih =>
    cases j with
    | zero => simp [marksA]
    | succ j =>
      simp only [marksA, List.getElem?_cons_succ]
      rw [ih (k + 4) j (by omega), show k + 4 + 4 * j = k + 4 * (j + 1) by omega]
theorem marksA_eq {cs : List Value} {K N : Nat} (hl : cs.length = N * 4) (h : ∀ j, j < N → ActIs cs j (markA (K + 4 * j))) : cs = actC (marksA K N) := by
  refine actC_of (by rw [marksA_length]; exact hl) (fun k x hx => ?_)
  have hk : k < N := by have := (List.getElem?_eq_some_iff.1 hx).1; rw [marksA_length] at this; exact this
  rw [marksA_get K N k hk] at hx
  cases hx
  exact h k hk
/-- One operation more is in its cells. -/
theorem ActIs.set4 {cs : List Value} {k n : Nat} (hl : cs.length = n * 4) (hk : k < n) (x : Ac) :
    ActIs ((((cs.set (k * 4) (.int .i64 x.1)).set (k * 4 + 1) (.string x.2.1)).set (k * 4 + 2) (.string x.2.2.1)).set (k * 4 + 3) (.string x.2.2.2)) k x := by
  unfold ActIs
  refine ⟨?_, ?_, ?_, ?_⟩
  · rw [List.getElem?_set_ne (by omega), List.getElem?_set_ne (by omega), List.getElem?_set_ne (by omega), List.getElem?_set_self (by omega)]
  · rw [List.getElem?_set_ne (by omega), List.getElem?_set_ne (by omega), List.getElem?_set_self (by rw [List.length_set]; omega)]
  · rw [List.getElem?_set_ne (by omega), List.getElem?_set_self (by rw [List.length_set, List.length_set]; omega)]
  · rw [List.getElem?_set_self (by rw [List.length_set, List.length_set, List.length_set]; omega)]
theorem ActIs.keep4 {cs : List Value} {k j : Nat} {y : Ac} (h : ActIs cs j y) (hj : j < k) (x : Ac) :
    ActIs ((((cs.set (k * 4) (.int .i64 x.1)).set (k * 4 + 1) (.string x.2.1)).set (k * 4 + 2) (.string x.2.2.1)).set (k * 4 + 3) (.string x.2.2.2)) j y := by
  obtain ⟨h1, h2, h3, h4⟩ := h
  unfold ActIs
  refine ⟨?_, ?_, ?_, ?_⟩
  · rw [List.getElem?_set_ne (by omega), List.getElem?_set_ne (by omega), List.getElem?_set_ne (by omega), List.getElem?_set_ne (by omega)]; exact h1
  · rw [List.getElem?_set_ne (by omega), List.getElem?_set_ne (by omega), List.getElem?_set_ne (by omega), List.getElem?_set_ne (by omega)]; exact h2
  · rw [List.getElem?_set_ne (by omega), List.getElem?_set_ne (by omega), List.getElem?_set_ne (by omega), List.getElem?_set_ne (by omega)]; exact h3
  · rw [List.getElem?_set_ne (by omega), List.getElem?_set_ne (by omega), List.getElem?_set_ne (by omega), List.getElem?_set_ne (by omega)]; exact h4
theorem ActIs.grow4 {l : List Ac} {cs : List Value} {k n : Nat} {x : Ac} (hx : l[k]? = some x) (hl : cs.length = n * 4) (hk : k < n) (h : ∀ j y, j < k → l[j]? = some y → ActIs cs j y) :
    ∀ j y, j < k + 1 → l[j]? = some y → ActIs ((((cs.set (k * 4) (.int .i64 x.1)).set (k * 4 + 1) (.string x.2.1)).set (k * 4 + 2) (.string x.2.2.1)).set (k * 4 + 3) (.string x.2.2.2)) j y := by
  intro j y hj hy
  by_cases hjk : j = k
  · subst hjk
    rw [hx] at hy
    cases hy
    exact ActIs.set4 hl hk x
  · exact (h j y (by omega) hy).keep4 (by omega) x
theorem ac_step {l1 l2 : List Ac} {k : Nat} {x y : Ac} (hx : l1[k]? = some x) (hy : l2[k]? = some y) (h : x = y) (ht : l1.take k = l2.take k) : l1.take (k + 1) = l2.take (k + 1) := by
  rw [List.take_add_one, List.take_add_one, hx, hy, h, ht]

end Go.Proofs.Ytdecehecjlbbiaa

/-
  Plain law: what an operation makes of a disk, as the reference tells it and as the program reaches it. No program in sight.
-/
namespace Go.Proofs.Ytdecehecjlbbiaa
open Go.RowKit

def NameGood (s : ByteArray) : Prop := 1 ≤ s.size ∧ s.size ≤ 8
instance (s : ByteArray) : Decidable (NameGood s) := by unfold NameGood; infer_instance

/-- A file in its place. -/
def putL (l : List Fl) (f : Fl) : List Fl := l.filter (fun x => bless x.1 f.1) ++ f :: l.filter (fun x => bless f.1 x.1)
/-- All files but one. -/
def outL (l : List Fl) (n : ByteArray) : List Fl := l.filter fun x => decide (x.1 ≠ n)
theorem filter_step {p : Fl → Bool} {l : List Fl} {k : Nat} {x : Fl} (hx : l[k]? = some x) : (l.take (k + 1)).filter p = (l.take k).filter p ++ if p x then [x] else [] := by
  rw [List.take_add_one, hx, List.filter_append]
  congr 1
  simp only [Option.toList_some, List.filter_cons, List.filter_nil]
theorem filter_all {p : Fl → Bool} {l : List Fl} : (l.take l.length).filter p = l.filter p := by rw [List.take_length]

/-- An operation of the right form. -/
def ActGood (a : Ac) : Prop := NameGood a.2.1 ∧ (a.1 ≠ 3 → a.2.2.2.data.toList = []) ∧ (a.1 ≠ 1 → a.2.2.1.data.toList = [])
instance (a : Ac) : Decidable (ActGood a) := by unfold ActGood; infer_instance
/-- The file that an operation speaks of. -/
def fileOf (l : List Fl) (n : ByteArray) : Fl := match posF l n with
  | some k => l.getD k (n, ByteArray.empty, 0)
  | none => (n, ⟨#[]⟩, 0)
/-- The disk behind an operation, ahead of the last test. -/
def doTo (l : List Fl) (a : Ac) : Option (List Fl) :=
  if a.1 = 1 then some (putL l (a.2.1, (fileOf l a.2.1).2.1 ++ a.2.2.1, (fileOf l a.2.1).2.2))
  else match posF l a.2.1 with
    | none => none
    | some _ =>
      if a.1 = 2 then some (putL l (a.2.1, (fileOf l a.2.1).2.1, ((fileOf l a.2.1).2.1.size : Int)))
      else if a.1 = 3 then (if (fileOf l a.2.1).2.2 < ((fileOf l a.2.1).2.1.size : Int) ∨ a.2.2.2 = a.2.1 ∨ ¬ NameGood a.2.2.2 then none else some (putL (outL l a.2.1) (a.2.2.2, (fileOf l a.2.1).2.1, (fileOf l a.2.1).2.2)))
      else if a.1 = 4 then some (outL l a.2.1) else none
def doO (l : List Fl) (a : Ac) : Option (List Fl) :=
  if DiskGood l ∧ ActGood a then (match doTo l a with
    | none => none
    | some r => if DiskGood r then some r else none) else none
/-- The two results. -/
def doV (l : List Fl) (a : Ac) : List Fl × Bool := match doO l a with
  | none => ([], false)
  | some r => (r, true)
theorem doV_bad {l : List Fl} {a : Ac} (h : ¬ (DiskGood l ∧ ActGood a)) : doV l a = ([], false) := by unfold doV doO; rw [if_neg h]
theorem doV_none {l : List Fl} {a : Ac} (h : doTo l a = none) : doV l a = ([], false) := by
  unfold doV doO; rw [h]; split <;> simp_all
theorem doV_some {l r : List Fl} {a : Ac} (h : DiskGood l ∧ ActGood a) (hr : doTo l a = some r) (hg : DiskGood r) : doV l a = (r, true) := by
  unfold doV doO; rw [if_pos h, hr]; simp only [if_pos hg]
theorem doV_over {l r : List Fl} {a : Ac} (h : DiskGood l ∧ ActGood a) (hr : doTo l a = some r) (hg : ¬ DiskGood r) : doV l a = ([], false) := by
  unfold doV doO; rw [if_pos h, hr]; simp only [if_neg hg]

/-! ### Order and places -/

theorem name_ext {a b : ByteArray} (h1 : bless a b = false) (h2 : bless b a = false) : a = b := by
  rcases bless_tri a b with h | h | h
  · rw [h] at h1; cases h1
  · exact h
  · rw [h] at h2; cases h2
theorem filter_parts (l : List Fl) (f : ByteArray) : (l.filter (fun x => bless x.1 f) ++ l.filter (fun x => bless f x.1)).Perm (outL l f) := by
  induction l with
  | nil => exact List.Perm.refl _
  | cons y l ih =>
    unfold outL at ih ⊢
    simp only [List.filter_cons]
    rcases bless_tri y.1 f with h | h | h
    · have hne : y.1 ≠ f := by intro e; rw [e, bless_irr] at h; cases h
      rw [h, bless_as h, decide_eq_true hne]
      simp only [if_true, if_false, Bool.false_eq_true, List.cons_append]
      exact List.Perm.cons _ ih
    · rw [h, bless_irr, decide_eq_false (by simp)]
      simpa using ih
    · have hne : y.1 ≠ f := by intro e; rw [e, bless_irr] at h; cases h
      rw [h, bless_as h, decide_eq_true hne]
      simp only [if_true, if_false, Bool.false_eq_true]
      exact (List.perm_middle).trans (List.Perm.cons _ ih)
theorem putL_perm (l : List Fl) (f : Fl) : (putL l f).Perm (f :: outL l f.1) := (List.perm_middle).trans (List.Perm.cons _ (filter_parts l f.1))
theorem outL_none {l : List Fl} {n : ByteArray} (h : posF l n = none) : outL l n = l := by
  unfold outL
  rw [List.filter_eq_self]
  intro x hx
  exact decide_eq_true (posF_none h x hx)
theorem lower_ne {l : List Fl} (h : l.Pairwise Lower) {j k : Nat} {x y : Fl} (hx : l[j]? = some x) (hy : l[k]? = some y) (hne : j ≠ k) : x.1 ≠ y.1 := by
  intro e
  obtain ⟨hj, rfl⟩ := List.getElem?_eq_some_iff.1 hx
  obtain ⟨hk, rfl⟩ := List.getElem?_eq_some_iff.1 hy
  rcases Nat.lt_or_gt_of_ne hne with h1 | h1
  · have h2 : bless _ _ = true := List.pairwise_iff_getElem.1 h j k hj hk h1
    rw [e, bless_irr] at h2; cases h2
  · have h2 : bless _ _ = true := List.pairwise_iff_getElem.1 h k j hk hj h1
    rw [e, bless_irr] at h2; cases h2
theorem outL_some : ∀ {l : List Fl} (_ : l.Pairwise Lower) {k : Nat} {x : Fl} (_ : l[k]? = some x), outL l x.1 = l.eraseIdx k
  | [], _, k, x, hx => by simp at hx
  | y :: l, h, 0, x, hx => by
    simp at hx
    subst hx
    unfold outL
    rw [List.filter_cons, decide_eq_false (by simp), List.eraseIdx_zero]
    simp only [Bool.false_eq_true, if_false, List.tail_cons]
    rw [List.filter_eq_self]
    intro z hz
    have h2 : bless y.1 z.1 = true := (List.pairwise_cons.1 h).1 z hz
    refine decide_eq_true (fun e => ?_)
    rw [e, bless_irr] at h2; cases h2
  | y :: l, h, k + 1, x, hx => by
    rw [List.getElem?_cons_succ] at hx
    have hm := List.mem_of_getElem? hx
    have h2 : bless y.1 x.1 = true := (List.pairwise_cons.1 h).1 x hm
    have hne : y.1 ≠ x.1 := by intro e; rw [e, bless_irr] at h2; cases h2
    have ih := outL_some (List.pairwise_cons.1 h).2 hx
    unfold outL at ih ⊢
    rw [List.filter_cons, decide_eq_true hne, List.eraseIdx_cons_succ]
    simp only [if_true]
    rw [ih]
theorem set_perm : ∀ {l : List Fl} {k : Nat} (_ : k < l.length) (f : Fl), (l.set k f).Perm (f :: l.eraseIdx k)
  | [], k, hk, f => by simp at hk
  | y :: l, 0, _, f => by simp
  | y :: l, k + 1, hk, f => by
    rw [List.set_cons_succ, List.eraseIdx_cons_succ]
    exact (List.Perm.cons y (set_perm (by simpa using hk) f)).trans (List.Perm.swap f y _)
/-- The file at a place is changed, its name stays: the files are those of the reference. -/
theorem put_same {l : List Fl} (h : l.Pairwise Lower) {k : Nat} {x f : Fl} (hx : l[k]? = some x) (he : f.1 = x.1) : (l.set k f).Perm (putL l f) := by
  refine (set_perm (List.getElem?_eq_some_iff.1 hx).1 f).trans ((putL_perm l f).trans ?_).symm
  rw [he, outL_some h hx]
theorem put_new {l : List Fl} {f : Fl} (h : posF l f.1 = none) : (l ++ [f]).Perm (putL l f) := by
  refine (List.perm_append_comm (l₁ := l) (l₂ := [f])).trans ((putL_perm l f).trans ?_).symm
  rw [outL_none h]; exact List.Perm.refl _

/-! ### Sorted lists -/

theorem filter_lower {l : List Fl} (h : l.Pairwise Lower) (p : Fl → Bool) : (l.filter p).Pairwise Lower := h.filter p
theorem putL_lower {l : List Fl} (h : l.Pairwise Lower) (f : Fl) : (putL l f).Pairwise Lower := by
  unfold putL
  rw [List.pairwise_append]
  refine ⟨filter_lower h _, ?_, ?_⟩
  · rw [List.pairwise_cons]
    exact ⟨fun y hy => (List.mem_filter.1 hy).2, filter_lower h _⟩
  · intro a ha b hb
    have h1 : bless a.1 f.1 = true := (List.mem_filter.1 ha).2
    rcases List.mem_cons.1 hb with rfl | hb
    · exact h1
    · exact bless_tr h1 (List.mem_filter.1 hb).2
theorem outL_lower {l : List Fl} (h : l.Pairwise Lower) (n : ByteArray) : (outL l n).Pairwise Lower := filter_lower h _
theorem lower_unique : ∀ {l m : List Fl}, l.Pairwise Lower → m.Pairwise Lower → l.Perm m → l = m
  | [], m, _, _, h => by simpa using h.symm.eq_nil
  | x :: l, [], _, _, h => by have := h.length_eq; simp at this
  | x :: l, y :: m, hl, hm, h => by
    rw [List.pairwise_cons] at hl hm
    have hxy : x = y := by
      have h1 : x ∈ y :: m := h.mem_iff.1 (List.mem_cons_self ..)
      have h2 : y ∈ x :: l := h.mem_iff.2 (List.mem_cons_self ..)
      rcases List.mem_cons.1 h1 with e | e1
      · exact e
      · rcases List.mem_cons.1 h2 with e | e2
        · exact e.symm
        · have g1 : bless y.1 x.1 = true := hm.1 x e1
          have g2 : bless x.1 y.1 = true := hl.1 y e2
          rw [bless_as g1] at g2; cases g2
    subst hxy
    rw [lower_unique hl.2 hm.2 (List.perm_cons x |>.1 h)]
/-- What the library's sorting leaves, where the files' names differ. -/
theorem sorted_lower {l m : List Fl} (hm : m.Pairwise Lower) (hp : l.Perm m) (hs : l.Pairwise fun x y => bless y.1 x.1 = false) : l = m := by
  refine lower_unique ?_ hm hp
  have hd : l.Pairwise fun x y => x.1 ≠ y.1 := by
    have h1 : m.Pairwise fun x y => x.1 ≠ y.1 := hm.imp (fun {a b} (h : bless a.1 b.1 = true) e => by rw [e, bless_irr] at h; cases h)
    exact hp.symm.pairwise h1 (fun {a b} h e => h e.symm)
  refine (hs.and hd).imp (fun {a b} h => ?_)
  show bless a.1 b.1 = true
  rcases bless_tri a.1 b.1 with g | g | g
  · exact g
  · exact absurd g h.2
  · rw [h.1] at g; cases g

/-! ### The program's lists -/

theorem fileOf_some {l : List Fl} {n : ByteArray} {k : Nat} {x : Fl} (h : posF l n = some k) (hx : l[k]? = some x) : fileOf l n = x := by
  unfold fileOf; rw [h]; simp only; rw [List.getD_eq_getElem?_getD, hx]; rfl
theorem fileOf_none {l : List Fl} {n : ByteArray} (h : posF l n = none) : fileOf l n = (n, ⟨#[]⟩, 0) := by unfold fileOf; rw [h]
theorem doTo_add {l : List Fl} {a : Ac} (h : a.1 = 1) : doTo l a = some (putL l (a.2.1, (fileOf l a.2.1).2.1 ++ a.2.2.1, (fileOf l a.2.1).2.2)) := by unfold doTo; rw [if_pos h]
theorem doTo_none {l : List Fl} {a : Ac} (h : a.1 ≠ 1) (hp : posF l a.2.1 = none) : doTo l a = none := by unfold doTo; rw [if_neg h, hp]
theorem doTo_keep {l : List Fl} {a : Ac} {k : Nat} (h : a.1 = 2) (hp : posF l a.2.1 = some k) : doTo l a = some (putL l (a.2.1, (fileOf l a.2.1).2.1, ((fileOf l a.2.1).2.1.size : Int))) := by
  unfold doTo; rw [if_neg (by omega), hp]; simp only [if_pos h]
theorem doTo_move {l : List Fl} {a : Ac} {k : Nat} (h : a.1 = 3) (hp : posF l a.2.1 = some k) (hn : ¬ ((fileOf l a.2.1).2.2 < ((fileOf l a.2.1).2.1.size : Int) ∨ a.2.2.2 = a.2.1 ∨ ¬ NameGood a.2.2.2)) : doTo l a = some (putL (outL l a.2.1) (a.2.2.2, (fileOf l a.2.1).2.1, (fileOf l a.2.1).2.2)) := by
  unfold doTo; rw [if_neg (by omega), hp]; simp only [if_neg (show ¬ a.1 = 2 by omega), if_pos h, if_neg hn]
theorem doTo_stay {l : List Fl} {a : Ac} (h : a.1 = 3) (hn : (fileOf l a.2.1).2.2 < ((fileOf l a.2.1).2.1.size : Int) ∨ a.2.2.2 = a.2.1 ∨ ¬ NameGood a.2.2.2) : doTo l a = none := by
  unfold doTo; rw [if_neg (by omega)]
  split
  · rfl
  · rw [if_neg (by omega), if_pos h, if_pos hn]
theorem doTo_drop {l : List Fl} {a : Ac} {k : Nat} (h : a.1 = 4) (hp : posF l a.2.1 = some k) : doTo l a = some (outL l a.2.1) := by
  unfold doTo; rw [if_neg (by omega), hp]; simp only [if_neg (show ¬ a.1 = 2 by omega), if_neg (show ¬ a.1 = 3 by omega), if_pos h]
theorem doTo_other {l : List Fl} {a : Ac} (h : ¬ (1 ≤ a.1 ∧ a.1 ≤ 4)) : doTo l a = none := by
  unfold doTo; rw [if_neg (by omega)]
  split
  · rfl
  · rw [if_neg (by omega), if_neg (by omega), if_neg (by omega)]

theorem posF_at {l : List Fl} (h : l.Pairwise Lower) {k : Nat} {x : Fl} (hx : l[k]? = some x) : posF l x.1 = some k := by
  refine posF_yes hx (fun y hy => ?_) rfl
  obtain ⟨j, hj, rfl⟩ := List.mem_iff_getElem.1 hy
  rw [List.length_take] at hj
  rw [List.getElem_take]
  exact lower_ne h (List.getElem?_eq_getElem (by omega)) hx (by omega)
/-- Moving: the file of the other name is gone, the file's name is set. -/
theorem move_perm {l : List Fl} (h : l.Pairwise Lower) {k : Nat} {x : Fl} {t : ByteArray} (hx : l[k]? = some x) (hne : t ≠ x.1) {l' : List Fl} (hl' : l' = outL l t) {j : Nat} (hj : posF l' x.1 = some j) :
    (l'.set j (t, x.2.1, x.2.2)).Perm (putL (outL l x.1) (t, x.2.1, x.2.2)) ∧ l'[j]? = some x := by
  subst hl'
  have hlo := outL_lower h t
  obtain ⟨y, hy, he⟩ := posF_some hj
  have hyx : y = x := by
    have hm : y ∈ l := (List.mem_filter.1 (List.mem_of_getElem? hy)).1
    obtain ⟨i, hi, rfl⟩ := List.mem_iff_getElem.1 hm
    by_cases hik : i = k
    · subst hik
      rw [List.getElem?_eq_getElem hi] at hx
      cases hx; rfl
    · exact absurd he (lower_ne h (List.getElem?_eq_getElem hi) hx hik)
  subst hyx
  refine ⟨?_, hy⟩
  refine (set_perm (List.getElem?_eq_some_iff.1 hy).1 _).trans ((putL_perm _ _).trans ?_).symm
  refine List.Perm.cons _ ?_
  rw [← outL_some hlo hy]
  unfold outL
  rw [List.filter_filter, List.filter_filter]
  refine List.Perm.of_eq (List.filter_congr (fun z _ => ?_))
  exact Bool.and_comm _ _
theorem move_there {l : List Fl} {k : Nat} {x : Fl} {t : ByteArray} (hx : l[k]? = some x) (hne : t ≠ x.1) : ∃ j, posF (outL l t) x.1 = some j := by
  cases h : posF (outL l t) x.1 with
  | some j => exact ⟨j, rfl⟩
  | none =>
    have := posF_none h x (List.mem_filter.2 ⟨List.mem_of_getElem? hx, decide_eq_true (fun e => hne e.symm)⟩)
    exact absurd rfl this
theorem outL_at {l : List Fl} (h : l.Pairwise Lower) {n : ByteArray} {k : Nat} (hp : posF l n = some k) : outL l n = l.eraseIdx k := by
  obtain ⟨x, hx, rfl⟩ := posF_some hp
  exact outL_some h hx

end Go.Proofs.Ytdecehecjlbbiaa

/-
  Plain law: a power failure loses no durable byte, leaves a beginning of each file, and a second one loses nothing more. No program in sight.
-/
namespace Go.Proofs.Ytdecehecjlbbiaa
open Go.RowKit

theorem extract_len (s : ByteArray) (n : Nat) (h : n ≤ s.size) : (s.extract 0 n).size = n := by rw [ByteArray.size_extract]; omega
theorem loseL_at {l : List Fl} {q : List Int} {k : Nat} {x : Fl} (hx : l[k]? = some x) : (loseL l q)[k]? = some (loseF x (q.getD k 0)) := by
  have hk := (List.getElem?_eq_some_iff.1 hx).1
  unfold loseL loseTo
  rw [List.getElem?_map, List.getElem?_range hk, Option.map_some, List.getD_eq_getElem?_getD (l := l), hx]
  rfl
theorem loseL_len (l : List Fl) (q : List Int) : (loseL l q).length = l.length := loseTo_len _ _ _
theorem loseF_good {x : Fl} (h : FileGood x) (m : Int) : FileGood (loseF x m) ∧ (loseF x m).2.2 = (loseF x m).2.1.size := by
  have hb := loseN_bound h.2.2 m
  have hs := extract_len x.2.1 (loseN x m).toNat (by omega)
  unfold loseF FileGood
  simp only
  rw [hs]
  have h1 := h.1
  have h2 := h.2.1
  omega
theorem loseL_mem {l : List Fl} {q : List Int} {y : Fl} (h : y ∈ loseL l q) : ∃ x m, x ∈ l ∧ y = loseF x m := by
  obtain ⟨k, hk, rfl⟩ := List.mem_iff_getElem.1 h
  rw [loseL_len] at hk
  have h1 := loseL_at (q := q) (List.getElem?_eq_getElem hk)
  obtain ⟨_, e⟩ := List.getElem?_eq_some_iff.1 h1
  exact ⟨l[k], _, List.getElem_mem hk, e⟩
theorem loseL_kept {l : List Fl} (q : List Int) (h : DiskGood l) : AllK (loseL l q) := by
  refine ⟨⟨by rw [loseL_len]; exact h.1, fun y hy => ?_, ?_⟩, fun y hy => ?_⟩
  · obtain ⟨x, m, hx, rfl⟩ := loseL_mem hy
    exact (loseF_good (h.2.1 x hx) m).1
  · rw [List.pairwise_iff_getElem]
    intro i j hi hj hij
    rw [loseL_len] at hi hj
    have e1 := (List.getElem?_eq_some_iff.1 (loseL_at (q := q) (List.getElem?_eq_getElem hi))).2
    have e2 := (List.getElem?_eq_some_iff.1 (loseL_at (q := q) (List.getElem?_eq_getElem hj))).2
    rw [e1, e2]
    exact List.pairwise_iff_getElem.1 h.2.2 i j hi hj hij
  · obtain ⟨x, m, hx, rfl⟩ := loseL_mem hy
    exact (loseF_good (h.2.1 x hx) m).2
theorem loseF_same {x : Fl} (h : x.2.2 = x.2.1.size) (m : Int) : loseF x m = x := by
  obtain ⟨a, b, n⟩ := x
  simp only at h
  subst h
  have e : loseN (a, b, (b.size : Int)) m = (b.size : Int) := by unfold loseN; simp only; omega
  unfold loseF
  rw [e]
  simp
theorem loseL_again {l : List Fl} (q r : List Int) (h : DiskGood l) : loseL (loseL l q) r = loseL l q := by
  have hk := loseL_kept q h
  apply List.ext_getElem?
  intro k
  by_cases hlt : k < (loseL l q).length
  · obtain ⟨x, hx⟩ : ∃ x, (loseL l q)[k]? = some x := ⟨_, List.getElem?_eq_getElem hlt⟩
    rw [loseL_at hx, hx, loseF_same (hk.2 x (List.mem_of_getElem? hx))]
  · rw [List.getElem?_eq_none (by rw [loseL_len]; omega), List.getElem?_eq_none (by omega)]

/-- The one begins the other. -/
def Begins (a b : ByteArray) : Prop := a.size ≤ b.size ∧ b.extract 0 a.size = a
instance (a b : ByteArray) : Decidable (Begins a b) := by unfold Begins; infer_instance
theorem begins_cut (s : ByteArray) {n m : Nat} (h : n ≤ m) (hm : m ≤ s.size) : Begins (s.extract 0 n) (s.extract 0 m) := by
  have h1 := extract_len s n (by omega)
  have h2 := extract_len s m hm
  refine ⟨by omega, ?_⟩
  rw [h1]
  apply ByteArray.ext
  apply Array.ext'
  simp
  omega
theorem begins_whole (s : ByteArray) {n : Nat} (h : n ≤ s.size) : Begins (s.extract 0 n) s := by
  refine ⟨by rw [extract_len s n h]; exact h, ?_⟩
  rw [extract_len s n h]

theorem putL_len' (l : List Fl) (f : Fl) : (putL l f).length ≤ l.length + 1 := by
  have h1 := (putL_perm l f).length_eq
  have h2 : (outL l f.1).length ≤ l.length := List.length_filter_le _ _
  rw [List.length_cons] at h1
  omega
theorem putL_mem' {l : List Fl} {f x : Fl} (h : x ∈ putL l f) : x = f ∨ x ∈ l := by
  rcases List.mem_cons.1 ((putL_perm l f).mem_iff.1 h) with rfl | h
  · exact .inl rfl
  · exact .inr (List.mem_filter.1 h).1
theorem putL_good {l : List Fl} {f : Fl} (h : DiskGood l) (hl : l.length ≤ 29) (hf : FileGood f) : DiskGood (putL l f) := by
  refine ⟨by have := putL_len' l f; omega, fun x hx => ?_, putL_lower h.2.2 f⟩
  rcases putL_mem' hx with rfl | hx
  · exact hf
  · exact h.2.1 x hx

end Go.Proofs.Ytdecehecjlbbiaa

/-
  Plain law: what operations make of a disk, one by one, and a power failure behind some of them. No program in sight.
-/
namespace Go.Proofs.Ytdecehecjlbbiaa
open Go.RowKit

/-- What operations make of a disk, and how many of them were done. -/
def actsV : List Fl → List Ac → List Fl × Nat
  | l, [] => (l, 0)
  | l, a :: r => if (doV l a).2 = true then ((actsV (doV l a).1 r).1, (actsV (doV l a).1 r).2 + 1) else (l, 0)
/-- Behind k operations the disk is m. -/
def Reach (l : List Fl) (q : List Ac) (k : Nat) (m : List Fl) : Prop := actsV l q = ((actsV m (q.drop k)).1, (actsV m (q.drop k)).2 + k)
theorem reach_zero (l : List Fl) (q : List Ac) : Reach l q 0 l := rfl
theorem dropA_at {q : List Ac} {k : Nat} {a : Ac} (ha : q[k]? = some a) : q.drop k = a :: q.drop (k + 1) := by
  obtain ⟨hk, rfl⟩ := List.getElem?_eq_some_iff.1 ha
  exact List.drop_eq_getElem_cons hk
theorem reach_next {l m : List Fl} {q : List Ac} {k : Nat} {a : Ac} (h : Reach l q k m) (ha : q[k]? = some a) (hv : (doV m a).2 = true) : Reach l q (k + 1) (doV m a).1 := by
  unfold Reach at h ⊢
  rw [h, dropA_at ha, actsV, if_pos hv]
  simp only [Prod.mk.injEq, true_and]
  omega
theorem reach_fail {l m : List Fl} {q : List Ac} {k : Nat} {a : Ac} (h : Reach l q k m) (ha : q[k]? = some a) (hv : (doV m a).2 = false) : actsV l q = (m, k) := by
  unfold Reach at h
  rw [h, dropA_at ha, actsV, if_neg (by rw [hv]; decide)]
  simp
theorem reach_end {l m : List Fl} {q : List Ac} (h : Reach l q q.length m) : actsV l q = (m, q.length) := by
  unfold Reach at h
  rw [h, List.drop_length, actsV]
  simp
/-- Files that are small. -/
def FlSmall (l : List Fl) : Prop := l.length ≤ 1048576 ∧ ∀ x ∈ l, x.1.size ≤ 1048576 ∧ x.2.1.size ≤ 1048576
theorem good_small {l : List Fl} (h : DiskGood l) : FlSmall l :=
  ⟨Nat.le_trans h.1 (by decide), fun x hx => by
    have h1 := h.2.1 x hx
    unfold FileGood at h1
    omega⟩
theorem doV_good {l : List Fl} {a : Ac} (h : (doV l a).2 = true) : DiskGood (doV l a).1 := by
  unfold doV doO at h ⊢
  split at h
  · cases h
  · rename_i r hr
    split at hr
    · split at hr
      · cases hr
      · split at hr
        · rename_i h1 _ _ h2 h3
          cases hr
          exact h3
        · cases hr
    · cases hr
theorem doV_small {l : List Fl} {a : Ac} (h : (doV l a).2 = true) : FlSmall (doV l a).1 := good_small (doV_good h)
theorem actsV_small : ∀ {l : List Fl} (q : List Ac), FlSmall l → FlSmall (actsV l q).1
  | l, [], h => h
  | l, a :: r, h => by
    rw [actsV]
    split
    · rename_i hv
      exact actsV_small r (doV_small hv)
    · exact h
theorem actsV_le : ∀ (l : List Fl) (q : List Ac), (actsV l q).2 ≤ q.length
  | l, [] => Nat.le_refl _
  | l, a :: r => by
    rw [actsV]
    split
    · have := actsV_le (doV l a).1 r
      simp only [List.length_cons]; omega
    · exact Nat.zero_le _

/-- A power failure behind some operations. -/
def cutV (l : List Fl) (q : List Ac) (whole : Int) (left : List Int) : List Fl × Bool :=
  if 0 ≤ whole ∧ whole ≤ q.length then
    (if (actsV l (q.take whole.toNat)).2 = whole.toNat then loseV (actsV l (q.take whole.toNat)).1 left else ([], false)) else ([], false)
theorem cutV_len (l : List Fl) (q : List Ac) (n : Int) (z : List Int) (h : FlSmall l) : (cutV l q n z).1.length ≤ 1048576 := by
  unfold cutV
  split
  · split
    · have h1 := actsV_small (q.take n.toNat) h
      unfold loseV
      split
      · show (loseL _ z).length ≤ 1048576
        unfold loseL; rw [loseTo_len]; exact h1.1
      · simp
    · simp
  · simp

end Go.Proofs.Ytdecehecjlbbiaa
