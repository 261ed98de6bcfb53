/-
  What the walks of this claim lean on, joined: plain laws, no code of the seat.
-/
import Derived.Test.YtcehbmlibfalaaaDoorBase2
import Derived.Lib.AppendZerosOnto
import Derived.Laws.IdiomStrings
import Derived.Laws.Strings3
import Derived.Test.YtcehbmlibfalaaaDoorBase1
import Derived.Deep.RegionHeld3

/-
  The kit of this set, its third part: a string turned into bytes, and zeros appended.
-/
namespace Go.Proofs.YtcehbmlibfalaaaDoor
open Go.RowKit

section
variable {P : Program}

/-- 'append(b, x, y ..)' onto a []byte of the call's own, for the walk, the world under a name. -/
theorem wpList_push_u8w (w W : World) {ops : Array Oper} {rest : List Oper} {o : Oper} {a : Act} {Q : Exit → Act → World → Prop}
    (hg : o.guard = none) (s xo : Operand) (t : TypeId) (hop : o.op = Op.call { callee := Callee.builtin Builtin.append, args := #[s, xo], argTypes := #[t, t] })
    (e : TypeId) (ht : P.underlying t = some (.slice e)) (hinfo : (P.info? e).map (fun i => (i.zero, i.size, i.bytes)) = some (some (.int .u8 0), 1, 1))
    (B : Nat) (v : Value) (l : List UInt8) (hs : a.eval s = v) (hown : OwnB w B v l) (xs : List Value) (news : List UInt8) (hx : xs = u8s news) (m c : Nat) (hm : news.length = m)
    (H : Nat) (hxo : a.eval xo = .slice (some ⟨H, 0, none⟩) m c) (hH : w.heap.size = H) (hb : l.length + m ≤ 70368744177664) (hB : B ≤ w.heap.size) (hW : W = w.alloc (.cells xs.toArray e))
    (hK : ∀ v' w', OwnB w' B v' (l ++ news) → w.grownBy w' v.ownBlock → Below B w w' → wpList P ops Q rest (a.put o.dst v') w') :
    wpList P ops Q (o :: rest) a W := by
  subst hW
  subst hH
  exact wpList_push_u8 w hg s xo t hop e ht hinfo B v l hs hown xs news hx m c hm hxo hb hB hK

/-- The bytes of a string, in a new block (whatever its mark). -/
theorem OwnB.ofString (w : World) (B : Nat) (s : ByteArray) (e : TypeId) (hB : B ≤ w.heap.size) (hs : s.size ≤ maxLen) :
    OwnB (w.drew.alloc (.cells (bytesRow s (grownCap w s.size 0 e)) e ((bytesRow s (grownCap w s.size 0 e)).size, (bytesRow s (grownCap w s.size 0 e)).size + 1))) B (.slice (some ⟨w.heap.size, 0, none⟩) s.size (grownCap w s.size 0 e)) s.data.toList := by
  have hge := grownCap_ge w s.size 0 e
  have hcm := grownCap_le_maxLen w s.size 0 e hs
  have hrow : (bytesRow s (grownCap w s.size 0 e)).size = grownCap w s.size 0 e := by
    unfold bytesRow
    simp only [Array.size_append, Array.size_map, Array.size_replicate]
    show s.size + (_ - s.size) = _
    omega
  have hl : s.data.toList.length = s.size := by rw [Array.length_toList]; rfl
  unfold OwnB
  rw [hl]
  refine .inr ⟨w.heap.size, _, rfl, hB, by simp, hge, hcm, by rw [u8s_length, hl, Nat.mul_one], fun j hj => ?_, fun j hj => ⟨?_, ?_⟩⟩
  · rw [Nat.mul_one] at hj
    have e1 := World.cell?_alloc_mark w.drew (bytesRow s (grownCap w s.size 0 e)) e ((bytesRow s (grownCap w s.size 0 e)).size, (bytesRow s (grownCap w s.size 0 e)).size + 1) j
    refine e1.trans ?_
    rw [bytesRow_at s _ j hj, u8s_get, List.getElem?_eq_getElem (by rw [hl]; exact hj)]
    simp
  · have e1 := World.cell?_alloc_mark w.drew (bytesRow s (grownCap w s.size 0 e)) e ((bytesRow s (grownCap w s.size 0 e)).size, (bytesRow s (grownCap w s.size 0 e)).size + 1) j
    have e2 : (w.drew.alloc (.cells (bytesRow s (grownCap w s.size 0 e)) e ((bytesRow s (grownCap w s.size 0 e)).size, (bytesRow s (grownCap w s.size 0 e)).size + 1))).cell? ⟨w.heap.size, j, none⟩ = _ := e1
    rw [e2, Array.getElem?_eq_getElem (by rw [hrow]; omega)]
    rfl
  · have e1 := World.frozen?_alloc_mark w.drew (bytesRow s (grownCap w s.size 0 e)) e (bytesRow s (grownCap w s.size 0 e)).size ((bytesRow s (grownCap w s.size 0 e)).size + 1) j
    have e2 : (w.drew.alloc (.cells (bytesRow s (grownCap w s.size 0 e)) e ((bytesRow s (grownCap w s.size 0 e)).size, (bytesRow s (grownCap w s.size 0 e)).size + 1))).frozen? ⟨w.heap.size, j, none⟩ = _ := e1
    rw [e2, decide_eq_false (by rw [hrow]; omega), Bool.false_and]

theorem OwnB.ne_nil {w : World} {B : Nat} {v : Value} {l : List UInt8} (h : OwnB w B v l) (hl : l ≠ []) : v ≠ .slice none 0 0 := by
  rcases h with ⟨_, h0, _⟩ | ⟨g, cap, rfl, _, _⟩
  · exact absurd (List.eq_nil_of_length_eq_zero h0) hl
  · simp

/-- 's[i:]', 's[:i]', the place as it stands in the walk, its number a. -/
theorem cut_from {P : Program} {t : TypeId} (ht : P.underlying t = some .string) (s : ByteArray) (i : Int) (a : Nat) (hi : i = a) (h : a ≤ s.size) (w : World) :
    (Instr.slice t (.string s) (some (.int .i64 i)) none none).run P w = .ok (.string (s.extract a s.size)) w := by
  subst hi
  rw [run_slice_string_from_if w t s .i64 a ht, if_pos (by omega)]
  rfl
theorem cut_to {P : Program} {t : TypeId} (ht : P.underlying t = some .string) (s : ByteArray) (i : Int) (a : Nat) (hi : i = a) (h : a ≤ s.size) (w : World) :
    (Instr.slice t (.string s) none (some (.int .i64 i)) none).run P w = .ok (.string (s.extract 0 a)) w := by
  subst hi
  rw [run_slice_string_to_if w t s .i64 a ht, if_pos (by omega)]
  rfl
/-- 's[i]', the place as it stands in the walk, its number a. -/
theorem idx_str {P : Program} {t : TypeId} (ht : P.underlying t = some .string) (s : ByteArray) (i : Int) (a : Nat) (hi : i = a) (h : a < s.size) (w : World) :
    (Instr.index t (.string s) (.int .i64 i)).run P w = .ok (.int .u8 (s[a].toNat : Int)) w := by
  subst hi
  simp [run_index_string w t s .i64 a ht, h]
theorem extract_to (s : ByteArray) (a : Nat) : (s.extract 0 a).data.toList = s.data.toList.take a := by rw [extract_list]; simp
theorem extract_from (s : ByteArray) (a : Nat) : (s.extract a s.size).data.toList = s.data.toList.drop a := by
  rw [extract_list]
  apply List.take_of_length_le
  simp
/-- How the walk tells that two strings are one. -/
theorem same_bytes (s r : ByteArray) : (s.toList == r.toList) = (s.data.toList == r.data.toList) := by rw [ByteArray.toList_eq, ByteArray.toList_eq]

/-- A callee that turns nothing, met in a region that draws its order. -/
theorem below_of_same {P : Program} {f : FuncId} {args : Array Value} {w : World} {v : Value} (h : Calls P f args w fun e w' => e = .returned v ∧ w = w') : Calls P f args w fun e w' => e = .returned v ∧ Below w.heap.size w w' :=
  h.mono fun _ _ ⟨he, hw⟩ => ⟨he, hw ▸ Below.refl _ _⟩

theorem OwnB.drewN {w : World} {B : Nat} {v : Value} {l : List UInt8} (h : OwnB w B v l) (q : Nat) : OwnB (w.drewN q) B v l := Own.drewN h q

/-- The length in a slice's slot: for a loop's measure. -/
def lenV : Value → Nat
  | .slice _ n _ => n
  | _ => 0

theorem OwnB.shape {w : World} {B : Nat} {v : Value} {l : List UInt8} (h : OwnB w B v l) : ∃ ao cap, v = .slice ao l.length cap := Own.shape h
theorem OwnB.lenV {w : World} {B : Nat} {v : Value} {l : List UInt8} (h : OwnB w B v l) : lenV v = l.length := by
  obtain ⟨ao, cap, rfl⟩ := h.shape; rfl

theorem join_txt (s : ByteArray) (l : List UInt8) : s ++ txt l = txt (s.data.toList ++ l) := by
  apply ByteArray.ext
  simp [txt]

/-- Zeros, as cells. -/
theorem zeros_u8 (m : Nat) : (Builtin.zeroCells #[Value.int .u8 0] m).toList = u8s (List.replicate m 0) := by
  apply List.ext_getElem
  · simp [Builtin.zeroCells, u8s]
  · intro i h1 h2
    simp [Builtin.zeroCells, u8s, Nat.mod_one]

/-- 'append(b, make([]byte, m)...)' where there is room. -/
theorem run_append_room_zeros (w : World) (t tn ty e : TypeId) (i : TypeInfo) (kn : IntKind) (ht : P.underlying t = some (.slice e)) (htn : P.underlying tn = some (.int kn)) (hi : P.info? e = some i) (hz : i.zero = some (.int .u8 0)) (hsz : i.size = 1) (hby : i.bytes = 1)
    (g n cap m : Nat) (hm : m ≤ 70368744177664) (hroom : n + m ≤ cap) (hc : ∀ j, j < m → (w.cell? ⟨g, n + j, none⟩).isSome = true ∧ w.frozen? ⟨g, n + j, none⟩ = false) :
    (Builtin.append_ #[t, tn] ty #[.slice (some ⟨g, 0, none⟩) n cap, .int .i64 m]).run P w = .ok (.slice (some ⟨g, 0, none⟩) (n + m) cap) (w.setCells g n (u8s (List.replicate m 0))) := by
  have hw : IntKind.i64.wrap (m : Int) = m := by rw [IntKind.wrap_i64]; omega
  have hneg : ¬ ((m : Int) < 0) := by omega
  have h48i : ¬ (281474976710656 < (m : Int)) := by omega
  have hl : (u8s (List.replicate m 0)).length = m := by simp [u8s]
  have hst := run_storeCells_cells (P := P) g n (u8s (List.replicate m 0)) 0 w (fun j hj => by simpa using (hc j (by omega)).1) (fun j hj => by simpa using (hc j (by omega)).2) (u8s_one _)
  simp only [Nat.add_zero] at hst
  have hzz := zeros_u8 m
  rcases Nat.eq_zero_or_pos m with rfl | hpos
  · have hw0 : IntKind.i64.wrap 0 = 0 := by rw [IntKind.wrap_i64]; omega
    have hroom' : n ≤ cap := by omega
    simp [Builtin.append_, run_underlying ht, run_underlying htn, sizeOf, typeInfo, hi, hby, asInt, asIntOf, hw0, hroom', u8s, World.setCells, storeCells]
  · have hm0 : m ≠ 0 := by omega
    simp [Builtin.append_, run_underlying ht, run_underlying htn, sizeOf, typeInfo, zeroValue, hi, hz, hsz, hby, asInt, asIntOf, hw, hneg, hm0, h48i, hroom, hzz, Addr.add_lit, Value.cells, hst]

/-- 'append(b, make([]byte, m)...)' onto a []byte of the call's own. -/
theorem run_append_zeros_Own (w : World) (B : Nat) (t tn ty e : TypeId) (kn : IntKind) (ht : P.underlying t = some (.slice e)) (htn : P.underlying tn = some (.int kn)) (hinfo : (P.info? e).map (fun i => (i.zero, i.size, i.bytes)) = some (some (.int .u8 0), 1, 1))
    (v : Value) (l : List UInt8) (h : OwnB w B v l) (m : Nat) (hb : l.length + m ≤ 70368744177664) (hB : B ≤ w.heap.size) (hv : v ≠ .slice none 0 0) :
    ∃ v' w', (Builtin.append_ #[t, tn] ty #[v, .int .i64 m]).run P w = .ok v' w' ∧ OwnB w' B v' (l ++ List.replicate m 0) ∧ w.grownBy w' v.ownBlock := by
  obtain ⟨i, hi, hz, hsize, hby⟩ := info_parts hinfo
  have hzl : (u8s (List.replicate m 0)).length = m := by simp [u8s]
  rcases h with ⟨rfl, _⟩ | ⟨g, cap, rfl, hBg, r⟩
  · exact absurd rfl hv
  have hcl := r.len
  have hle := r.le
  rw [Nat.mul_one] at hcl
  by_cases hfit : l.length + m ≤ cap
  · have hth : ∀ j, j < m → (w.cell? ⟨g, l.length + j, none⟩).isSome = true ∧ w.frozen? ⟨g, l.length + j, none⟩ = false := fun j hj => r.there _ (by omega)
    have hrun := run_append_room_zeros (P := P) w t tn ty e i kn ht htn hi hz hsize hby g l.length cap m (by omega) hfit hth
    refine ⟨_, _, hrun, ?_, grownBy_setCells w g _ _⟩
    unfold OwnB
    rw [u8s_append, List.length_append, List.length_replicate]
    refine .inr ⟨g, cap, rfl, hBg, by rw [size_setCells]; exact r.lt, hfit, r.max, by rw [List.length_append, hcl, hzl, Nat.mul_one], fun j hj => ?_, fun j hj => ⟨?_, (World.frozen?_setCells g _ _ _ _).trans (r.there j hj).2⟩⟩
    · rw [Nat.mul_one] at hj
      by_cases hjo : j < l.length
      · rw [World.cell?_setCells_out g _ _ _ _ (fun _ _ => Or.inl hjo), List.getElem?_append_left (by omega)]
        exact r.holds j (by omega)
      · have ht' : j - l.length < (u8s (List.replicate m 0)).length := by omega
        have := World.cell?_setCells_in g (u8s (List.replicate m 0)) l.length w (fun j hj => (hth j (by omega)).1) (j - l.length) ht'
        rw [show l.length + (j - l.length) = j by omega] at this
        rw [this, List.getElem?_append_right (by omega), hcl, List.getElem?_eq_getElem ht']
    · by_cases hin : l.length ≤ j ∧ j < l.length + m
      · have := World.cell?_setCells_in g (u8s (List.replicate m 0)) l.length w (fun j hj => (hth j (by omega)).1) (j - l.length) (by omega)
        rw [show l.length + (j - l.length) = j by omega] at this
        rw [this]; rfl
      · rw [World.cell?_setCells_out g _ _ _ _ (fun _ _ => by show j < l.length ∨ l.length + (u8s (List.replicate m 0)).length ≤ j; omega)]
        exact (r.there j hj).1
  · have hold := run_firstCells_some (P := P) w.drew i.size l.length ⟨g, 0, none⟩ l.length cap (u8s l) (by rw [hsize, hcl, Nat.mul_one]) (fun j u hu => by
      rw [Addr.add_lit, Nat.zero_add]
      have hj : j < l.length := by rw [← hcl]; exact (List.getElem?_eq_some_iff.1 hu).1
      exact (r.holds j (by omega)).trans hu)
    have hrun := Lib.run_append_grow_zeros (P := P) w t tn ty e i _ .i64 kn ht htn hi hz (some ⟨g, 0, none⟩) l.length cap (u8s l) hold m (by omega) (by omega) (by omega) (by omega) (by rw [hby]; omega) (by
      rw [hby]; have := nextslicecap_le (show cap < l.length + m by omega); omega)
    have hge := grownCap_ge w (l.length + m) cap e
    have hcm := grownCap_le_maxLen w (l.length + m) cap e (by unfold maxLen; omega)
    have hcells : ((u8s l).toArray ++ Builtin.zeroCells (Value.int IntKind.u8 0).cells m ++ Builtin.zeroCells (Value.int IntKind.u8 0).cells (grownCap w (l.length + m) cap e - (l.length + m))) =
        (u8s (l ++ List.replicate m 0) ++ u8s (List.replicate (grownCap w (l.length + m) cap e - (l.length + m)) 0)).toArray := by
      apply Array.ext'
      simp only [Array.toList_append, u8s_append]
      show _ ++ (Builtin.zeroCells #[Value.int .u8 0] m).toList ++ (Builtin.zeroCells #[Value.int .u8 0] _).toList = _
      rw [zeros_u8, zeros_u8]
    rw [hcells] at hrun
    have hL : (l ++ List.replicate m 0).length = l.length + m := by simp
    have hL' : (u8s (l ++ List.replicate m 0)).length = l.length + m := by rw [u8s_length, hL]
    have hTot : (u8s (l ++ List.replicate m 0) ++ u8s (List.replicate (grownCap w (l.length + m) cap e - (l.length + m)) 0)).length = grownCap w (l.length + m) cap e := by
      rw [List.length_append, hL', u8s_length, List.length_replicate]; omega
    refine ⟨_, _, hrun, ?_, ⟨rfl, rfl, rfl, by simp, fun k hk _ => Below.heap_alloc w.drew _ k hk⟩⟩
    unfold OwnB
    rw [hL]
    refine .inr ⟨w.heap.size, _, rfl, hB, by simp, hge, hcm, by rw [hL', Nat.mul_one], fun j hj => ?_, fun j hj => ⟨?_, ?_⟩⟩
    · rw [Nat.mul_one] at hj
      have e1 := World.cell?_alloc_new w.drew (u8s (l ++ List.replicate m 0) ++ u8s (List.replicate (grownCap w (l.length + m) cap e - (l.length + m)) 0)).toArray e j
      refine Eq.trans e1 ?_
      rw [List.getElem?_toArray, List.getElem?_append_left (by omega)]
    · have e1 := World.cell?_alloc_new w.drew (u8s (l ++ List.replicate m 0) ++ u8s (List.replicate (grownCap w (l.length + m) cap e - (l.length + m)) 0)).toArray e j
      have e2 : (w.drew.alloc (.cells (u8s (l ++ List.replicate m 0) ++ u8s (List.replicate (grownCap w (l.length + m) cap e - (l.length + m)) 0)).toArray e)).cell? ⟨w.heap.size, j, none⟩ = _ := e1
      rw [e2, List.getElem?_toArray, List.getElem?_eq_getElem (by omega)]
      rfl
    · exact World.frozen?_alloc_new w.drew _ _ j

/-- The same, for the walk. -/
theorem wpList_push_zeros (w : World) {ops : Array Oper} {rest : List Oper} {o : Oper} {a : Act} {Q : Exit → Act → World → Prop}
    (hg : o.guard = none) (s xo : Operand) (t tn : TypeId) (hop : o.op = Op.call { callee := Callee.builtin Builtin.append, args := #[s, xo], argTypes := #[t, tn] })
    (e : TypeId) (kn : IntKind) (ht : P.underlying t = some (.slice e)) (htn : P.underlying tn = some (.int kn)) (hinfo : (P.info? e).map (fun i => (i.zero, i.size, i.bytes)) = some (some (.int .u8 0), 1, 1))
    (B : Nat) (v : Value) (l : List UInt8) (hs : a.eval s = v) (hown : OwnB w B v l) (n : Int) (m : Nat) (hn : n = m) (hxo : a.eval xo = .int .i64 n) (hb : l.length + m ≤ 70368744177664) (hB : B ≤ w.heap.size) (hv : v ≠ .slice none 0 0)
    (hK : ∀ v' w', OwnB w' B v' (l ++ List.replicate m 0) → w.grownBy w' v.ownBlock → Below B w w' → wpList P ops Q rest (a.put o.dst v') w') :
    wpList P ops Q (o :: rest) a w := by
  subst hn
  obtain ⟨v', w', hrun, r1, r2⟩ := run_append_zeros_Own (P := P) w B t tn o.type e kn ht htn hinfo v l hown m hb hB hv
  exact Lib.wpList_append_run w hg s xo t tn hop _ _ hs hxo v' w' hrun (hK v' w' r1 r2 ((Below.refl B w).grown r2 hB (fun k hk => (hown.block k hk).1)))

end

end Go.Proofs.YtcehbmlibfalaaaDoor

/-
  Plain law: the padding of a text. No program in sight.
-/
namespace Go.Proofs.YtcehbmlibfalaaaDoor

/-- How many zeros. -/
def padZ (n : Nat) : Nat := (119 - n % 64) % 64
theorem padZ_lt (n : Nat) : padZ n < 64 := by unfold padZ; omega
theorem padZ_end (n : Nat) : (n + 1 + padZ n) % 64 = 56 := by unfold padZ; omega
theorem padZ_not (n j : Nat) (h : j < padZ n) : (n + 1 + j) % 64 ≠ 56 := by unfold padZ at h; omega

/-- A number in eight bytes, the highest first. -/
def be64 (n : Nat) : List UInt8 := [UInt8.ofNat (n / 72057594037927936), UInt8.ofNat (n / 281474976710656), UInt8.ofNat (n / 1099511627776), UInt8.ofNat (n / 4294967296), UInt8.ofNat (n / 16777216), UInt8.ofNat (n / 65536), UInt8.ofNat (n / 256), UInt8.ofNat n]
theorem be64_length (n : Nat) : (be64 n).length = 8 := rfl

/-- The padded text. -/
def padL (l : List UInt8) : List UInt8 := l ++ [128] ++ List.replicate (padZ l.length) 0 ++ be64 (8 * l.length)
theorem padL_length (l : List UInt8) : (padL l).length = l.length + 9 + padZ l.length := by
  simp [padL, be64_length]; omega
theorem padL_mod (l : List UInt8) : (padL l).length % 64 = 0 := by
  rw [padL_length]; have := padZ_end l.length; omega

theorem ofNat_mod (n : Nat) : ((UInt8.ofNat n).toNat : Int) = (n : Int) % 256 := by
  rw [UInt8.toNat_ofNat']; rfl

end Go.Proofs.YtcehbmlibfalaaaDoor

/-
  Rows of strings: how they are read and owned; the letter m with a number behind it. No program in sight.
-/
namespace Go.Proofs.YtcehbmlibfalaaaDoor
open Go.RowKit

/-- The cells that hold these strings. -/
def strC (l : List ByteArray) : List Value := l.map Value.string
theorem strC_length (l : List ByteArray) : (strC l).length = l.length := by simp [strC]
theorem strC_append (l m : List ByteArray) : strC (l ++ m) = strC l ++ strC m := by simp [strC]
theorem strC_get (l : List ByteArray) (j : Nat) : (strC l)[j]? = (l[j]?).map Value.string := by simp [strC]
theorem strC_one (l : List ByteArray) : ∀ u ∈ strC l, u.oneCell' = true := by
  intro u hu
  obtain ⟨_, _, rfl⟩ := List.mem_map.1 hu
  rfl

/-- A slice of strings that stands at ao reads as l. -/
def RdS (w : World) (ao : Option Addr) (l : List ByteArray) : Prop :=
  ∀ j x, l[j]? = some x → ∃ b off, ao = some ⟨b, off, none⟩ ∧ w.cell? ⟨b, off + j, none⟩ = some (.string x)

theorem RdS.below {w w' : World} {ao : Option Addr} {l : List ByteArray} {C : Nat} (h : RdS w ao l) (hb : Below C w w') (hC : w.heap.size ≤ C) : RdS w' ao l := by
  intro j x hx
  obtain ⟨b, off, e, hc⟩ := h j x hx
  have hlt := World.block_lt_of_cell? _ _ hc
  exact ⟨b, off, e, (hb.cell (p := ⟨b, off + j, none⟩) (Nat.lt_of_lt_of_le hlt hC)).trans hc⟩

/-- A row that stood before a world stands after another row of that world has been written. -/
theorem RdS.kept {w1 w w' : World} {ao : Option Addr} {l : List ByteArray} {row : Option Nat} (h : RdS w ao l) (h1 : RdS w1 ao l) (hg : w.grownBy w' row) (hr : ∀ k, row = some k → w1.heap.size ≤ k) : RdS w' ao l := by
  intro j x hx
  obtain ⟨b, off, e, hc⟩ := h j x hx
  obtain ⟨b', off', e', hc'⟩ := h1 j x hx
  have e2 : b = b' := by rw [e] at e'; cases e'; rfl
  subst e2
  have hlt := World.block_lt_of_cell? _ _ hc
  have hlt' := World.block_lt_of_cell? _ _ hc'
  refine ⟨b, off, e, (World.cell?_of_block (hg.block b hlt (fun hk => ?_))).trans hc⟩
  exact absurd (hr b hk.symm) (Nat.not_le_of_lt hlt')

theorem RdS.nil (w : World) (ao : Option Addr) : RdS w ao [] := fun j x h => by simp at h

/-- A []string of the call's own that holds l. -/
def OwnS (w : World) (B : Nat) (v : Value) (l : List ByteArray) : Prop := Own w B 1 v l.length (strC l)

theorem OwnS.nil (w : World) (B : Nat) : OwnS w B (.slice none 0 0) [] := Own.nil _ _ _
theorem OwnS.empty (w : World) (B : Nat) (e : TypeId) (hB : B ≤ w.heap.size) : OwnS (w.alloc (.cells #[] e)) B (.slice (some ⟨w.heap.size, 0, none⟩) 0 0) [] :=
  .inr ⟨w.heap.size, 0, rfl, hB, by simp, Nat.le_refl _, Nat.zero_le _, rfl, fun j hj => by simp at hj, fun j hj => by simp at hj⟩

theorem OwnS.rd {w : World} {B : Nat} {v : Value} {l : List ByteArray} (h : OwnS w B v l) : ∃ ao cap, v = .slice ao l.length cap ∧ RdS w ao l := by
  rcases h with ⟨rfl, h0, _⟩ | ⟨g, cap, rfl, _, r⟩
  · obtain rfl := List.eq_nil_of_length_eq_zero h0
    exact ⟨none, 0, rfl, RdS.nil _ _⟩
  · refine ⟨_, cap, rfl, fun j x hx => ⟨g, 0, rfl, ?_⟩⟩
    have hj : j < l.length := (List.getElem?_eq_some_iff.1 hx).1
    rw [Nat.zero_add, r.holds j (by omega), strC_get, hx]
    rfl

theorem OwnS.below {w w' : World} {B C : Nat} {v : Value} {l : List ByteArray} (h : OwnS w B v l) (hb : Below C w w') (hC : w.heap.size ≤ C) : OwnS w' B v l := Own.below h hb hC
theorem OwnS.drewN {w : World} {B : Nat} {v : Value} {l : List ByteArray} (h : OwnS w B v l) (q : Nat) : OwnS (w.drewN q) B v l := Own.drewN h q

/-- What a new block of strings yields. -/
theorem src_strs {P : Program} {t e' e : TypeId} (ht : P.underlying t = some (.slice e')) (w : World) (c m : Nat) (l : List ByteArray) (xs : List Value) (hm : l.length = m) (hx : xs = strC l) :
    Src P 1 t (.slice (some ⟨w.heap.size, 0, none⟩) m c) m (strC l) (w.alloc (.cells xs.toArray e)) := by
  subst hm
  subst hx
  refine Src.ofSlice _ ht _ _ _ _ (by rw [strC_length]; omega) (fun j u hu => ?_) (strC_one l)
  rw [Addr.add_lit, Nat.zero_add]
  have e1 : (w.alloc (.cells (strC l).toArray e)).cell? ⟨w.heap.size, j, none⟩ = _ := World.cell?_alloc_new w _ _ j
  rw [e1]
  simpa using hu

/-- 'append(b, x, y ..)' onto a []string of the call's own, for the walk. -/
theorem wpList_push_strs {P : Program} (w W : World) {ops : Array Oper} {rest : List Oper} {o : Oper} {a : Act} {Q : Exit → Act → World → Prop}
    (hg : o.guard = none) (s xo : Operand) (t : TypeId) (hop : o.op = Op.call { callee := Callee.builtin Builtin.append, args := #[s, xo], argTypes := #[t, t] })
    (e : TypeId) (ht : P.underlying t = some (.slice e)) (hinfo : (P.info? e).map (fun i => (i.zero, i.size, i.bytes)) = some (some (.string ⟨#[]⟩), 1, 16))
    (B : Nat) (v : Value) (l : List ByteArray) (hs : a.eval s = v) (hown : OwnS w B v l) (xs : List Value) (news : List ByteArray) (hx : xs = strC news) (m c : Nat) (hm : news.length = m)
    (H : Nat) (hxo : a.eval xo = .slice (some ⟨H, 0, none⟩) m c) (hH : w.heap.size = H) (hb : l.length + m ≤ 1099511627776) (hB : B ≤ w.heap.size) (hW : W = w.alloc (.cells xs.toArray e))
    (hK : ∀ v' w', OwnS w' B v' (l ++ news) → w.grownBy w' v.ownBlock → Below B w w' → wpList P ops Q rest (a.put o.dst v') w') :
    wpList P ops Q (o :: rest) a W := by
  subst hW
  subst hH
  have hsz : (w.alloc (.cells xs.toArray e)).heap.size = w.heap.size + 1 := by simp
  refine wpList_append_Own (P := P) _ hg s xo t t hop B e _ 1 16 ht hinfo rfl v l.length (strC l) hs (Own.alloc hown _) _ hxo m (strC news) (src_strs ht w c m news xs hm hx) (by unfold maxLen; omega) (by omega) (by omega) ?_
  intro v' w' h1 h2 _
  have hg' : w.grownBy w' v.ownBlock := ⟨h2.os, h2.tape, h2.output, by have := h2.size; omega, fun k hk hne => (h2.block k (by omega) hne).trans (Below.heap_alloc w _ k hk)⟩
  refine hK v' w' ?_ hg' ((Below.refl B w).grown hg' hB (fun k hk => (hown.block k hk).1))
  unfold OwnS
  rw [strC_append, List.length_append, hm]
  exact h1

/-- A cell of an owned row is written. -/
theorem OwnS.store {w : World} {B g cap : Nat} {l : List ByteArray} (h : OwnS w B (.slice (some ⟨g, 0, none⟩) l.length cap) l) (k : Nat) (hk : k < l.length) (x : ByteArray) :
    OwnS (w.setCell ⟨g, k, none⟩ (.string x)) B (.slice (some ⟨g, 0, none⟩) (l.set k x).length cap) (l.set k x) := by
  rcases h with ⟨h0, _⟩ | ⟨g', cap', he, hB, r⟩
  · cases h0
  · cases he
    refine .inr ⟨g, cap, by rw [List.length_set], hB, ?_⟩
    have hl := List.length_set («as» := l) (i := k) (a := x)
    refine ⟨by simpa [World.setCell] using r.lt, by rw [hl]; exact r.le, r.max, by rw [strC_length, Nat.mul_one], fun j hj => ?_, fun j hj => ⟨?_, (World.frozen?_setCell _ _ _ _).trans (r.there j hj).2⟩⟩
    · by_cases hjk : j = k
      · subst hjk
        obtain ⟨u, hu⟩ := Option.isSome_iff_exists.1 (r.there j (by have := r.le; omega)).1
        rw [World.cell?_setCell_same _ _ _ hu, strC_get, List.getElem?_set_self hk]
        rfl
      · rw [World.cell?_setCell_other _ _ _ _ (by intro e; injection e; omega), r.holds j (by rw [hl] at hj; exact hj), strC_get, strC_get, List.getElem?_set_ne (by omega)]
    · by_cases hjk : j = k
      · subst hjk
        obtain ⟨u, hu⟩ := Option.isSome_iff_exists.1 (r.there j hj).1
        rw [World.cell?_setCell_same _ _ _ hu]; rfl
      · rw [World.cell?_setCell_other _ _ _ _ (by intro e; injection e; omega)]
        exact (r.there j hj).1

/-- A row as the guide's laws tell it. -/
theorem Own.of_ownsRow {w : World} {B size : Nat} {e : TypeId} {v : Value} {n : Nat} {xs : List Value} (h : w.ownsRow B e size v n xs) : Own w B size v n xs := by
  obtain ⟨hx, h | ⟨g, cap, cur, hv, hB, hg, hn, hm, hc, ht⟩⟩ := h
  · obtain ⟨rfl, rfl⟩ := h
    exact .inl ⟨rfl, rfl, List.eq_nil_of_length_eq_zero (by simpa using hx)⟩
  · refine .inr ⟨g, cap, hv, hB, (Array.getElem?_eq_some_iff.1 hg).1, hn, hm, hx, fun j hj => ?_, fun j hj => ⟨?_, ?_⟩⟩
    · have e1 : w.cell? ⟨g, j, none⟩ = cur[j]? := by unfold World.cell?; simp only [hg]; rfl
      rw [e1, ← ht, List.getElem?_take, if_pos hj, Array.getElem?_toList]
    · have e1 : w.cell? ⟨g, j, none⟩ = cur[j]? := by unfold World.cell?; simp only [hg]; rfl
      rw [e1, Array.getElem?_eq_getElem (by omega)]; rfl
    · unfold World.frozen?; simp only [hg]; simp

/-- A cell of an owned row (one cell an element) is written. -/
theorem Own.store1 {w : World} {B g n cap : Nat} {cs : List Value} (h : Own w B 1 (.slice (some ⟨g, 0, none⟩) n cap) n cs) (k : Nat) (hk : k < n) (x : Value) :
    Own (w.setCell ⟨g, k, none⟩ x) B 1 (.slice (some ⟨g, 0, none⟩) n cap) n (cs.set k x) := by
  rcases h with ⟨h0, _⟩ | ⟨g', cap', he, hB, r⟩
  · cases h0
  · cases he
    have hl := r.len
    refine .inr ⟨g, cap, rfl, hB, ?_⟩
    refine ⟨by simpa [World.setCell] using r.lt, r.le, r.max, by rw [List.length_set, hl], fun j hj => ?_, fun j hj => ⟨?_, (World.frozen?_setCell _ _ _ _).trans (r.there j hj).2⟩⟩
    · by_cases hjk : j = k
      · subst hjk
        obtain ⟨u, hu⟩ := Option.isSome_iff_exists.1 (r.there j (by have := r.le; omega)).1
        rw [World.cell?_setCell_same _ _ _ hu, List.getElem?_set_self (by omega)]
      · rw [World.cell?_setCell_other _ _ _ _ (by intro e; injection e; omega), r.holds j hj, List.getElem?_set_ne (by omega)]
    · by_cases hjk : j = k
      · subst hjk
        obtain ⟨u, hu⟩ := Option.isSome_iff_exists.1 (r.there j hj).1
        rw [World.cell?_setCell_same _ _ _ hu]; rfl
      · rw [World.cell?_setCell_other _ _ _ _ (by intro e; injection e; omega)]
        exact (r.there j hj).1
theorem Own.at1 {w : World} {B g n cap : Nat} {cs : List Value} (h : Own w B 1 (.slice (some ⟨g, 0, none⟩) n cap) n cs) (k : Nat) (hk : k < n) :
    (∃ u, w.cell? ⟨g, k, none⟩ = some u) ∧ w.frozen? ⟨g, k, none⟩ = false := by
  rcases h with ⟨h0, _⟩ | ⟨g', cap', he, hB, r⟩
  · cases h0
  · cases he
    have := r.there k (by have := r.le; omega)
    exact ⟨Option.isSome_iff_exists.1 this.1, this.2⟩
theorem strC_of {cs : List Value} {l : List ByteArray} (hl : cs.length = l.length) (h : ∀ j, j < l.length → cs[j]? = (l[j]?).map Value.string) : cs = strC l := by
  apply List.ext_getElem?
  intro j
  rw [strC_get]
  by_cases hj : j < l.length
  · exact h j hj
  · rw [List.getElem?_eq_none (by omega), List.getElem?_eq_none (by omega)]; rfl

/-- How much a list of strings holds. -/
def totS (l : List ByteArray) : Nat := l.length + (l.map ByteArray.size).sum
def sumS (l : List ByteArray) : Nat := (l.map ByteArray.size).sum
/-- What the size law's count comes to. -/
def szV (l : List ByteArray) (left : Int) : Int := if (totS l : Int) ≤ left then left - totS l else -1
theorem szV_yes {l : List ByteArray} {left : Int} (h : (totS l : Int) ≤ left) : szV l left = left - totS l := if_pos h
theorem szV_no {l : List ByteArray} {left : Int} (h : ¬ (totS l : Int) ≤ left) : szV l left = -1 := if_neg h
theorem totS_eq (l : List ByteArray) : totS l = l.length + sumS l := rfl
theorem sum_mem {l : List ByteArray} {x : ByteArray} (h : x ∈ l) : x.size ≤ sumS l := by
  unfold sumS
  induction l with
  | nil => simp at h
  | cons y l ih =>
    rw [List.map_cons, List.sum_cons]
    rcases List.mem_cons.1 h with rfl | h
    · omega
    · have := ih h; omega
theorem tot_mem {l : List ByteArray} {x : ByteArray} (h : x ∈ l) : x.size ≤ totS l := by
  have := sum_mem h; rw [totS_eq]; omega
theorem sumS_step {l : List ByteArray} {k : Nat} {x : ByteArray} (hx : l[k]? = some x) : sumS (l.take (k + 1)) = sumS (l.take k) + x.size := by
  unfold sumS; rw [List.take_add_one, hx]; simp
theorem sumS_le {l : List ByteArray} (k : Nat) : sumS (l.take k) ≤ sumS l := by
  have h : sumS l = sumS (l.take k) + sumS (l.drop k) := by
    unfold sumS
    rw [← List.sum_append, ← List.map_append, List.take_append_drop]
  omega

/-- A cell of an owned row may be written. -/
theorem OwnS.at_ {w : World} {B g n cap : Nat} {l : List ByteArray} (h : OwnS w B (.slice (some ⟨g, 0, none⟩) n cap) l) (k : Nat) (hk : k < l.length) :
    (∃ u, w.cell? ⟨g, k, none⟩ = some u) ∧ w.frozen? ⟨g, k, none⟩ = false := by
  rcases h with ⟨h0, _⟩ | ⟨g', cap', he, hB, r⟩
  · cases h0
  · cases he
    have := r.there k (by have := r.le; omega)
    exact ⟨Option.isSome_iff_exists.1 this.1, this.2⟩

/-! ### The letter m and a number -/

/-- The last decimal digit. -/
def digB (n : Nat) : UInt8 := UInt8.ofNat (48 + n % 10)
theorem digB_val (n : Nat) : ((digB n).toNat : Int) = 48 + (n : Int) % 10 := by unfold digB; rw [ofNat_mod]; omega

/-- The decimal digits of a number above 0 (none of 0). -/
def digL (n : Nat) : List UInt8 := if n = 0 then [] else digL (n / 10) ++ [digB n]
termination_by n
decreasing_by omega
theorem digL_zero : digL 0 = [] := by rw [digL]; rfl
theorem digL_pos {n : Nat} (h : 0 < n) : digL n = digL (n / 10) ++ [digB n] := by rw [digL, if_neg (by omega)]
theorem digL_length (n : Nat) : (digL n).length ≤ n := by
  induction n using Nat.strongRecOn with
  | _ n ih =>
    rcases Nat.eq_zero_or_pos n with rfl | h
    · rw [digL_zero]; exact Nat.le_refl _
    · rw [digL_pos h, List.length_append]
      have := ih (n / 10) (by omega)
      simp only [List.length_singleton]
      omega

/-- markText. -/
def markB (k : Nat) : ByteArray := txt (109 :: digL k)

/-- The marks from k on. -/
def marks (k : Nat) : Nat → List ByteArray
  | 0 => []
  | n + 1 => markB k :: marks (k + 1) n
theorem marks_length (k n : Nat) : (marks k n).length = n := by
  induction n generalizing k with
  | zero => rfl
  | succ n ih => simp [marks, ih]
theorem marks_get (k n j : Nat) (h : j < n) : (marks k n)[j]? = some (markB (k + j)) := by
  induction n generalizing k j with
  | zero => omega
  | succ n ih =>
    cases j with
    | zero => simp [marks]
    | succ j => simp only [marks, List.getElem?_cons_succ]; rw [ih (k + 1) j (by omega)]; congr 2; omega

theorem marks_eq {m : List ByteArray} {K N : Nat} (hl : m.length = N) (h : ∀ j, j < N → m[j]? = some (markB (K + j))) : m = marks K N := by
  apply List.ext_getElem?
  intro j
  by_cases hj : j < N
  · rw [h j hj, marks_get K N j hj]
  · rw [List.getElem?_eq_none (by omega), List.getElem?_eq_none (by rw [marks_length]; omega)]

end Go.Proofs.YtcehbmlibfalaaaDoor

/-
  Rows of cells, whatever they hold: how they are read; appending onto a row of the call's own; rows of integers. No program in sight.
-/
namespace Go.Proofs.YtcehbmlibfalaaaDoor
open Go.RowKit

/-- A slice that stands at ao reads as these cells. -/
def RdC (w : World) (ao : Option Addr) (cs : List Value) : Prop :=
  ∀ j u, cs[j]? = some u → ∃ b off, ao = some ⟨b, off, none⟩ ∧ w.cell? ⟨b, off + j, none⟩ = some u

theorem RdC.below {w w' : World} {ao : Option Addr} {cs : List Value} {C : Nat} (h : RdC w ao cs) (hb : Below C w w') (hC : w.heap.size ≤ C) : RdC w' ao cs := by
  intro j x hx
  obtain ⟨b, off, e, hc⟩ := h j x hx
  have hlt := World.block_lt_of_cell? _ _ hc
  exact ⟨b, off, e, (hb.cell (p := ⟨b, off + j, none⟩) (Nat.lt_of_lt_of_le hlt hC)).trans hc⟩
theorem RdC.kept {w1 w w' : World} {ao : Option Addr} {cs : List Value} {row : Option Nat} (h : RdC w ao cs) (h1 : RdC w1 ao cs) (hg : w.grownBy w' row) (hr : ∀ k, row = some k → w1.heap.size ≤ k) : RdC w' ao cs := by
  intro j x hx
  obtain ⟨b, off, e, hc⟩ := h j x hx
  obtain ⟨b', off', e', hc'⟩ := h1 j x hx
  have e2 : b = b' := by rw [e] at e'; cases e'; rfl
  subst e2
  have hlt := World.block_lt_of_cell? _ _ hc
  have hlt' := World.block_lt_of_cell? _ _ hc'
  refine ⟨b, off, e, (World.cell?_of_block (hg.block b hlt (fun hk => ?_))).trans hc⟩
  exact absurd (hr b hk.symm) (Nat.not_le_of_lt hlt')
theorem RdC.nil (w : World) (ao : Option Addr) : RdC w ao [] := fun j x h => by simp at h

theorem Own.rdC {w : World} {B size n : Nat} {v : Value} {cs : List Value} (h : Own w B size v n cs) : ∃ ao cap, v = .slice ao n cap ∧ RdC w ao cs := by
  rcases h with ⟨rfl, rfl, rfl⟩ | ⟨g, cap, rfl, _, r⟩
  · exact ⟨none, 0, rfl, RdC.nil _ _⟩
  · refine ⟨_, cap, rfl, fun j x hx => ⟨g, 0, rfl, ?_⟩⟩
    have hj : j < cs.length := (List.getElem?_eq_some_iff.1 hx).1
    rw [Nat.zero_add, r.holds j (by rw [← r.len]; exact hj), hx]

theorem Own.empty (w : World) (B size : Nat) (e : TypeId) (hB : B ≤ w.heap.size) : Own (w.alloc (.cells #[] e)) B size (.slice (some ⟨w.heap.size, 0, none⟩) 0 0) 0 [] :=
  .inr ⟨w.heap.size, 0, rfl, hB, by simp, Nat.le_refl _, Nat.zero_le _, by simp, fun j hj => by simp at hj, fun j hj => by simp at hj⟩

/-- What a new block yields. -/
theorem src_cells {P : Program} {t e' e : TypeId} {size : Nat} (ht : P.underlying t = some (.slice e')) (w : World) (c m : Nat) (cs xs : List Value) (hm : cs.length = m * size) (hx : xs = cs) (h1 : ∀ u ∈ cs, u.oneCell' = true) :
    Src P size t (.slice (some ⟨w.heap.size, 0, none⟩) m c) m cs (w.alloc (.cells xs.toArray e)) := by
  subst hx
  refine Src.ofSlice _ ht _ _ _ _ hm (fun j u hu => ?_) h1
  rw [Addr.add_lit, Nat.zero_add]
  have e1 : (w.alloc (.cells xs.toArray e)).cell? ⟨w.heap.size, j, none⟩ = _ := World.cell?_alloc_new w _ _ j
  rw [e1]
  simpa using hu

/-- 'append(b, x, y ..)' onto a row of the call's own, for the walk. -/
theorem wpList_push_cells {P : Program} (w W : World) {ops : Array Oper} {rest : List Oper} {o : Oper} {a : Act} {Q : Exit → Act → World → Prop}
    (hg : o.guard = none) (s xo : Operand) (t : TypeId) (hop : o.op = Op.call { callee := Callee.builtin Builtin.append, args := #[s, xo], argTypes := #[t, t] })
    (e : TypeId) (ht : P.underlying t = some (.slice e)) (z : Value) (size bytes : Nat) (hzs : z.cells.size = size) (hinfo : (P.info? e).map (fun i => (i.zero, i.size, i.bytes)) = some (some z, size, bytes))
    (B : Nat) (v : Value) (n : Nat) (cs : List Value) (hs : a.eval s = v) (hown : Own w B size v n cs) (xs news : List Value) (hx : xs = news) (h1 : ∀ u ∈ news, u.oneCell' = true) (m c : Nat) (hm : news.length = m * size)
    (H : Nat) (hxo : a.eval xo = .slice (some ⟨H, 0, none⟩) m c) (hH : w.heap.size = H) (hb : n + m ≤ 1099511627776) (hbb : bytes ≤ 128) (hB : B ≤ w.heap.size) (hW : W = w.alloc (.cells xs.toArray e))
    (hK : ∀ v' w', Own w' B size v' (n + m) (cs ++ news) → w.grownBy w' v.ownBlock → Below B w w' → wpList P ops Q rest (a.put o.dst v') w') :
    wpList P ops Q (o :: rest) a W := by
  subst hW
  subst hH
  have hsz : (w.alloc (.cells xs.toArray e)).heap.size = w.heap.size + 1 := by simp
  have hbytes : (n + m) * bytes ≤ 140737488355328 := Nat.le_trans (Nat.mul_le_mul hb hbb) (by decide)
  refine wpList_append_Own (P := P) _ hg s xo t t hop B e _ size bytes ht hinfo hzs v n cs hs (Own.alloc hown _) _ hxo m news (src_cells ht w c m news xs hm hx h1) (by unfold maxLen; omega) hbytes (by omega) ?_
  intro v' w' h1 h2 _
  have hg' : w.grownBy w' v.ownBlock := ⟨h2.os, h2.tape, h2.output, by have := h2.size; omega, fun k hk hne => (h2.block k (by omega) hne).trans (Below.heap_alloc w _ k hk)⟩
  exact hK v' w' h1 hg' ((Below.refl B w).grown hg' hB (fun k hk => (hown.block k hk).1))

/-! ### Integers -/

def intC (l : List Int) : List Value := l.map (Value.int .i64)
theorem intC_length (l : List Int) : (intC l).length = l.length := by simp [intC]
theorem intC_append (l m : List Int) : intC (l ++ m) = intC l ++ intC m := by simp [intC]
theorem intC_get (l : List Int) (j : Nat) : (intC l)[j]? = (l[j]?).map (Value.int .i64) := by simp [intC]
theorem intC_one (l : List Int) : ∀ u ∈ intC l, u.oneCell' = true := by
  intro u hu
  obtain ⟨_, _, rfl⟩ := List.mem_map.1 hu
  rfl
def RdI (w : World) (ao : Option Addr) (l : List Int) : Prop := RdC w ao (intC l)
def OwnI (w : World) (B : Nat) (v : Value) (l : List Int) : Prop := Own w B 1 v l.length (intC l)
theorem RdI.at_ {w : World} {ao : Option Addr} {l : List Int} (h : RdI w ao l) (j : Nat) (x : Int) (hx : l[j]? = some x) : ∃ b off, ao = some ⟨b, off, none⟩ ∧ w.cell? ⟨b, off + j, none⟩ = some (.int .i64 x) :=
  h j _ (by rw [intC_get, hx]; rfl)
theorem RdI.below {w w' : World} {ao : Option Addr} {l : List Int} {C : Nat} (h : RdI w ao l) (hb : Below C w w') (hC : w.heap.size ≤ C) : RdI w' ao l := RdC.below h hb hC
theorem RdI.kept {w1 w w' : World} {ao : Option Addr} {l : List Int} {row : Option Nat} (h : RdI w ao l) (h1 : RdI w1 ao l) (hg : w.grownBy w' row) (hr : ∀ k, row = some k → w1.heap.size ≤ k) : RdI w' ao l := RdC.kept h h1 hg hr
theorem OwnI.nil (w : World) (B : Nat) : OwnI w B (.slice none 0 0) [] := Own.nil _ _ _
theorem OwnI.empty (w : World) (B : Nat) (e : TypeId) (hB : B ≤ w.heap.size) : OwnI (w.alloc (.cells #[] e)) B (.slice (some ⟨w.heap.size, 0, none⟩) 0 0) [] := Own.empty w B 1 e hB
theorem OwnI.rd {w : World} {B : Nat} {v : Value} {l : List Int} (h : OwnI w B v l) : ∃ ao cap, v = .slice ao l.length cap ∧ RdI w ao l := Own.rdC h
theorem OwnI.below {w w' : World} {B C : Nat} {v : Value} {l : List Int} (h : OwnI w B v l) (hb : Below C w w') (hC : w.heap.size ≤ C) : OwnI w' B v l := Own.below h hb hC

/-- 'append(b, x ..)' onto a []int of the call's own, for the walk. -/
theorem wpList_push_ints {P : Program} (w W : World) {ops : Array Oper} {rest : List Oper} {o : Oper} {a : Act} {Q : Exit → Act → World → Prop}
    (hg : o.guard = none) (s xo : Operand) (t : TypeId) (hop : o.op = Op.call { callee := Callee.builtin Builtin.append, args := #[s, xo], argTypes := #[t, t] })
    (e : TypeId) (ht : P.underlying t = some (.slice e)) (hinfo : (P.info? e).map (fun i => (i.zero, i.size, i.bytes)) = some (some (.int .i64 0), 1, 8))
    (B : Nat) (v : Value) (l : List Int) (hs : a.eval s = v) (hown : OwnI w B v l) (xs : List Value) (news : List Int) (hx : xs = intC news) (m c : Nat) (hm : news.length = m)
    (H : Nat) (hxo : a.eval xo = .slice (some ⟨H, 0, none⟩) m c) (hH : w.heap.size = H) (hb : l.length + m ≤ 1099511627776) (hB : B ≤ w.heap.size) (hW : W = w.alloc (.cells xs.toArray e))
    (hK : ∀ v' w', OwnI w' B v' (l ++ news) → w.grownBy w' v.ownBlock → Below B w w' → wpList P ops Q rest (a.put o.dst v') w') :
    wpList P ops Q (o :: rest) a W := by
  refine wpList_push_cells w W hg s xo t hop e ht _ 1 8 rfl hinfo B v l.length (intC l) hs hown xs (intC news) hx (intC_one _) m c (by rw [intC_length, hm, Nat.mul_one]) H hxo hH hb (by decide) hB hW ?_
  intro v' w' h1 h2 h3
  refine hK v' w' ?_ h2 h3
  unfold OwnI
  rw [intC_append, List.length_append, hm]
  exact h1

/-- The numbers from k on. -/
def nums (k : Int) : Nat → List Int
  | 0 => []
  | n + 1 => k :: nums (k + 1) n
theorem nums_length (k : Int) (n : Nat) : (nums k n).length = n := by
  induction n generalizing k with
  | zero => rfl
  | succ n ih => simp [nums, ih]
theorem nums_get (k : Int) (n j : Nat) (h : j < n) : (nums k n)[j]? = some (k + j) := by
  induction n generalizing k j with
  | zero => omega
  | succ n ih =>
    cases j with
    | zero => simp [nums]
    | succ j => simp only [nums, List.getElem?_cons_succ]; rw [ih (k + 1) j (by omega)]; congr 1; omega
theorem nums_eq {cs : List Value} {K : Int} {N : Nat} (hl : cs.length = N) (h : ∀ j, j < N → cs[j]? = some (.int .i64 (K + j))) : cs = intC (nums K N) := by
  apply List.ext_getElem?
  intro j
  by_cases hj : j < N
  · rw [h j hj, intC_get, nums_get K N j hj]; rfl
  · rw [List.getElem?_eq_none (by omega), List.getElem?_eq_none (by rw [intC_length, nums_length]; omega)]
theorem int_step {l1 l2 : List Int} {k : Nat} {x y : Int} (hx : l1[k]? = some x) (hy : l2[k]? = some y) (h : x = y) (ht : l1.take k = l2.take k) : l1.take (k + 1) = l2.take (k + 1) := by
  rw [List.take_add_one, List.take_add_one, hx, hy, h, ht]

end Go.Proofs.YtcehbmlibfalaaaDoor

/-
  A table of numbers that stands in a block (a package-level array), and the digest's two tables. No program in sight.
-/
namespace Go.Proofs.YtcehbmlibfalaaaDoor
open Go.RowKit

/-- Block g holds these numbers. -/
def TabAt (w : World) (g : Nat) (k : IntKind) (zs : List Int) : Prop := ∀ i x, zs[i]? = some x → w.cell? ⟨g, i, none⟩ = some (.int k x)
theorem TabAt.below {w w' : World} {g : Nat} {k : IntKind} {zs : List Int} {C : Nat} (h : TabAt w g k zs) (hb : Below C w w') (hC : w.heap.size ≤ C) : TabAt w' g k zs := by
  intro i x hx
  have hc := h i x hx
  have hlt := World.block_lt_of_cell? _ _ hc
  exact (hb.cell (p := ⟨g, i, none⟩) (Nat.lt_of_lt_of_le hlt hC)).trans hc

/-- 'a[i]' of an array of numbers by value. -/
theorem idx_arr {P : Program} {t e : TypeId} {n : Nat} {kk k : IntKind} (ht : P.underlying t = some (.array n e)) (he' : P.underlying e = some (.int kk)) (he : (P.info? e).map (·.size) = some 1) (cs : Array Value) (i : Nat) (hi : i < n) (x : Int) (hx : cs[i]? = some (.int kk x)) (w : World) :
    (Instr.index t (.agg cs) (.int k (i : Int))).run P w = .ok (.int kk x) w := by
  obtain ⟨inf, h1, h2⟩ := Option.map_eq_some_iff.1 he
  have h3 : (0 : Int) ≤ (i : Int) ∧ (i : Int) < (n : Int) := by omega
  have e1 : ∀ w', (sizeOf e).run P w' = .ok 1 w' := fun w' => by simp [sizeOf, run_typeInfo w' h1, h2]
  have e2 : ∀ w', (isAgg e).run P w' = .ok false w' := fun w' => by simp [isAgg, run_underlying he']
  simp [Instr.index, run_underlying ht, asIntOf, hi, go_sem, e1, e2, hx]

theorem alloc_at (w : World) (o : Obj) : (w.alloc o).heap[w.heap.size]? = some o := by
  show (w.heap.push o)[w.heap.size]? = some o
  simp
theorem alloc_size (w : World) (o : Obj) : (w.alloc o).heap.size = w.heap.size + 1 := by
  show (w.heap.push o).size = _
  simp
theorem tab_new (w : World) (zs : List Int) (k : IntKind) (t : TypeId) : TabAt (w.alloc (.cells (zs.map (Value.int k)).toArray t)) w.heap.size k zs := by
  intro i x hx
  have e1 : (w.alloc (.cells (zs.map (Value.int k)).toArray t)).cell? ⟨w.heap.size, i, none⟩ = _ := World.cell?_alloc_new w _ _ i
  rw [e1]
  simp [hx]
theorem TabAt.alloc {w : World} {g : Nat} {k : IntKind} {zs : List Int} (h : TabAt w g k zs) (o : Obj) : TabAt (w.alloc o) g k zs :=
  h.below ((Below.refl w.heap.size w).alloc (Nat.le_refl _) o) (Nat.le_refl _)

/-- The first words. -/
def startL : List Int := [1779033703, 3144134277, 1013904242, 2773480762, 1359893119, 2600822924, 528734635, 1541459225]
end Go.Proofs.YtcehbmlibfalaaaDoor

/-
  Plain law: a checksum behind a text; a framed record. No program in sight.
-/
namespace Go.Proofs.YtcehbmlibfalaaaDoor

/-- A number of 32 bits in four bytes, the highest first. -/
def be32 (n : Nat) : List UInt8 := [UInt8.ofNat (n / 16777216), UInt8.ofNat (n / 65536), UInt8.ofNat (n / 256), UInt8.ofNat n]
theorem be32_length (n : Nat) : (be32 n).length = 4 := rfl

/-- The checksum of a text. -/
def crc (l : List UInt8) : Nat := sumL 4294967295 l
theorem crc_lt (l : List UInt8) : crc l < 4294967296 := sumL_lt l (by decide)

/-- The checksum's four bytes. -/
def crc4 (l : List UInt8) : List UInt8 := be32 (crc l)
theorem crc4_length (l : List UInt8) : (crc4 l).length = 4 := rfl

def sealL (l : List UInt8) : List UInt8 := l ++ crc4 l

/-- What stands ahead of a right checksum. -/
def unsealL (l : List UInt8) : Option (List UInt8) :=
  if 4 ≤ l.length ∧ l.length ≤ 20004 ∧ l.drop (l.length - 4) = crc4 (l.take (l.length - 4)) then some (l.take (l.length - 4)) else none

/-- The two results. -/
def optTxt : Option (List UInt8) → Value
  | none => .tuple #[.string ⟨#[]⟩, .bool false]
  | some l => .tuple #[.string (txt l), .bool true]

end Go.Proofs.YtcehbmlibfalaaaDoor

/-
  Plain law: a string with its purpose. And a string that is appended to a []byte. No program in sight.
-/
namespace Go.Proofs.YtcehbmlibfalaaaDoor
open Go.RowKit

/-- 'append(b, s...)' for a []byte of the call's own and a string, for the walk. -/
theorem wpList_push_text {P : Program} (w : World) {ops : Array Oper} {rest : List Oper} {o : Oper} {a : Act} {Q : Exit → Act → World → Prop}
    (hg : o.guard = none) (s xo : Operand) (t tx : TypeId) (hop : o.op = Op.call { callee := Callee.builtin Builtin.append, args := #[s, xo], argTypes := #[t, tx] })
    (e : TypeId) (ht : P.underlying t = some (.slice e)) (htx : P.underlying tx = some .string) (hinfo : (P.info? e).map (fun i => (i.zero, i.size, i.bytes)) = some (some (.int .u8 0), 1, 1))
    (B : Nat) (v : Value) (l : List UInt8) (hs : a.eval s = v) (hown : OwnB w B v l) (x : ByteArray)
    (hxo : a.eval xo = .string x) (hb : l.length + x.size ≤ 70368744177664) (hB : B ≤ w.heap.size)
    (hK : ∀ v' w', OwnB w' B v' (l ++ x.data.toList) → w.grownBy w' v.ownBlock → Below B w w' → wpList P ops Q rest (a.put o.dst v') w') :
    wpList P ops Q (o :: rest) a w := by
  refine wpList_append_Own (P := P) _ hg s xo t tx hop B e _ 1 1 ht hinfo rfl v l.length (u8s l) hs hown _ hxo x.size (byteCells x) (Src.ofString w htx x) (by unfold maxLen; omega) (by omega) (by omega) ?_
  intro v' w' h1 hg' _
  refine hK v' w' ?_ hg' ((Below.refl B w).grown hg' hB (fun k hk => (hown.block k hk).1))
  have hx : x.data.toList.length = x.size := by rw [Array.length_toList]; rfl
  unfold OwnB
  rw [u8s_append, List.length_append, hx]
  exact h1

/-- A []byte that has just been built. -/
theorem OwnB.made (w : World) (B : Nat) (xs : List Value) (l : List UInt8) (hx : xs = u8s l) (m : Nat) (hm : l.length = m) (e : TypeId) (hB : B ≤ w.heap.size) (hmax : m ≤ maxLen) :
    OwnB (w.alloc (.cells xs.toArray e)) B (.slice (some ⟨w.heap.size, 0, none⟩) m m) l := by
  subst hm; subst hx
  unfold OwnB
  have e1 := fun j => World.cell?_alloc_new w (u8s l).toArray e j
  refine .inr ⟨w.heap.size, l.length, rfl, hB, by simp, Nat.le_refl _, hmax, by rw [u8s_length, Nat.mul_one], fun j hj => ?_, fun j hj => ⟨?_, World.frozen?_alloc_new _ _ _ _⟩⟩
  · refine (e1 j).trans ?_
    simp
  · rw [Nat.mul_one] at hj
    have e2 : (w.alloc (.cells (u8s l).toArray e)).cell? ⟨w.heap.size, j, none⟩ = _ := e1 j
    rw [e2, List.getElem?_toArray, List.getElem?_eq_getElem (by rw [u8s_length]; exact hj)]; rfl

def tagBody (ps : List ByteArray) : List UInt8 := ps.flatMap fun p => varL p.size ++ p.data.toList
theorem tagBody_step {l : List ByteArray} {k : Nat} {x : ByteArray} (hx : l[k]? = some x) : tagBody (l.take (k + 1)) = tagBody (l.take k) ++ (varL x.size ++ x.data.toList) := by
  unfold tagBody; rw [List.take_add_one, hx]; simp
theorem tagBody_len {l : List ByteArray} (h : ∀ p ∈ l, p.size ≤ 200) : (tagBody l).length ≤ 203 * l.length := by
  induction l with
  | nil => simp [tagBody]
  | cons x l ih =>
    have h1 := h x (by simp)
    have h2 := ih (fun p hp => h p (by simp [hp]))
    have h3 := varL_length_le 2 x.size (by omega)
    have h4 : x.data.toList.length = x.size := by rw [Array.length_toList]; rfl
    unfold tagBody at *
    rw [List.flatMap_cons, List.length_append, List.length_append, h4, List.length_cons]
    omega

/-- What TagText answers. -/
def tagL (k : Int) (ps : List ByteArray) : Option (List UInt8) := if 1 ≤ k ∧ k ≤ 8 ∧ ps.length ≤ 60 ∧ ∀ p ∈ ps, p.size ≤ 200 then some (UInt8.ofNat k.toNat :: tagBody ps) else none
theorem tagL_yes {k : Int} {ps : List ByteArray} (h : 1 ≤ k ∧ k ≤ 8) (h' : ps.length ≤ 60) (hp : ∀ p ∈ ps, p.size ≤ 200) : optTxt (tagL k ps) = .tuple #[.string (txt (UInt8.ofNat k.toNat :: tagBody ps)), .bool true] := by
  rw [tagL, if_pos ⟨h.1, h.2, h', hp⟩]; rfl
theorem tagL_no {k : Int} {ps : List ByteArray} (h : ¬ (1 ≤ k ∧ k ≤ 8 ∧ ps.length ≤ 60 ∧ ∀ p ∈ ps, p.size ≤ 200)) : optTxt (tagL k ps) = .tuple #[.string ⟨#[]⟩, .bool false] := by
  rw [tagL, if_neg h]; rfl
theorem all_step {l : List ByteArray} {k : Nat} {x : ByteArray} {p : ByteArray → Prop} (hx : l[k]? = some x) (h : ∀ y ∈ l.take k, p y) (hp : p x) : ∀ y ∈ l.take (k + 1), p y := by
  intro y hy
  rw [List.take_add_one, hx] at hy
  rcases List.mem_append.1 hy with hy | hy
  · exact h y hy
  · simp at hy; rw [hy]; exact hp

end Go.Proofs.YtcehbmlibfalaaaDoor

/-
  Appending to a row of the call's own, with the word where the new row lies: two rows of the call's own stay apart. No program in sight.
-/
namespace Go.Proofs.YtcehbmlibfalaaaDoor
open Go.RowKit
section
variable {P : Program}

/-- append onto a row of the call's own, out of whatever source. -/
theorem run_append_Own2 (w : World) (B : Nat) (t tx ty e : TypeId) (i : TypeInfo) (z : Value) (size bytes : Nat) (ht : P.underlying t = some (.slice e)) (hi : P.info? e = some i) (hz : i.zero = some z)
    (hsize : i.size = size) (hby : i.bytes = bytes) (hzs : z.cells.size = size)
    (v : Value) (n : Nat) (cs : List Value) (h : Own w B size v n cs) (x : Value) (m : Nat) (news : List Value) (hs : Src P size tx x m news w)
    (h63 : n + m ≤ maxLen) (hbytes : (n + m) * bytes ≤ 140737488355328) (hB : B ≤ w.heap.size) :
    ∃ v' w', (Builtin.append_ #[t, tx] ty #[v, x]).run P w = .ok v' w' ∧ Own w' B size v' (n + m) (cs ++ news) ∧ w.grownBy w' v.ownBlock ∧ (v' = .slice none 0 0 ↔ v = .slice none 0 0 ∧ m = 0) ∧ (∀ k, v'.ownBlock = some k → v.ownBlock = some k ∨ w.heap.size ≤ k) := by
  subst hsize
  subst hby
  have hnl := hs.newsLen
  have hcl := h.len
  have hsmall : n + m ≤ 9223372036854775807 := by simp only [maxLen] at h63; omega
  -- a new row
  have grow : ∀ (bs : Option Addr) (sc : Nat), v = .slice bs n sc → sc < n + m →
      (Builtin.firstCells i.size n (.slice bs n sc)).run P w.drew = .ok cs.toArray w.drew →
      ∃ v' w', (Builtin.append_ #[t, tx] ty #[v, x]).run P w = .ok v' w' ∧ Own w' B i.size v' (n + m) (cs ++ news) ∧ w.grownBy w' v.ownBlock ∧ v' ≠ .slice none 0 0 ∧ (∀ k, v'.ownBlock = some k → w.heap.size ≤ k) := by
    rintro bs sc rfl hg hold
    have hrun := run_append_grow_src (P := P) w t tx ty e i z ht hi hz bs n sc cs hold x m news hs hg (by omega) (growslice_fits hg hbytes)
    have hge := grownCap_ge w (n + m) sc e
    have hcm := grownCap_le_maxLen w (n + m) sc e h63
    have hL : (cs ++ news).length = (n + m) * i.size := by rw [List.length_append, hcl, hnl, Nat.add_mul]
    refine ⟨_, _, hrun, .inr ⟨w.heap.size, _, rfl, hB, ?_, hge, hcm, hL, fun j hj => ?_, fun j hj => ⟨?_, ?_⟩⟩, ⟨rfl, rfl, rfl, by simp, fun k hk _ => Below.heap_alloc w.drew _ k hk⟩, by simp, fun k hk => by cases hk; exact Nat.le_refl _⟩
    · simp
    · have e1 : (w.drew.alloc (.cells ((cs ++ news).toArray ++ Builtin.zeroCells z.cells (grownCap w (n + m) sc e - (n + m))) e)).cell? ⟨w.heap.size, j, none⟩ = _ := World.cell?_alloc_new w.drew _ _ j
      rw [e1, Array.getElem?_append_left (by simp only [List.size_toArray]; rw [hL]; exact hj), List.getElem?_toArray]
    · have e1 : (w.drew.alloc (.cells ((cs ++ news).toArray ++ Builtin.zeroCells z.cells (grownCap w (n + m) sc e - (n + m))) e)).cell? ⟨w.heap.size, j, none⟩ = _ := World.cell?_alloc_new w.drew _ _ j
      rw [e1]
      have hsz : ((cs ++ news).toArray ++ Builtin.zeroCells z.cells (grownCap w (n + m) sc e - (n + m))).size = grownCap w (n + m) sc e * i.size := by
        rw [Array.size_append, List.size_toArray, hL, size_zeroCells, hzs, ← Nat.add_mul]
        congr 1
        omega
      rw [Array.getElem?_eq_getElem (by rw [hsz]; exact hj)]
      rfl
    · exact World.frozen?_alloc_new w.drew _ _ j
  rcases h with ⟨rfl, rfl, rfl⟩ | ⟨g, cap, rfl, hBg, r⟩
  · rcases Nat.eq_zero_or_pos m with rfl | hm
    · obtain rfl : news = [] := List.eq_nil_of_length_eq_zero (by simpa using hnl)
      exact ⟨_, _, run_append_nothing (P := P) w t tx ty e i ht hi none 0 0 (Nat.le_refl _) x hs, .inl ⟨rfl, rfl, rfl⟩, World.grownBy.refl _ _, by simp, fun k hk => by cases hk⟩
    · obtain ⟨v', w', h1, h2, h3, h4, h5⟩ := grow none 0 rfl (by omega) (run_firstCells_none w.drew i.size 0 0 0)
      exact ⟨v', w', h1, h2, h3, ⟨fun e' => absurd e' h4, fun ⟨_, e'⟩ => by omega⟩, fun k hk => .inr (h5 k hk)⟩
  · by_cases hfit : n + m ≤ cap
    · have hrc : (n + m) * i.size ≤ cap * i.size := Nat.mul_le_mul_right _ hfit
      rw [Nat.add_mul] at hrc
      have hsome : ∀ j, j < news.length → (w.cell? ⟨g, 0 + n * i.size + j, none⟩).isSome = true := fun j hj => by rw [Nat.zero_add]; exact (r.there _ (by omega)).1
      have hrun := run_append_room_src (P := P) w t tx ty e i ht hi g 0 n cap x m news hs hfit hsome (fun j hj => by rw [Nat.zero_add]; exact (r.there _ (by omega)).2)
      refine ⟨_, _, hrun, .inr ⟨g, cap, rfl, hBg, by rw [size_setCells]; exact r.lt, hfit, r.max, by rw [List.length_append, hcl, hnl, Nat.add_mul], fun j hj => ?_, fun j hj => ⟨?_, (World.frozen?_setCells g _ _ _ _).trans (r.there j hj).2⟩⟩, grownBy_setCells w g _ news, by simp, fun k hk => .inl hk⟩
      · rw [Nat.add_mul] at hj
        by_cases hjo : j < n * i.size
        · rw [World.cell?_setCells_out g _ _ _ _ (fun _ _ => Or.inl (by show j < 0 + n * i.size; omega)), List.getElem?_append_left (by omega)]
          exact r.holds j hjo
        · have ht' : j - n * i.size < news.length := by omega
          have := World.cell?_setCells_in g news (0 + n * i.size) w hsome (j - n * i.size) ht'
          rw [show 0 + n * i.size + (j - n * i.size) = j by omega] at this
          rw [this, List.getElem?_append_right (by omega), hcl, List.getElem?_eq_getElem ht']
      · by_cases hin : n * i.size ≤ j ∧ j < n * i.size + news.length
        · have := World.cell?_setCells_in g news (0 + n * i.size) w hsome (j - n * i.size) (by omega)
          rw [show 0 + n * i.size + (j - n * i.size) = j by omega] at this
          rw [this]; rfl
        · rw [World.cell?_setCells_out g _ _ _ _ (fun _ _ => by show j < 0 + n * i.size ∨ 0 + n * i.size + news.length ≤ j; omega)]
          exact (r.there j hj).1
    · obtain ⟨v', w', h1, h2, h3, h4, h5⟩ := grow (some ⟨g, 0, none⟩) cap rfl (by omega) (run_firstCells_some w.drew i.size n ⟨g, 0, none⟩ n cap cs hcl (fun j u hu => by
        rw [Addr.add_lit, Nat.zero_add]
        have hj : j < n * i.size := by rw [← hcl]; exact (List.getElem?_eq_some_iff.1 hu).1
        exact (r.holds j hj).trans hu))
      exact ⟨v', w', h1, h2, h3, ⟨fun e' => absurd e' h4, fun ⟨e', _⟩ => by cases e'⟩, fun k hk => .inr (h5 k hk)⟩

end

/-- 'append(b, x, y ..)' onto a []string of the call's own, for the walk. -/
theorem wpList_push_strs2 {P : Program} (w W : World) {ops : Array Oper} {rest : List Oper} {o : Oper} {a : Act} {Q : Exit → Act → World → Prop}
    (hg : o.guard = none) (s xo : Operand) (t : TypeId) (hop : o.op = Op.call { callee := Callee.builtin Builtin.append, args := #[s, xo], argTypes := #[t, t] })
    (e : TypeId) (ht : P.underlying t = some (.slice e)) (hinfo : (P.info? e).map (fun i => (i.zero, i.size, i.bytes)) = some (some (.string ⟨#[]⟩), 1, 16))
    (B : Nat) (v : Value) (l : List ByteArray) (hs : a.eval s = v) (hown : OwnS w B v l) (xs : List Value) (news : List ByteArray) (hx : xs = strC news) (m c : Nat) (hm : news.length = m)
    (H : Nat) (hxo : a.eval xo = .slice (some ⟨H, 0, none⟩) m c) (hH : w.heap.size = H) (hb : l.length + m ≤ 1099511627776) (hB : B ≤ w.heap.size) (hW : W = w.alloc (.cells xs.toArray e))
    (hK : ∀ v' w', OwnS w' B v' (l ++ news) → w.grownBy w' v.ownBlock → Below B w w' → (∀ k, v'.ownBlock = some k → v.ownBlock = some k ∨ w.heap.size ≤ k) → wpList P ops Q rest (a.put o.dst v') w') :
    wpList P ops Q (o :: rest) a W := by
  subst hW
  subst hH
  have hsz : (w.alloc (.cells xs.toArray e)).heap.size = w.heap.size + 1 := by simp
  refine wpList_plain hg fun K hK' => ?_
  obtain ⟨i, hi, hz, hsize, hby⟩ := info_parts hinfo
  obtain ⟨v', w', hrun, r1, r2, r3, r4⟩ := run_append_Own2 (P := P) (w.alloc (.cells xs.toArray e)) B t t o.type e i _ 1 16 ht hi hz hsize hby rfl v l.length (strC l) (Own.alloc hown _) _ m (strC news) (src_strs ht w c m news xs hm hx) (by unfold maxLen; omega) (by omega) (by omega)
  unfold Oper.wp
  simp [execOp, hop, resolve, invoke, builtin, hs, hxo, hrun, Result.andThen]
  have hg' : w.grownBy w' v.ownBlock := ⟨r2.os, r2.tape, r2.output, by have := r2.size; omega, fun k hk hne => (r2.block k (by omega) hne).trans (Below.heap_alloc w _ k hk)⟩
  refine hK' _ _ (hK v' w' ?_ hg' ((Below.refl B w).grown hg' hB (fun k hk => (hown.block k hk).1)) (fun k hk => (r4 k hk).imp id (fun h => by omega)))
  unfold OwnS
  rw [strC_append, List.length_append, hm]
  exact r1

/-- 'append(b, x, y ..)' onto a []string of the call's own, at a step of a region that draws. -/
theorem step_push_strs2 {P : Program} (w W : World) {ops : Array Oper} {o : Oper} {a : Act} {K : Act → World → Prop} {Q : Exit → Act → World → Prop} {E : Prop}
    (hg : o.guard = none) (s xo : Operand) (t : TypeId) (hop : o.op = Op.call { callee := Callee.builtin Builtin.append, args := #[s, xo], argTypes := #[t, t] })
    (e : TypeId) (ht : P.underlying t = some (.slice e)) (hinfo : (P.info? e).map (fun i => (i.zero, i.size, i.bytes)) = some (some (.string ⟨#[]⟩), 1, 16))
    (B : Nat) (v : Value) (l : List ByteArray) (hs : a.eval s = v) (hown : OwnS w B v l) (xs : List Value) (news : List ByteArray) (hx : xs = strC news) (m c : Nat) (hm : news.length = m)
    (H : Nat) (hxo : a.eval xo = .slice (some ⟨H, 0, none⟩) m c) (hH : w.heap.size = H) (hb : l.length + m ≤ 1099511627776) (hB : B ≤ w.heap.size) (hW : W = w.alloc (.cells xs.toArray e))
    (hK : ∀ v' w', OwnS w' B v' (l ++ news) → w.grownBy w' v.ownBlock → Below B w w' → (∀ k, v'.ownBlock = some k → v.ownBlock = some k ∨ w.heap.size ≤ k) → K (a.put o.dst v') w') :
    if Region.wanted o (yielded ops a.tmps) = true then Oper.wp P o a W K Q else E := by
  have hw : Region.wanted o (yielded ops a.tmps) = true := by simp [Region.wanted, hg]
  rw [if_pos hw]
  subst hW
  subst hH
  have hsz : (w.alloc (.cells xs.toArray e)).heap.size = w.heap.size + 1 := by simp
  obtain ⟨i, hi, hz, hsize, hby⟩ := info_parts hinfo
  obtain ⟨v', w', hrun, r1, r2, r3, r4⟩ := run_append_Own2 (P := P) (w.alloc (.cells xs.toArray e)) B t t o.type e i _ 1 16 ht hi hz hsize hby rfl v l.length (strC l) (Own.alloc hown _) _ m (strC news) (src_strs ht w c m news xs hm hx) (by unfold maxLen; omega) (by omega) (by omega)
  unfold Oper.wp
  simp [execOp, hop, resolve, invoke, builtin, hs, hxo, hrun, Result.andThen]
  have hg' : w.grownBy w' v.ownBlock := ⟨r2.os, r2.tape, r2.output, by have := r2.size; omega, fun k hk hne => (r2.block k (by omega) hne).trans (Below.heap_alloc w _ k hk)⟩
  refine hK v' w' ?_ hg' ((Below.refl B w).grown hg' hB (fun k hk => (hown.block k hk).1)) (fun k hk => (r4 k hk).imp id (fun h => by omega))
  unfold OwnS
  rw [strC_append, List.length_append, hm]
  exact r1

/-- Two rows apart stay apart where the one grows. -/
theorem apart_grow {u v v' : Value} {w : World} (h : u.ownBlock = none ∨ u.ownBlock ≠ v.ownBlock) (hu : ∀ k, u.ownBlock = some k → k < w.heap.size) (hv : ∀ k, v'.ownBlock = some k → v.ownBlock = some k ∨ w.heap.size ≤ k) : u.ownBlock = none ∨ u.ownBlock ≠ v'.ownBlock := by
  cases hn : u.ownBlock with
  | none => exact .inl rfl
  | some k =>
    refine .inr (fun e => ?_)
    rcases hv k e.symm with h2 | h2
    · rcases h with h | h
      · rw [hn] at h; cases h
      · exact h (hn.trans h2.symm)
    · have := hu k hn; omega

end Go.Proofs.YtcehbmlibfalaaaDoor

/-
  Appending strings to a row of the call's own, at a step of a region that draws its order. No program in sight.
-/
namespace Go.Proofs.YtcehbmlibfalaaaDoor
open Go.RowKit

/-- 'append(b, x, y ..)' onto a []string of the call's own, at a step of a region that draws. -/
theorem step_push_strs {P : Program} (w W : World) {ops : Array Oper} {o : Oper} {a : Act} {K : Act → World → Prop} {Q : Exit → Act → World → Prop} {E : Prop}
    (hg : o.guard = none) (s xo : Operand) (t : TypeId) (hop : o.op = Op.call { callee := Callee.builtin Builtin.append, args := #[s, xo], argTypes := #[t, t] })
    (e : TypeId) (ht : P.underlying t = some (.slice e)) (hinfo : (P.info? e).map (fun i => (i.zero, i.size, i.bytes)) = some (some (.string ⟨#[]⟩), 1, 16))
    (B : Nat) (v : Value) (l : List ByteArray) (hs : a.eval s = v) (hown : OwnS w B v l) (xs : List Value) (news : List ByteArray) (hx : xs = strC news) (m c : Nat) (hm : news.length = m)
    (H : Nat) (hxo : a.eval xo = .slice (some ⟨H, 0, none⟩) m c) (hH : w.heap.size = H) (hb : l.length + m ≤ 1099511627776) (hB : B ≤ w.heap.size) (hW : W = w.alloc (.cells xs.toArray e))
    (hK : ∀ v' w', OwnS w' B v' (l ++ news) → w.grownBy w' v.ownBlock → Below B w w' → K (a.put o.dst v') w') :
    if Region.wanted o (yielded ops a.tmps) = true then Oper.wp P o a W K Q else E := by
  have hw : Region.wanted o (yielded ops a.tmps) = true := by simp [Region.wanted, hg]
  rw [if_pos hw]
  subst hW
  subst hH
  have hsz : (w.alloc (.cells xs.toArray e)).heap.size = w.heap.size + 1 := by simp
  obtain ⟨i, hi, hz, hsize, hby⟩ := info_parts hinfo
  obtain ⟨v', w', hrun, r1, r2, r3⟩ := run_append_Own (P := P) (w.alloc (.cells xs.toArray e)) B t t o.type e i _ 1 16 ht hi hz hsize hby rfl v l.length (strC l) (Own.alloc hown _) _ m (strC news) (src_strs ht w c m news xs hm hx) (by unfold maxLen; omega) (by omega) (by omega)
  unfold Oper.wp
  simp [execOp, hop, resolve, invoke, builtin, hs, hxo, hrun, Result.andThen]
  have hg' : w.grownBy w' v.ownBlock := ⟨r2.os, r2.tape, r2.output, by have := r2.size; omega, fun k hk hne => (r2.block k (by omega) hne).trans (Below.heap_alloc w _ k hk)⟩
  refine hK v' w' ?_ hg' ((Below.refl B w).grown hg' hB (fun k hk => (hown.block k hk).1))
  unfold OwnS
  rw [strC_append, List.length_append, hm]
  exact r1

end Go.Proofs.YtcehbmlibfalaaaDoor

/-
  What a slice of strings that came in yields to append. No program in sight.
-/
namespace Go.Proofs.YtcehbmlibfalaaaDoor
open Go.RowKit

theorem RdS.src {P : Program} {t e' : TypeId} (ht : P.underlying t = some (.slice e')) {w : World} {ao : Option Addr} {l : List ByteArray} (h : RdS w ao l) (c : Nat) :
    Src P 1 t (.slice ao l.length c) l.length (strC l) w := by
  cases ao with
  | none =>
    cases l with
    | nil => exact Src.ofNil w ht c
    | cons x r => obtain ⟨b, off, he, _⟩ := h 0 x rfl; cases he
  | some a =>
    refine Src.ofSlice _ ht _ _ _ _ (by rw [strC_length, Nat.mul_one]) (fun j u hu => ?_) (strC_one _)
    rw [strC_get] at hu
    obtain ⟨x, hx, rfl⟩ := Option.map_eq_some_iff.1 hu
    obtain ⟨b, off, he, hc⟩ := h j x hx
    cases he
    rw [Addr.add_lit]
    exact hc

end Go.Proofs.YtcehbmlibfalaaaDoor
