/-
  The kit of this set: rows of memory that the call itself has made (whatever mark their block bears), append onto them from whatever source, and their reading back as strings. No program in sight: it speaks of every program.
-/
import Derived.WalkKit
import Derived.WalkSpells
import Derived.WalkLawsBesides
import Derived.Lib.Hide
import Derived.Lib.BufferRead
import Derived.Deep.AppendSrc
import Derived.Deep.Upon
import Derived.Deep.Cut
import Derived.Deep.CutRange
import Derived.Deep.LoopGhost
import Derived.Deep.QuietTactic
import Derived.BigQuiet
import Derived.Deep.RegionWith
import Derived.Lib.QuietBelow
import Derived.StillTailTactics
import Derived.Deep.RegionHeld3
namespace Go.Proofs.YtcehbmlibfalaaaDoor
open Go.RowKit

/-- Block g is a row of capacity cap whose first n elements hold the cells cs; every cell up to the capacity is there and may be written. -/
structure Row (w : World) (g cap size n : Nat) (cs : List Value) : Prop where
  lt : g < w.heap.size
  le : n ≤ cap
  max : cap ≤ maxLen
  len : cs.length = n * size
  holds : ∀ j, j < n * size → w.cell? ⟨g, j, none⟩ = cs[j]?
  there : ∀ j, j < cap * size → (w.cell? ⟨g, j, none⟩).isSome = true ∧ w.frozen? ⟨g, j, none⟩ = false

/-- The slice value v has n elements and owns their cells: it is nil, or it stands at the head of a row from block B on. -/
def Own (w : World) (B size : Nat) (v : Value) (n : Nat) (cs : List Value) : Prop :=
  (v = .slice none 0 0 ∧ n = 0 ∧ cs = []) ∨ ∃ g cap, v = .slice (some ⟨g, 0, none⟩) n cap ∧ B ≤ g ∧ Row w g cap size n cs

theorem Row.keep {w w' : World} {g cap size n : Nat} {cs : List Value} (h : Row w g cap size n cs) (hs : w.heap.size ≤ w'.heap.size) (hb : w'.heap[g]? = w.heap[g]?) : Row w' g cap size n cs :=
  ⟨Nat.lt_of_lt_of_le h.lt hs, h.le, h.max, h.len, fun j hj => (World.cell?_of_block (a := ⟨g, j, none⟩) hb).trans (h.holds j hj),
    fun j hj => ⟨by rw [World.cell?_of_block (a := ⟨g, j, none⟩) hb]; exact (h.there j hj).1, (World.frozen?_of_block (a := ⟨g, j, none⟩) hb).trans (h.there j hj).2⟩⟩

theorem Own.nil (w : World) (B size : Nat) : Own w B size (.slice none 0 0) 0 [] := .inl ⟨rfl, rfl, rfl⟩

theorem Own.len {w : World} {B size : Nat} {v : Value} {n : Nat} {cs : List Value} (h : Own w B size v n cs) : cs.length = n * size := by
  rcases h with ⟨_, rfl, rfl⟩ | ⟨g, cap, _, _, r⟩
  · simp
  · exact r.len

theorem Own.shape {w : World} {B size : Nat} {v : Value} {n : Nat} {cs : List Value} (h : Own w B size v n cs) : ∃ ao cap, v = .slice ao n cap := by
  rcases h with ⟨rfl, rfl, _⟩ | ⟨g, cap, rfl, _, _⟩
  · exact ⟨_, _, rfl⟩
  · exact ⟨_, _, rfl⟩

theorem Own.mono {w : World} {B B' size : Nat} {v : Value} {n : Nat} {cs : List Value} (h : Own w B size v n cs) (hB : B' ≤ B) : Own w B' size v n cs :=
  h.imp id fun ⟨g, cap, h1, h2, h3⟩ => ⟨g, cap, h1, Nat.le_trans hB h2, h3⟩

theorem Own.block {w : World} {B size : Nat} {v : Value} {n : Nat} {cs : List Value} (h : Own w B size v n cs) : ∀ k, v.ownBlock = some k → B ≤ k ∧ k < w.heap.size := by
  intro k hk
  rcases h with ⟨rfl, _⟩ | ⟨g, cap, rfl, hb, r⟩
  · simp [Value.ownBlock] at hk
  · simp [Value.ownBlock] at hk
    subst hk
    exact ⟨hb, r.lt⟩

/-- The row is kept where its own block is. -/
theorem Own.kept {w w' : World} {B size : Nat} {v : Value} {n : Nat} {cs : List Value} {row : Option Nat} (h : Own w B size v n cs) (hg : w.grownBy w' row) (hne : v.ownBlock = none ∨ v.ownBlock ≠ row) : Own w' B size v n cs := by
  rcases h with h | ⟨g, cap, rfl, hb, r⟩
  · exact .inl h
  · exact .inr ⟨g, cap, rfl, hb, r.keep hg.size (hg.block g r.lt (by simpa [Value.ownBlock] using hne))⟩

/-- Behind a call that turns nothing that was there. -/
theorem Own.below {w w' : World} {B C size : Nat} {v : Value} {n : Nat} {cs : List Value} (h : Own w B size v n cs) (hb : Below C w w') (hC : w.heap.size ≤ C) : Own w' B size v n cs := by
  rcases h with h | ⟨g, cap, rfl, hB, r⟩
  · exact .inl h
  · exact .inr ⟨g, cap, rfl, hB, r.keep hb.size (hb.block g (Nat.lt_of_lt_of_le r.lt hC))⟩

theorem Own.alloc {w : World} {B size : Nat} {v : Value} {n : Nat} {cs : List Value} (h : Own w B size v n cs) (o : Obj) : Own (w.alloc o) B size v n cs :=
  h.kept (World.grownBy_alloc w o none) (by cases hv : v.ownBlock <;> simp)

theorem Own.drew {w : World} {B size : Nat} {v : Value} {n : Nat} {cs : List Value} (h : Own w B size v n cs) : Own w.drew B size v n cs :=
  h.imp id fun ⟨g, cap, h1, h2, r⟩ => ⟨g, cap, h1, h2, r.keep (Nat.le_refl _) rfl⟩
theorem Own.drewN {w : World} {B size : Nat} {v : Value} {n : Nat} {cs : List Value} (h : Own w B size v n cs) (q : Nat) : Own (w.drewN q) B size v n cs :=
  h.imp id fun ⟨g, cap, h1, h2, r⟩ => ⟨g, cap, h1, h2, r.keep (Nat.le_refl _) rfl⟩

/-- Another block is written. -/
theorem Own.setCell {w : World} {B size : Nat} {v : Value} {n : Nat} {cs : List Value} (h : Own w B size v n cs) {a : Addr} (ha : a.block < B) (u : Value) : Own (w.setCell a u) B size v n cs := by
  rcases h with h | ⟨g, cap, rfl, hB, r⟩
  · exact .inl h
  · exact .inr ⟨g, cap, rfl, hB, r.keep (by simp [World.setCell]) (Below.heap_setCell _ _ _ _ (by omega))⟩

theorem tape_setCells (b : Nat) : ∀ (vs : List Value) (o : Nat) (w : World), (w.setCells b o vs).tape = w.tape
  | [], _, _ => rfl
  | v :: r, o, w => by rw [World.setCells, tape_setCells b r]; rfl

theorem size_setCells (b : Nat) : ∀ (vs : List Value) (o : Nat) (w : World), (w.setCells b o vs).heap.size = w.heap.size
  | [], _, _ => rfl
  | v :: r, o, w => by rw [World.setCells, size_setCells b r]; simp [World.setCell]

theorem grownBy_setCells (w : World) (g o : Nat) (vs : List Value) : w.grownBy (w.setCells g o vs) (some g) :=
  ⟨World.os_setCells _ _ _ _, tape_setCells _ _ _ _, World.output_setCells _ _ _ _, by rw [size_setCells]; exact Nat.le_refl _,
    fun k hk hne => World.heap_setCells_other w g o vs hk (by simpa using hne)⟩

section
variable {P : Program}

/-- append onto a row of the call's own, out of whatever source. -/
theorem run_append_Own (w : World) (B : Nat) (t tx ty e : TypeId) (i : TypeInfo) (z : Value) (size bytes : Nat) (ht : P.underlying t = some (.slice e)) (hi : P.info? e = some i) (hz : i.zero = some z)
    (hsize : i.size = size) (hby : i.bytes = bytes) (hzs : z.cells.size = size)
    (v : Value) (n : Nat) (cs : List Value) (h : Own w B size v n cs) (x : Value) (m : Nat) (news : List Value) (hs : Src P size tx x m news w)
    (h63 : n + m ≤ maxLen) (hbytes : (n + m) * bytes ≤ 140737488355328) (hB : B ≤ w.heap.size) :
    ∃ v' w', (Builtin.append_ #[t, tx] ty #[v, x]).run P w = .ok v' w' ∧ Own w' B size v' (n + m) (cs ++ news) ∧ w.grownBy w' v.ownBlock ∧ (v' = .slice none 0 0 ↔ v = .slice none 0 0 ∧ m = 0) := by
  subst hsize
  subst hby
  have hnl := hs.newsLen
  have hcl := h.len
  have hsmall : n + m ≤ 9223372036854775807 := by simp only [maxLen] at h63; omega
  -- a new row
  have grow : ∀ (bs : Option Addr) (sc : Nat), v = .slice bs n sc → sc < n + m →
      (Builtin.firstCells i.size n (.slice bs n sc)).run P w.drew = .ok cs.toArray w.drew →
      ∃ v' w', (Builtin.append_ #[t, tx] ty #[v, x]).run P w = .ok v' w' ∧ Own w' B i.size v' (n + m) (cs ++ news) ∧ w.grownBy w' v.ownBlock ∧ v' ≠ .slice none 0 0 := by
    rintro bs sc rfl hg hold
    have hrun := run_append_grow_src (P := P) w t tx ty e i z ht hi hz bs n sc cs hold x m news hs hg (by omega) (growslice_fits hg hbytes)
    have hge := grownCap_ge w (n + m) sc e
    have hcm := grownCap_le_maxLen w (n + m) sc e h63
    have hL : (cs ++ news).length = (n + m) * i.size := by rw [List.length_append, hcl, hnl, Nat.add_mul]
    refine ⟨_, _, hrun, .inr ⟨w.heap.size, _, rfl, hB, ?_, hge, hcm, hL, fun j hj => ?_, fun j hj => ⟨?_, ?_⟩⟩, ⟨rfl, rfl, rfl, by simp, fun k hk _ => Below.heap_alloc w.drew _ k hk⟩, by simp⟩
    · simp
    · have e1 : (w.drew.alloc (.cells ((cs ++ news).toArray ++ Builtin.zeroCells z.cells (grownCap w (n + m) sc e - (n + m))) e)).cell? ⟨w.heap.size, j, none⟩ = _ := World.cell?_alloc_new w.drew _ _ j
      rw [e1, Array.getElem?_append_left (by simp only [List.size_toArray]; rw [hL]; exact hj), List.getElem?_toArray]
    · have e1 : (w.drew.alloc (.cells ((cs ++ news).toArray ++ Builtin.zeroCells z.cells (grownCap w (n + m) sc e - (n + m))) e)).cell? ⟨w.heap.size, j, none⟩ = _ := World.cell?_alloc_new w.drew _ _ j
      rw [e1]
      have hsz : ((cs ++ news).toArray ++ Builtin.zeroCells z.cells (grownCap w (n + m) sc e - (n + m))).size = grownCap w (n + m) sc e * i.size := by
        rw [Array.size_append, List.size_toArray, hL, size_zeroCells, hzs, ← Nat.add_mul]
        congr 1
        omega
      rw [Array.getElem?_eq_getElem (by rw [hsz]; exact hj)]
      rfl
    · exact World.frozen?_alloc_new w.drew _ _ j
  rcases h with ⟨rfl, rfl, rfl⟩ | ⟨g, cap, rfl, hBg, r⟩
  · rcases Nat.eq_zero_or_pos m with rfl | hm
    · obtain rfl : news = [] := List.eq_nil_of_length_eq_zero (by simpa using hnl)
      exact ⟨_, _, run_append_nothing (P := P) w t tx ty e i ht hi none 0 0 (Nat.le_refl _) x hs, .inl ⟨rfl, rfl, rfl⟩, World.grownBy.refl _ _, by simp⟩
    · obtain ⟨v', w', h1, h2, h3, h4⟩ := grow none 0 rfl (by omega) (run_firstCells_none w.drew i.size 0 0 0)
      exact ⟨v', w', h1, h2, h3, ⟨fun e' => absurd e' h4, fun ⟨_, e'⟩ => by omega⟩⟩
  · by_cases hfit : n + m ≤ cap
    · have hrc : (n + m) * i.size ≤ cap * i.size := Nat.mul_le_mul_right _ hfit
      rw [Nat.add_mul] at hrc
      have hsome : ∀ j, j < news.length → (w.cell? ⟨g, 0 + n * i.size + j, none⟩).isSome = true := fun j hj => by rw [Nat.zero_add]; exact (r.there _ (by omega)).1
      have hrun := run_append_room_src (P := P) w t tx ty e i ht hi g 0 n cap x m news hs hfit hsome (fun j hj => by rw [Nat.zero_add]; exact (r.there _ (by omega)).2)
      refine ⟨_, _, hrun, .inr ⟨g, cap, rfl, hBg, by rw [size_setCells]; exact r.lt, hfit, r.max, by rw [List.length_append, hcl, hnl, Nat.add_mul], fun j hj => ?_, fun j hj => ⟨?_, (World.frozen?_setCells g _ _ _ _).trans (r.there j hj).2⟩⟩, grownBy_setCells w g _ news, by simp⟩
      · rw [Nat.add_mul] at hj
        by_cases hjo : j < n * i.size
        · rw [World.cell?_setCells_out g _ _ _ _ (fun _ _ => Or.inl (by show j < 0 + n * i.size; omega)), List.getElem?_append_left (by omega)]
          exact r.holds j hjo
        · have ht' : j - n * i.size < news.length := by omega
          have := World.cell?_setCells_in g news (0 + n * i.size) w hsome (j - n * i.size) ht'
          rw [show 0 + n * i.size + (j - n * i.size) = j by omega] at this
          rw [this, List.getElem?_append_right (by omega), hcl, List.getElem?_eq_getElem ht']
      · by_cases hin : n * i.size ≤ j ∧ j < n * i.size + news.length
        · have := World.cell?_setCells_in g news (0 + n * i.size) w hsome (j - n * i.size) (by omega)
          rw [show 0 + n * i.size + (j - n * i.size) = j by omega] at this
          rw [this]; rfl
        · rw [World.cell?_setCells_out g _ _ _ _ (fun _ _ => by show j < 0 + n * i.size ∨ 0 + n * i.size + news.length ≤ j; omega)]
          exact (r.there j hj).1
    · obtain ⟨v', w', h1, h2, h3, h4⟩ := grow (some ⟨g, 0, none⟩) cap rfl (by omega) (run_firstCells_some w.drew i.size n ⟨g, 0, none⟩ n cap cs hcl (fun j u hu => by
        rw [Addr.add_lit, Nat.zero_add]
        have hj : j < n * i.size := by rw [← hcl]; exact (List.getElem?_eq_some_iff.1 hu).1
        exact (r.holds j hj).trans hu))
      exact ⟨v', w', h1, h2, h3, ⟨fun e' => absurd e' h4, fun ⟨e', _⟩ => by cases e'⟩⟩

/-- The same, for the walk. -/
theorem wpList_append_Own (w : World) {ops : Array Oper} {rest : List Oper} {o : Oper} {a : Act} {Q : Exit → Act → World → Prop}
    (hg : o.guard = none) (s xo : Operand) (t tx : TypeId) (hop : o.op = Op.call { callee := Callee.builtin Builtin.append, args := #[s, xo], argTypes := #[t, tx] })
    (B : Nat) (e : TypeId) (z : Value) (size bytes : Nat) (ht : P.underlying t = some (.slice e)) (hinfo : (P.info? e).map (fun i => (i.zero, i.size, i.bytes)) = some (some z, size, bytes)) (hzs : z.cells.size = size)
    (v : Value) (n : Nat) (cs : List Value) (hsv : a.eval s = v) (h : Own w B size v n cs) (x : Value) (hx : a.eval xo = x) (m : Nat) (news : List Value) (hs : Src P size tx x m news w)
    (h63 : n + m ≤ maxLen) (hbytes : (n + m) * bytes ≤ 140737488355328) (hB : B ≤ w.heap.size)
    (hK : ∀ v' w', Own w' B size v' (n + m) (cs ++ news) → w.grownBy w' v.ownBlock → (v' = .slice none 0 0 ↔ v = .slice none 0 0 ∧ m = 0) → wpList P ops Q rest (a.put o.dst v') w') :
    wpList P ops Q (o :: rest) a w := by
  refine wpList_plain hg fun K hK' => ?_
  obtain ⟨i, hi, hz, hsize, hby⟩ := info_parts hinfo
  obtain ⟨v', w', hrun, r1, r2, r3⟩ := run_append_Own (P := P) w B t tx o.type e i z size bytes ht hi hz hsize hby hzs v n cs h x m news hs h63 hbytes hB
  unfold Oper.wp
  simp [execOp, hop, resolve, invoke, builtin, hsv, hx, hrun, Result.andThen]
  exact hK' _ _ (hK v' w' r1 r2 r3)

end

/-! ### Bytes -/

theorem wrap64_byte (b : UInt8) : wrap64 (b.toNat : Int) = b.toNat := IntWalk.wrap64_in _ ⟨by have := b.toNat_lt; omega, by have := b.toNat_lt; omega⟩

/-- Bytes, as cells. -/
def u8s (l : List UInt8) : List Value := l.map fun b => Value.int .u8 (b.toNat : Int)

theorem u8s_length (l : List UInt8) : (u8s l).length = l.length := by simp [u8s]
theorem u8s_append (l m : List UInt8) : u8s (l ++ m) = u8s l ++ u8s m := by simp [u8s]
theorem u8s_one (l : List UInt8) : ∀ u ∈ u8s l, u.oneCell' = true := by
  intro u hu
  obtain ⟨_, _, rfl⟩ := List.mem_map.1 hu
  rfl
theorem u8s_get (l : List UInt8) (j : Nat) : (u8s l)[j]? = (l[j]?).map fun b => Value.int .u8 (b.toNat : Int) := by simp [u8s]

/-- A []byte of the call's own that holds the bytes l. -/
def OwnB (w : World) (B : Nat) (v : Value) (l : List UInt8) : Prop := Own w B 1 v l.length (u8s l)

theorem OwnB.nil (w : World) (B : Nat) : OwnB w B (.slice none 0 0) [] := Own.nil _ _ _

/-- '[]byte{}'. -/
theorem OwnB.empty (w : World) (B : Nat) (e : TypeId) (hB : B ≤ w.heap.size) : OwnB (w.alloc (.cells #[] e)) B (.slice (some ⟨w.heap.size, 0, none⟩) 0 0) [] :=
  .inr ⟨w.heap.size, 0, rfl, hB, by simp, Nat.le_refl _, Nat.zero_le _, rfl, fun j hj => by simp at hj, fun j hj => by simp at hj⟩

/-- The text of a list of bytes. -/
def txt (l : List UInt8) : ByteArray := ⟨l.toArray⟩
theorem txt_size (l : List UInt8) : (txt l).size = l.length := by simp [txt, ByteArray.size]
theorem txt_toList (s : ByteArray) : txt s.data.toList = s := by cases s; simp [txt]
theorem txt_data (l : List UInt8) : (txt l).data.toList = l := by simp [txt]

theorem txt_join (l : List UInt8) (s : ByteArray) : txt l ++ s = txt (l ++ s.data.toList) := by
  apply ByteArray.ext
  simp [txt]
theorem txt_join2 (l m : List UInt8) : txt l ++ txt m = txt (l ++ m) := by rw [txt_join, txt_data]

/-- string(b). -/
theorem OwnB.text {P : Program} {w : World} {B : Nat} {v : Value} {l : List UInt8} (h : OwnB w B v l) (src dst e : TypeId) (hs : P.underlying src = some (.slice e)) (he : P.underlying e = some (.int .u8)) (hd : P.underlying dst = some .string) :
    (convert src dst v).run P w = .ok (.string (txt l)) w := by
  rcases h with ⟨rfl, h0, _⟩ | ⟨g, cap, rfl, _, r⟩
  · obtain rfl : l = [] := List.eq_nil_of_length_eq_zero h0
    exact Lib.run_convert_nil_bytes w src dst e 0 hs he hd
  · refine run_convert_bytes_back w src dst e ⟨g, 0, none⟩ cap l hs he hd (fun j hj => ?_)
    rw [Addr.add_lit, Nat.zero_add, r.holds j (by omega), u8s_get, List.getElem?_eq_getElem hj]
    rfl

/-- What a new block of bytes yields: 'append(v, x, y)'. -/
theorem src_u8 {P : Program} {t e' e : TypeId} (ht : P.underlying t = some (.slice e')) (w : World) (c m : Nat) (l : List UInt8) (xs : List Value) (hm : l.length = m) (hx : xs = u8s l) :
    Src P 1 t (.slice (some ⟨w.heap.size, 0, none⟩) m c) m (u8s l) (w.alloc (.cells xs.toArray e)) := by
  subst hm
  subst hx
  refine Src.ofSlice _ ht _ _ _ _ (by rw [u8s_length]; omega) (fun j u hu => ?_) (u8s_one l)
  rw [Addr.add_lit, Nat.zero_add]
  have e1 : (w.alloc (.cells (u8s l).toArray e)).cell? ⟨w.heap.size, j, none⟩ = _ := World.cell?_alloc_new w _ _ j
  rw [e1]
  simpa using hu

/-- 'append(b, x, y ..)' onto a []byte of the call's own, for the walk: the new bytes stand in the block that has just been made. -/
theorem wpList_push_u8 {P : Program} (w : World) {ops : Array Oper} {rest : List Oper} {o : Oper} {a : Act} {Q : Exit → Act → World → Prop}
    (hg : o.guard = none) (s xo : Operand) (t : TypeId) (hop : o.op = Op.call { callee := Callee.builtin Builtin.append, args := #[s, xo], argTypes := #[t, t] })
    (e : TypeId) (ht : P.underlying t = some (.slice e)) (hinfo : (P.info? e).map (fun i => (i.zero, i.size, i.bytes)) = some (some (.int .u8 0), 1, 1))
    (B : Nat) (v : Value) (l : List UInt8) (hs : a.eval s = v) (hown : OwnB w B v l) (xs : List Value) (news : List UInt8) (hx : xs = u8s news) (m c : Nat) (hm : news.length = m)
    (hxo : a.eval xo = .slice (some ⟨w.heap.size, 0, none⟩) m c) (hb : l.length + m ≤ 70368744177664) (hB : B ≤ w.heap.size)
    (hK : ∀ v' w', OwnB w' B v' (l ++ news) → w.grownBy w' v.ownBlock → Below B w w' → wpList P ops Q rest (a.put o.dst v') w') :
    wpList P ops Q (o :: rest) a (w.alloc (.cells xs.toArray e)) := by
  have hsz : (w.alloc (.cells xs.toArray e)).heap.size = w.heap.size + 1 := by simp
  refine wpList_append_Own (P := P) _ hg s xo t t hop B e _ 1 1 ht hinfo rfl v l.length (u8s l) hs (Own.alloc hown _) _ hxo m (u8s news) (src_u8 ht w c m news xs hm hx) (by unfold maxLen; omega) (by omega) (by omega) ?_
  intro v' w' h1 h2 _
  have hg' : w.grownBy w' v.ownBlock := ⟨h2.os, h2.tape, h2.output, by have := h2.size; omega, fun k hk hne => (h2.block k (by omega) hne).trans (Below.heap_alloc w _ k hk)⟩
  refine hK v' w' ?_ hg' ((Below.refl B w).grown hg' hB (fun k hk => (hown.block k hk).1))
  unfold OwnB
  rw [u8s_append, List.length_append, hm]
  exact h1

/-- A cell that holds a byte's number. -/
theorem u8_cell {n : Int} {b : UInt8} (h : n = (b.toNat : Int)) : [Value.int .u8 n] = u8s [b] := by rw [h]; rfl
theorem u8_cell2 {n m : Int} {b c : UInt8} (h : n = (b.toNat : Int)) (h' : m = (c.toNat : Int)) : [Value.int .u8 n, Value.int .u8 m] = u8s [b, c] := by rw [h, h']; rfl

end Go.Proofs.YtcehbmlibfalaaaDoor
