/-
  What the walks of this claim lean on, joined: plain laws, no code of the seat.
-/
import Derived.WalkKit
import Derived.WalkSpells
import Derived.WalkLawsBesides
import Derived.Lib.Hide
import Derived.Lib.BufferRead
import Derived.Deep.AppendSrc
import Derived.Deep.Upon
import Derived.Deep.Cut
import Derived.Deep.CutRange
import Derived.Deep.LoopGhost
import Derived.Deep.QuietTactic
import Derived.BigQuiet
import Derived.Deep.RegionWith
import Derived.Lib.QuietBelow
import Derived.StillTailTactics
import Derived.Deep.RegionHeld3

/-
  The kit of this set: rows of memory that the call itself has made (whatever mark their block bears), append onto them from whatever source, and their reading back as strings. No program in sight: it speaks of every program.
-/
namespace Go.Proofs.YtcehbmlibfalaaaDoor
open Go.RowKit

/-- Block g is a row of capacity cap whose first n elements hold the cells cs; every cell up to the capacity is there and may be written. -/
structure Row (w : World) (g cap size n : Nat) (cs : List Value) : Prop where
  lt : g < w.heap.size
  le : n ≤ cap
  max : cap ≤ maxLen
  len : cs.length = n * size
  holds : ∀ j, j < n * size → w.cell? ⟨g, j, none⟩ = cs[j]?
  there : ∀ j, j < cap * size → (w.cell? ⟨g, j, none⟩).isSome = true ∧ w.frozen? ⟨g, j, none⟩ = false

/-- The slice value v has n elements and owns their cells: it is nil, or it stands at the head of a row from block B on. -/
def Own (w : World) (B size : Nat) (v : Value) (n : Nat) (cs : List Value) : Prop :=
  (v = .slice none 0 0 ∧ n = 0 ∧ cs = []) ∨ ∃ g cap, v = .slice (some ⟨g, 0, none⟩) n cap ∧ B ≤ g ∧ Row w g cap size n cs

theorem Row.keep {w w' : World} {g cap size n : Nat} {cs : List Value} (h : Row w g cap size n cs) (hs : w.heap.size ≤ w'.heap.size) (hb : w'.heap[g]? = w.heap[g]?) : Row w' g cap size n cs :=
  ⟨Nat.lt_of_lt_of_le h.lt hs, h.le, h.max, h.len, fun j hj => (World.cell?_of_block (a := ⟨g, j, none⟩) hb).trans (h.holds j hj),
    fun j hj => ⟨by rw [World.cell?_of_block (a := ⟨g, j, none⟩) hb]; exact (h.there j hj).1, (World.frozen?_of_block (a := ⟨g, j, none⟩) hb).trans (h.there j hj).2⟩⟩

theorem Own.nil (w : World) (B size : Nat) : Own w B size (.slice none 0 0) 0 [] := .inl ⟨rfl, rfl, rfl⟩

theorem Own.len {w : World} {B size : Nat} {v : Value} {n : Nat} {cs : List Value} (h : Own w B size v n cs) : cs.length = n * size := by
  rcases h with ⟨_, rfl, rfl⟩ | ⟨g, cap, _, _, r⟩
  · simp
  · exact r.len

theorem Own.shape {w : World} {B size : Nat} {v : Value} {n : Nat} {cs : List Value} (h : Own w B size v n cs) : ∃ ao cap, v = .slice ao n cap := by
  rcases h with ⟨rfl, rfl, _⟩ | ⟨g, cap, rfl, _, _⟩
  · exact ⟨_, _, rfl⟩
  · exact ⟨_, _, rfl⟩

theorem Own.mono {w : World} {B B' size : Nat} {v : Value} {n : Nat} {cs : List Value} (h : Own w B size v n cs) (hB : B' ≤ B) : Own w B' size v n cs :=
  h.imp id fun ⟨g, cap, h1, h2, h3⟩ => ⟨g, cap, h1, Nat.le_trans hB h2, h3⟩

theorem Own.block {w : World} {B size : Nat} {v : Value} {n : Nat} {cs : List Value} (h : Own w B size v n cs) : ∀ k, v.ownBlock = some k → B ≤ k ∧ k < w.heap.size := by
  intro k hk
  rcases h with ⟨rfl, _⟩ | ⟨g, cap, rfl, hb, r⟩
  · simp [Value.ownBlock] at hk
  · simp [Value.ownBlock] at hk
    subst hk
    exact ⟨hb, r.lt⟩

/-- The row is kept where its own block is. -/
theorem Own.kept {w w' : World} {B size : Nat} {v : Value} {n : Nat} {cs : List Value} {row : Option Nat} (h : Own w B size v n cs) (hg : w.grownBy w' row) (hne : v.ownBlock = none ∨ v.ownBlock ≠ row) : Own w' B size v n cs := by
  rcases h with h | ⟨g, cap, rfl, hb, r⟩
  · exact .inl h
  · exact .inr ⟨g, cap, rfl, hb, r.keep hg.size (hg.block g r.lt (by simpa [Value.ownBlock] using hne))⟩

/-- Behind a call that turns nothing that was there. -/
theorem Own.below {w w' : World} {B C size : Nat} {v : Value} {n : Nat} {cs : List Value} (h : Own w B size v n cs) (hb : Below C w w') (hC : w.heap.size ≤ C) : Own w' B size v n cs := by
  rcases h with h | ⟨g, cap, rfl, hB, r⟩
  · exact .inl h
  · exact .inr ⟨g, cap, rfl, hB, r.keep hb.size (hb.block g (Nat.lt_of_lt_of_le r.lt hC))⟩

theorem Own.alloc {w : World} {B size : Nat} {v : Value} {n : Nat} {cs : List Value} (h : Own w B size v n cs) (o : Obj) : Own (w.alloc o) B size v n cs :=
  h.kept (World.grownBy_alloc w o none) (by cases hv : v.ownBlock <;> simp)

theorem Own.drew {w : World} {B size : Nat} {v : Value} {n : Nat} {cs : List Value} (h : Own w B size v n cs) : Own w.drew B size v n cs :=
  h.imp id fun ⟨g, cap, h1, h2, r⟩ => ⟨g, cap, h1, h2, r.keep (Nat.le_refl _) rfl⟩
theorem Own.drewN {w : World} {B size : Nat} {v : Value} {n : Nat} {cs : List Value} (h : Own w B size v n cs) (q : Nat) : Own (w.drewN q) B size v n cs :=
  h.imp id fun ⟨g, cap, h1, h2, r⟩ => ⟨g, cap, h1, h2, r.keep (Nat.le_refl _) rfl⟩

/-- Another block is written. -/
theorem Own.setCell {w : World} {B size : Nat} {v : Value} {n : Nat} {cs : List Value} (h : Own w B size v n cs) {a : Addr} (ha : a.block < B) (u : Value) : Own (w.setCell a u) B size v n cs := by
  rcases h with h | ⟨g, cap, rfl, hB, r⟩
  · exact .inl h
  · exact .inr ⟨g, cap, rfl, hB, r.keep (by simp [World.setCell]) (Below.heap_setCell _ _ _ _ (by omega))⟩

theorem tape_setCells (b : Nat) : ∀ (vs : List Value) (o : Nat) (w : World), (w.setCells b o vs).tape = w.tape
  | [], _, _ => rfl
  | v :: r, o, w => by rw [World.setCells, tape_setCells b r]; rfl

theorem size_setCells (b : Nat) : ∀ (vs : List Value) (o : Nat) (w : World), (w.setCells b o vs).heap.size = w.heap.size
  | [], _, _ => rfl
  | v :: r, o, w => by rw [World.setCells, size_setCells b r]; simp [World.setCell]

theorem grownBy_setCells (w : World) (g o : Nat) (vs : List Value) : w.grownBy (w.setCells g o vs) (some g) :=
  ⟨World.os_setCells _ _ _ _, tape_setCells _ _ _ _, World.output_setCells _ _ _ _, by rw [size_setCells]; exact Nat.le_refl _,
    fun k hk hne => World.heap_setCells_other w g o vs hk (by simpa using hne)⟩

section
variable {P : Program}

/-- append onto a row of the call's own, out of whatever source. -/
theorem run_append_Own (w : World) (B : Nat) (t tx ty e : TypeId) (i : TypeInfo) (z : Value) (size bytes : Nat) (ht : P.underlying t = some (.slice e)) (hi : P.info? e = some i) (hz : i.zero = some z)
    (hsize : i.size = size) (hby : i.bytes = bytes) (hzs : z.cells.size = size)
    (v : Value) (n : Nat) (cs : List Value) (h : Own w B size v n cs) (x : Value) (m : Nat) (news : List Value) (hs : Src P size tx x m news w)
    (h63 : n + m ≤ maxLen) (hbytes : (n + m) * bytes ≤ 140737488355328) (hB : B ≤ w.heap.size) :
    ∃ v' w', (Builtin.append_ #[t, tx] ty #[v, x]).run P w = .ok v' w' ∧ Own w' B size v' (n + m) (cs ++ news) ∧ w.grownBy w' v.ownBlock ∧ (v' = .slice none 0 0 ↔ v = .slice none 0 0 ∧ m = 0) := by
  subst hsize
  subst hby
  have hnl := hs.newsLen
  have hcl := h.len
  have hsmall : n + m ≤ 9223372036854775807 := by simp only [maxLen] at h63; omega
  -- a new row
  have grow : ∀ (bs : Option Addr) (sc : Nat), v = .slice bs n sc → sc < n + m →
      (Builtin.firstCells i.size n (.slice bs n sc)).run P w.drew = .ok cs.toArray w.drew →
      ∃ v' w', (Builtin.append_ #[t, tx] ty #[v, x]).run P w = .ok v' w' ∧ Own w' B i.size v' (n + m) (cs ++ news) ∧ w.grownBy w' v.ownBlock ∧ v' ≠ .slice none 0 0 := by
    rintro bs sc rfl hg hold
    have hrun := run_append_grow_src (P := P) w t tx ty e i z ht hi hz bs n sc cs hold x m news hs hg (by omega) (growslice_fits hg hbytes)
    have hge := grownCap_ge w (n + m) sc e
    have hcm := grownCap_le_maxLen w (n + m) sc e h63
    have hL : (cs ++ news).length = (n + m) * i.size := by rw [List.length_append, hcl, hnl, Nat.add_mul]
    refine ⟨_, _, hrun, .inr ⟨w.heap.size, _, rfl, hB, ?_, hge, hcm, hL, fun j hj => ?_, fun j hj => ⟨?_, ?_⟩⟩, ⟨rfl, rfl, rfl, by simp, fun k hk _ => Below.heap_alloc w.drew _ k hk⟩, by simp⟩
    · simp
    · have e1 : (w.drew.alloc (.cells ((cs ++ news).toArray ++ Builtin.zeroCells z.cells (grownCap w (n + m) sc e - (n + m))) e)).cell? ⟨w.heap.size, j, none⟩ = _ := World.cell?_alloc_new w.drew _ _ j
      rw [e1, Array.getElem?_append_left (by simp only [List.size_toArray]; rw [hL]; exact hj), List.getElem?_toArray]
    · have e1 : (w.drew.alloc (.cells ((cs ++ news).toArray ++ Builtin.zeroCells z.cells (grownCap w (n + m) sc e - (n + m))) e)).cell? ⟨w.heap.size, j, none⟩ = _ := World.cell?_alloc_new w.drew _ _ j
      rw [e1]
      have hsz : ((cs ++ news).toArray ++ Builtin.zeroCells z.cells (grownCap w (n + m) sc e - (n + m))).size = grownCap w (n + m) sc e * i.size := by
        rw [Array.size_append, List.size_toArray, hL, size_zeroCells, hzs, ← Nat.add_mul]
        congr 1
        omega
      rw [Array.getElem?_eq_getElem (by rw [hsz]; exact hj)]
      rfl
    · exact World.frozen?_alloc_new w.drew _ _ j
  rcases h with ⟨rfl, rfl, rfl⟩ | ⟨g, cap, rfl, hBg, r⟩
  · rcases Nat.eq_zero_or_pos m with rfl | hm
    · obtain rfl : news = [] := List.eq_nil_of_length_eq_zero (by simpa using hnl)
      exact ⟨_, _, run_append_nothing (P := P) w t tx ty e i ht hi none 0 0 (Nat.le_refl _) x hs, .inl ⟨rfl, rfl, rfl⟩, World.grownBy.refl _ _, by simp⟩
    · obtain ⟨v', w', h1, h2, h3, h4⟩ := grow none 0 rfl (by omega) (run_firstCells_none w.drew i.size 0 0 0)
      exact ⟨v', w', h1, h2, h3, ⟨fun e' => absurd e' h4, fun ⟨_, e'⟩ => by omega⟩⟩
  · by_cases hfit : n + m ≤ cap
    · have hrc : (n + m) * i.size ≤ cap * i.size := Nat.mul_le_mul_right _ hfit
      rw [Nat.add_mul] at hrc
      have hsome : ∀ j, j < news.length → (w.cell? ⟨g, 0 + n * i.size + j, none⟩).isSome = true := fun j hj => by rw [Nat.zero_add]; exact (r.there _ (by omega)).1
      have hrun := run_append_room_src (P := P) w t tx ty e i ht hi g 0 n cap x m news hs hfit hsome (fun j hj => by rw [Nat.zero_add]; exact (r.there _ (by omega)).2)
      refine ⟨_, _, hrun, .inr ⟨g, cap, rfl, hBg, by rw [size_setCells]; exact r.lt, hfit, r.max, by rw [List.length_append, hcl, hnl, Nat.add_mul], fun j hj => ?_, fun j hj => ⟨?_, (World.frozen?_setCells g _ _ _ _).trans (r.there j hj).2⟩⟩, grownBy_setCells w g _ news, by simp⟩
      · rw [Nat.add_mul] at hj
        by_cases hjo : j < n * i.size
        · rw [World.cell?_setCells_out g _ _ _ _ (fun _ _ => Or.inl (by show j < 0 + n * i.size; omega)), List.getElem?_append_left (by omega)]
          exact r.holds j hjo
        · have ht' : j - n * i.size < news.length := by omega
          have := World.cell?_setCells_in g news (0 + n * i.size) w hsome (j - n * i.size) ht'
          rw [show 0 + n * i.size + (j - n * i.size) = j by omega] at this
          rw [this, List.getElem?_append_right (by omega), hcl, List.getElem?_eq_getElem ht']
      · by_cases hin : n * i.size ≤ j ∧ j < n * i.size + news.length
        · have := World.cell?_setCells_in g news (0 + n * i.size) w hsome (j - n * i.size) (by omega)
          rw [show 0 + n * i.size + (j - n * i.size) = j by omega] at this
          rw [this]; rfl
        · rw [World.cell?_setCells_out g _ _ _ _ (fun _ _ => by show j < 0 + n * i.size ∨ 0 + n * i.size + news.length ≤ j; omega)]
          exact (r.there j hj).1
    · obtain ⟨v', w', h1, h2, h3, h4⟩ := grow (some ⟨g, 0, none⟩) cap rfl (by omega) (run_firstCells_some w.drew i.size n ⟨g, 0, none⟩ n cap cs hcl (fun j u hu => by
        rw [Addr.add_lit, Nat.zero_add]
        have hj : j < n * i.size := by rw [← hcl]; exact (List.getElem?_eq_some_iff.1 hu).1
        exact (r.holds j hj).trans hu))
      exact ⟨v', w', h1, h2, h3, ⟨fun e' => absurd e' h4, fun ⟨e', _⟩ => by cases e'⟩⟩

/-- The same, for the walk. -/
theorem wpList_append_Own (w : World) {ops : Array Oper} {rest : List Oper} {o : Oper} {a : Act} {Q : Exit → Act → World → Prop}
    (hg : o.guard = none) (s xo : Operand) (t tx : TypeId) (hop : o.op = Op.call { callee := Callee.builtin Builtin.append, args := #[s, xo], argTypes := #[t, tx] })
    (B : Nat) (e : TypeId) (z : Value) (size bytes : Nat) (ht : P.underlying t = some (.slice e)) (hinfo : (P.info? e).map (fun i => (i.zero, i.size, i.bytes)) = some (some z, size, bytes)) (hzs : z.cells.size = size)
    (v : Value) (n : Nat) (cs : List Value) (hsv : a.eval s = v) (h : Own w B size v n cs) (x : Value) (hx : a.eval xo = x) (m : Nat) (news : List Value) (hs : Src P size tx x m news w)
    (h63 : n + m ≤ maxLen) (hbytes : (n + m) * bytes ≤ 140737488355328) (hB : B ≤ w.heap.size)
    (hK : ∀ v' w', Own w' B size v' (n + m) (cs ++ news) → w.grownBy w' v.ownBlock → (v' = .slice none 0 0 ↔ v = .slice none 0 0 ∧ m = 0) → wpList P ops Q rest (a.put o.dst v') w') :
    wpList P ops Q (o :: rest) a w := by
  refine wpList_plain hg fun K hK' => ?_
  obtain ⟨i, hi, hz, hsize, hby⟩ := info_parts hinfo
  obtain ⟨v', w', hrun, r1, r2, r3⟩ := run_append_Own (P := P) w B t tx o.type e i z size bytes ht hi hz hsize hby hzs v n cs h x m news hs h63 hbytes hB
  unfold Oper.wp
  simp [execOp, hop, resolve, invoke, builtin, hsv, hx, hrun, Result.andThen]
  exact hK' _ _ (hK v' w' r1 r2 r3)

end

/-! ### Bytes -/

theorem wrap64_byte (b : UInt8) : wrap64 (b.toNat : Int) = b.toNat := IntWalk.wrap64_in _ ⟨by have := b.toNat_lt; omega, by have := b.toNat_lt; omega⟩

/-- Bytes, as cells. -/
def u8s (l : List UInt8) : List Value := l.map fun b => Value.int .u8 (b.toNat : Int)

theorem u8s_length (l : List UInt8) : (u8s l).length = l.length := by simp [u8s]
theorem u8s_append (l m : List UInt8) : u8s (l ++ m) = u8s l ++ u8s m := by simp [u8s]
theorem u8s_one (l : List UInt8) : ∀ u ∈ u8s l, u.oneCell' = true := by
  intro u hu
  obtain ⟨_, _, rfl⟩ := List.mem_map.1 hu
  rfl
theorem u8s_get (l : List UInt8) (j : Nat) : (u8s l)[j]? = (l[j]?).map fun b => Value.int .u8 (b.toNat : Int) := by simp [u8s]

/-- A []byte of the call's own that holds the bytes l. -/
def OwnB (w : World) (B : Nat) (v : Value) (l : List UInt8) : Prop := Own w B 1 v l.length (u8s l)

theorem OwnB.nil (w : World) (B : Nat) : OwnB w B (.slice none 0 0) [] := Own.nil _ _ _

/-- '[]byte{}'. -/
theorem OwnB.empty (w : World) (B : Nat) (e : TypeId) (hB : B ≤ w.heap.size) : OwnB (w.alloc (.cells #[] e)) B (.slice (some ⟨w.heap.size, 0, none⟩) 0 0) [] :=
  .inr ⟨w.heap.size, 0, rfl, hB, by simp, Nat.le_refl _, Nat.zero_le _, rfl, fun j hj => by simp at hj, fun j hj => by simp at hj⟩

/-- The text of a list of bytes. -/
def txt (l : List UInt8) : ByteArray := ⟨l.toArray⟩
theorem txt_size (l : List UInt8) : (txt l).size = l.length := by simp [txt, ByteArray.size]
theorem txt_toList (s : ByteArray) : txt s.data.toList = s := by cases s; simp [txt]
theorem txt_data (l : List UInt8) : (txt l).data.toList = l := by simp [txt]

theorem txt_join (l : List UInt8) (s : ByteArray) : txt l ++ s = txt (l ++ s.data.toList) := by
  apply ByteArray.ext
  simp [txt]
theorem txt_join2 (l m : List UInt8) : txt l ++ txt m = txt (l ++ m) := by rw [txt_join, txt_data]

/-- string(b). -/
theorem OwnB.text {P : Program} {w : World} {B : Nat} {v : Value} {l : List UInt8} (h : OwnB w B v l) (src dst e : TypeId) (hs : P.underlying src = some (.slice e)) (he : P.underlying e = some (.int .u8)) (hd : P.underlying dst = some .string) :
    (convert src dst v).run P w = .ok (.string (txt l)) w := by
  rcases h with ⟨rfl, h0, _⟩ | ⟨g, cap, rfl, _, r⟩
  · obtain rfl : l = [] := List.eq_nil_of_length_eq_zero h0
    exact Lib.run_convert_nil_bytes w src dst e 0 hs he hd
  · refine run_convert_bytes_back w src dst e ⟨g, 0, none⟩ cap l hs he hd (fun j hj => ?_)
    rw [Addr.add_lit, Nat.zero_add, r.holds j (by omega), u8s_get, List.getElem?_eq_getElem hj]
    rfl

/-- What a new block of bytes yields: 'append(v, x, y)'. -/
theorem src_u8 {P : Program} {t e' e : TypeId} (ht : P.underlying t = some (.slice e')) (w : World) (c m : Nat) (l : List UInt8) (xs : List Value) (hm : l.length = m) (hx : xs = u8s l) :
    Src P 1 t (.slice (some ⟨w.heap.size, 0, none⟩) m c) m (u8s l) (w.alloc (.cells xs.toArray e)) := by
  subst hm
  subst hx
  refine Src.ofSlice _ ht _ _ _ _ (by rw [u8s_length]; omega) (fun j u hu => ?_) (u8s_one l)
  rw [Addr.add_lit, Nat.zero_add]
  have e1 : (w.alloc (.cells (u8s l).toArray e)).cell? ⟨w.heap.size, j, none⟩ = _ := World.cell?_alloc_new w _ _ j
  rw [e1]
  simpa using hu

/-- 'append(b, x, y ..)' onto a []byte of the call's own, for the walk: the new bytes stand in the block that has just been made. -/
theorem wpList_push_u8 {P : Program} (w : World) {ops : Array Oper} {rest : List Oper} {o : Oper} {a : Act} {Q : Exit → Act → World → Prop}
    (hg : o.guard = none) (s xo : Operand) (t : TypeId) (hop : o.op = Op.call { callee := Callee.builtin Builtin.append, args := #[s, xo], argTypes := #[t, t] })
    (e : TypeId) (ht : P.underlying t = some (.slice e)) (hinfo : (P.info? e).map (fun i => (i.zero, i.size, i.bytes)) = some (some (.int .u8 0), 1, 1))
    (B : Nat) (v : Value) (l : List UInt8) (hs : a.eval s = v) (hown : OwnB w B v l) (xs : List Value) (news : List UInt8) (hx : xs = u8s news) (m c : Nat) (hm : news.length = m)
    (hxo : a.eval xo = .slice (some ⟨w.heap.size, 0, none⟩) m c) (hb : l.length + m ≤ 70368744177664) (hB : B ≤ w.heap.size)
    (hK : ∀ v' w', OwnB w' B v' (l ++ news) → w.grownBy w' v.ownBlock → Below B w w' → wpList P ops Q rest (a.put o.dst v') w') :
    wpList P ops Q (o :: rest) a (w.alloc (.cells xs.toArray e)) := by
  have hsz : (w.alloc (.cells xs.toArray e)).heap.size = w.heap.size + 1 := by simp
  refine wpList_append_Own (P := P) _ hg s xo t t hop B e _ 1 1 ht hinfo rfl v l.length (u8s l) hs (Own.alloc hown _) _ hxo m (u8s news) (src_u8 ht w c m news xs hm hx) (by unfold maxLen; omega) (by omega) (by omega) ?_
  intro v' w' h1 h2 _
  have hg' : w.grownBy w' v.ownBlock := ⟨h2.os, h2.tape, h2.output, by have := h2.size; omega, fun k hk hne => (h2.block k (by omega) hne).trans (Below.heap_alloc w _ k hk)⟩
  refine hK v' w' ?_ hg' ((Below.refl B w).grown hg' hB (fun k hk => (hown.block k hk).1))
  unfold OwnB
  rw [u8s_append, List.length_append, hm]
  exact h1

/-- A cell that holds a byte's number. -/
theorem u8_cell {n : Int} {b : UInt8} (h : n = (b.toNat : Int)) : [Value.int .u8 n] = u8s [b] := by rw [h]; rfl
theorem u8_cell2 {n m : Int} {b c : UInt8} (h : n = (b.toNat : Int)) (h' : m = (c.toNat : Int)) : [Value.int .u8 n, Value.int .u8 m] = u8s [b, c] := by rw [h, h']; rfl

end Go.Proofs.YtcehbmlibfalaaaDoor

/-
  Plain law: a bit of an index; which strings are names and values. No program in sight.
-/
namespace Go.Proofs.YtcehbmlibfalaaaDoor

/-- Whether a number lies in a range. -/
def within (n lo hi : Int) : Bool := decide (lo ≤ n ∧ n ≤ hi)
theorem within_yes {n lo hi : Int} (h : lo ≤ n ∧ n ≤ hi) : within n lo hi = true := decide_eq_true h
theorem within_not {n lo hi : Int} (h : ¬ (lo ≤ n ∧ n ≤ hi)) : within n lo hi = false := decide_eq_false h
theorem within_no {n lo hi : Int} (h : n < lo) : within n lo hi = false := decide_eq_false (by omega)
theorem within_lo {n lo hi : Int} (h : lo ≤ n) : within n lo hi = decide (n ≤ hi) := by
  unfold within; by_cases h' : n ≤ hi <;> simp [h, h']

/-- Bit 'level' of an index of eight bits, the highest first. -/
def bitOf (i l : Int) : Int := if 0 ≤ l ∧ l ≤ 7 then bits BinOp.and IntKind.i64 (i / 2 ^ (7 - l).toNat) 1 else 0
theorem bitOf_in {i l : Int} (h0 : 0 ≤ l) (h1 : l ≤ 7) : bitOf i l = bits BinOp.and IntKind.i64 (i / 2 ^ (7 - l).toNat) 1 := by rw [bitOf, if_pos ⟨h0, h1⟩]
theorem bitOf_out {i l : Int} (h : ¬ (0 ≤ l ∧ l ≤ 7)) : bitOf i l = 0 := by rw [bitOf, if_neg h]

def vByte (b : UInt8) : Bool := decide (33 ≤ b.toNat) && decide (b.toNat ≤ 126)
def nByte (b : UInt8) : Bool := decide (97 ≤ b.toNat ∧ b.toNat ≤ 122) || decide (48 ≤ b.toNat ∧ b.toNat ≤ 57) || decide (b.toNat = 64) || decide (b.toNat = 46)
def shortLen (l : List UInt8) : Bool := decide (1 ≤ l.length ∧ l.length ≤ 12)

theorem take_snoc (s : ByteArray) (k : Nat) (h : k < s.size) : s.data.toList.take (k + 1) = s.data.toList.take k ++ [s[k]] := by
  rw [List.take_succ_eq_append_getElem (by simpa using h)]; rfl

theorem all_snoc (p : UInt8 → Bool) (s : ByteArray) (k : Nat) (h : k < s.size) (ha : (s.data.toList.take k).all p = true) (hb : p s[k] = true) : (s.data.toList.take (k + 1)).all p = true := by
  rw [take_snoc s k h, List.all_append, ha]; simp [hb]

theorem all_bad (p : UInt8 → Bool) (s : ByteArray) (k : Nat) (h : k < s.size) (hb : p s[k] = false) : s.data.toList.all p = false := by
  rw [List.all_eq_false]
  exact ⟨s[k], by rw [← List.take_append_drop (k + 1) s.data.toList, take_snoc s k h]; simp, by simp [hb]⟩

theorem all_end (p : UInt8 → Bool) (s : ByteArray) (k : Nat) (h : ¬ k < s.size) (ha : (s.data.toList.take k).all p = true) : s.data.toList.all p = true := by
  rwa [List.take_of_length_le (by simp; omega)] at ha

theorem vByte_yes (b : UInt8) (h : (33 : Int) ≤ b.toNat ∧ (b.toNat : Int) ≤ 126) : vByte b = true := by
  unfold vByte; simp; omega
theorem vByte_no (b : UInt8) (h : ¬ ((33 : Int) ≤ b.toNat ∧ (b.toNat : Int) ≤ 126)) : vByte b = false := by
  unfold vByte; simp; omega
theorem nByte_yes (b : UInt8) (h : ((97 : Int) ≤ b.toNat ∧ (b.toNat : Int) ≤ 122) ∨ ((48 : Int) ≤ b.toNat ∧ (b.toNat : Int) ≤ 57) ∨ ((64 : Int) ≤ b.toNat ∧ (b.toNat : Int) ≤ 64) ∨ ((46 : Int) ≤ b.toNat ∧ (b.toNat : Int) ≤ 46)) : nByte b = true := by
  unfold nByte; simp; omega
theorem nByte_no (b : UInt8) (h : ¬ (((97 : Int) ≤ b.toNat ∧ (b.toNat : Int) ≤ 122) ∨ ((48 : Int) ≤ b.toNat ∧ (b.toNat : Int) ≤ 57) ∨ ((64 : Int) ≤ b.toNat ∧ (b.toNat : Int) ≤ 64) ∨ ((46 : Int) ≤ b.toNat ∧ (b.toNat : Int) ≤ 46))) : nByte b = false := by
  unfold nByte; simp; omega

/-- Whether a string of s.size bytes, each of them good, is short enough. -/
def okBy (p : UInt8 → Bool) (l : List UInt8) : Bool := l.all p && shortLen l
theorem okBy_bad {p : UInt8 → Bool} {s : ByteArray} {k : Nat} (h : k < s.size) (hb : p s[k] = false) : okBy p s.data.toList = false := by
  unfold okBy; rw [all_bad p s k h hb]; rfl
theorem okBy_end {p : UInt8 → Bool} {s : ByteArray} {k : Nat} (h : ¬ k < s.size) (ha : (s.data.toList.take k).all p = true) : okBy p s.data.toList = within s.size 1 12 := by
  unfold okBy shortLen within; rw [all_end p s k h ha, Array.length_toList]
  show decide (1 ≤ s.size ∧ s.size ≤ 12) = _
  congr 1
  simp; omega
theorem okBy_long {p : UInt8 → Bool} {s : ByteArray} (h : 12 < s.size) : okBy p s.data.toList = within s.size 1 12 := by
  unfold okBy shortLen within
  have e1 : ¬ (1 ≤ s.data.toList.length ∧ s.data.toList.length ≤ 12) := by rw [Array.length_toList]; show ¬ (1 ≤ s.size ∧ s.size ≤ 12); omega
  have e2 : ¬ ((1 : Int) ≤ s.size ∧ (s.size : Int) ≤ 12) := by omega
  rw [decide_eq_false e1, decide_eq_false e2, Bool.and_false]

/-- The nine ranges in which a byte of a name may lie. -/
theorem ranges9 (x : Int) : x ≤ 45 ∨ (46 ≤ x ∧ x ≤ 46) ∨ (47 ≤ x ∧ x ≤ 47) ∨ (48 ≤ x ∧ x ≤ 57) ∨ (58 ≤ x ∧ x ≤ 63) ∨ (64 ≤ x ∧ x ≤ 64) ∨ (65 ≤ x ∧ x ≤ 96) ∨ (97 ≤ x ∧ x ≤ 122) ∨ 123 ≤ x := by omega

end Go.Proofs.YtcehbmlibfalaaaDoor

/-
  Plain law: the words of the set (numbers, short strings, hexadecimal digits, lines) as functions on lists of bytes. No program in sight.
-/
namespace Go.Proofs.YtcehbmlibfalaaaDoor

/-- A number in base 128, the lowest seven bits first. -/
def varL (n : Nat) : List UInt8 := if n ≤ 127 then [UInt8.ofNat n] else UInt8.ofNat (128 + n % 128) :: varL (n / 128)
termination_by n
decreasing_by omega

theorem varL_small {n : Nat} (h : n ≤ 127) : varL n = [UInt8.ofNat n] := by rw [varL, if_pos h]
theorem varL_big {n : Nat} (h : 127 < n) : varL n = UInt8.ofNat (128 + n % 128) :: varL (n / 128) := by rw [varL, if_neg (by omega)]

theorem varL_length_le : ∀ (k n : Nat), n < 128 ^ (k + 1) → (varL n).length ≤ k + 1 := by
  intro k
  induction k with
  | zero => intro n h; rw [varL_small (by omega)]; simp
  | succ k ih =>
    intro n h
    by_cases hs : n ≤ 127
    · rw [varL_small hs]; simp
    · rw [varL_big (by omega), List.length_cons]
      have : n / 128 < 128 ^ (k + 1) := by
        rw [Nat.pow_succ] at h
        exact Nat.div_lt_of_lt_mul (by omega)
      have := ih _ this
      omega

theorem varL_pos (n : Nat) : 0 < (varL n).length := by
  rw [varL]; split <;> simp

/-- Reading a number in base 128: at most f bytes more; k bytes have been read, they gave n. -/
def rv : Nat → Nat → Nat → List UInt8 → Option (Nat × Nat)
  | 0, _, _, _ => none
  | _ + 1, _, _, [] => none
  | f + 1, k, n, b :: r =>
    if b.toNat < 128 then (if (b.toNat = 0 ∧ 0 < k) ∨ 1000000000 < n + b.toNat % 128 * 128 ^ k then none else some (n + b.toNat % 128 * 128 ^ k, k + 1))
    else rv f (k + 1) (n + b.toNat % 128 * 128 ^ k) r

/-- The number that stands in l at place p, and the place behind it. -/
def readVar (l : List UInt8) (p : Int) : Option (Nat × Nat) :=
  if 0 ≤ p ∧ p ≤ l.length then (rv 5 0 0 (l.drop p.toNat)).map fun x => (x.1, p.toNat + x.2) else none

theorem readVar_in {l : List UInt8} {p : Nat} (h : p ≤ l.length) : readVar l p = (rv 5 0 0 (l.drop p)).map fun x => (x.1, p + x.2) := by
  rw [readVar, if_pos ⟨by omega, by omega⟩, Int.toNat_natCast]
theorem readVar_out {l : List UInt8} {p : Int} (h : ¬ (0 ≤ p ∧ p ≤ l.length)) : readVar l p = none := by rw [readVar, if_neg h]

theorem rv_more {f k n : Nat} {l : List UInt8} {b : UInt8} {r : List UInt8} (hl : l = b :: r) (h : 128 ≤ b.toNat) : rv (f + 1) k n l = rv f (k + 1) (n + b.toNat % 128 * 128 ^ k) r := by
  subst hl; rw [rv, if_neg (by omega)]
theorem rv_bad {f k n : Nat} {l : List UInt8} {b : UInt8} {r : List UInt8} (hl : l = b :: r) (h : b.toNat < 128) (h' : (b.toNat = 0 ∧ 0 < k) ∨ 1000000000 < n + b.toNat % 128 * 128 ^ k) : rv (f + 1) k n l = none := by
  subst hl; rw [rv, if_pos h, if_pos h']
theorem rv_good {f k n : Nat} {l : List UInt8} {b : UInt8} {r : List UInt8} (hl : l = b :: r) (h : b.toNat < 128) (h' : ¬ ((b.toNat = 0 ∧ 0 < k) ∨ 1000000000 < n + b.toNat % 128 * 128 ^ k)) : rv (f + 1) k n l = some (n + b.toNat % 128 * 128 ^ k, k + 1) := by
  subst hl; rw [rv, if_pos h, if_neg h']

theorem drop_at (s : ByteArray) (p : Nat) (h : p < s.size) : s.data.toList.drop p = s[p] :: s.data.toList.drop (p + 1) := by
  rw [List.drop_eq_getElem_cons (by simpa using h)]; rfl

theorem castT (b k : Nat) : ((b % 128 * 128 ^ k : Nat) : Int) = (b : Int) % 128 * 2 ^ (7 * k) := by
  rw [Int.natCast_mul, Int.natCast_pow, Int.pow_mul]; rfl

theorem boundT (b k : Nat) (hk : k < 5) : b % 128 * 128 ^ k ≤ 34091302912 := by
  have h1 : 128 ^ k ≤ 128 ^ 4 := Nat.pow_le_pow_right (by decide) (by omega)
  have h2 := Nat.mul_le_mul (show b % 128 ≤ 127 by omega) h1
  omega

theorem rv_nil (f k n : Nat) {l : List UInt8} (h : l.length = 0) : rv f k n l = none := by
  obtain rfl := List.eq_nil_of_length_eq_zero h
  cases f <;> rfl

/-- What the rounds come to, as the whole read's value. -/
theorem readVar_none {s : ByteArray} {p : Nat} (hp : p ≤ s.size) (h : rv 5 0 0 (s.data.toList.drop p) = none) : readVar s.data.toList p = none := by
  rw [readVar_in (by simpa using hp), h]; rfl
theorem readVar_some {s : ByteArray} {p n m : Nat} (hp : p ≤ s.size) (h : rv 5 0 0 (s.data.toList.drop p) = some (n, m)) : readVar s.data.toList p = some (n, p + m) := by
  rw [readVar_in (by simpa using hp), h]; rfl

/-- The number that digits in base 128 stand for. -/
def valL : List UInt8 → Nat
  | [] => 0
  | b :: r => b.toNat % 128 + 128 * valL r

theorem valL_snoc (l : List UInt8) (b : UInt8) : valL (l ++ [b]) = valL l + b.toNat % 128 * 128 ^ l.length := by
  induction l with
  | nil => simp [valL]
  | cons a r ih =>
    rw [List.cons_append, valL, ih, valL, List.length_cons, Nat.pow_succ]
    rw [Nat.mul_add, Nat.add_assoc, show b.toNat % 128 * (128 ^ r.length * 128) = 128 * (b.toNat % 128 * 128 ^ r.length) by rw [Nat.mul_comm (128 ^ r.length) 128, Nat.mul_left_comm]]

theorem varL_last : ∀ (n : Nat), 0 < n → ∀ l (b : UInt8), varL n = l ++ [b] → 0 < b.toNat := by
  intro n
  induction n using Nat.strongRecOn with
  | _ n ih =>
    intro hn l b h
    by_cases hs : n ≤ 127
    · rw [varL_small hs] at h
      cases l with
      | nil =>
        simp at h
        rw [← h, UInt8.toNat_ofNat_of_lt' (by show n < 256; omega)]
        exact hn
      | cons a r => simp at h
    · rw [varL_big (by omega)] at h
      cases l with
      | nil =>
        have := varL_pos (n / 128)
        have h2 := congrArg List.length h
        simp at h2
        rw [h2] at this
        simp at this
      | cons a r =>
        simp only [List.cons_append, List.cons.injEq] at h
        exact ih (n / 128) (by omega) (by omega) r b h.2

/-- Digits are the shortest ones just if the last of several is not 0. -/
theorem varL_valL (l : List UInt8) (b : UInt8) (hl : ∀ x ∈ l, 128 ≤ x.toNat) (hb : b.toNat < 128) : varL (valL (l ++ [b])) = l ++ [b] ↔ (l = [] ∨ b.toNat ≠ 0) := by
  constructor
  · intro h
    cases l with
    | nil => exact Or.inl rfl
    | cons a r =>
      refine Or.inr fun hb0 => ?_
      rcases Nat.eq_zero_or_pos (valL (a :: r ++ [b])) with h0 | h0
      · rw [h0, varL_small (by omega)] at h
        have := congrArg List.length h
        simp at this
      · have := varL_last _ h0 _ _ h
        omega
  · intro h
    induction l with
    | nil =>
      simp only [List.nil_append, valL]
      rw [varL_small (by omega)]
      have : b.toNat % 128 + 128 * 0 = b.toNat := by omega
      rw [this, UInt8.ofNat_toNat]
    | cons a r ih =>
      have hb0 : b.toNat ≠ 0 := h.resolve_left (by simp)
      have ih' := ih (fun x hx => hl x (List.mem_cons_of_mem _ hx)) (Or.inr hb0)
      have ha := hl a (List.mem_cons_self ..)
      have ha' := a.toNat_lt
      have hv : 0 < valL (r ++ [b]) := by
        rw [valL_snoc]
        have h1 : 0 < b.toNat % 128 * 128 ^ r.length := Nat.mul_pos (by omega) (Nat.pow_pos (by decide))
        omega
      rw [List.cons_append, valL, varL_big (by omega)]
      have e1 : 128 + (a.toNat % 128 + 128 * valL (r ++ [b])) % 128 = a.toNat := by omega
      have e2 : (a.toNat % 128 + 128 * valL (r ++ [b])) / 128 = valL (r ++ [b]) := by omega
      rw [e1, e2, ih', UInt8.ofNat_toNat]

/-- The three results of a read. -/
def rvVal : Option (Nat × Nat) → Value
  | none => .tuple #[.int .i64 0, .int .i64 0, .bool false]
  | some (n, m) => .tuple #[.int .i64 n, .int .i64 m, .bool true]

theorem rvVal_none {o : Option (Nat × Nat)} (h : o = none) : rvVal o = .tuple #[.int .i64 0, .int .i64 0, .bool false] := by rw [h]; rfl
theorem rvVal_some {o : Option (Nat × Nat)} {n m : Nat} (h : o = some (n, m)) : rvVal o = .tuple #[.int .i64 n, .int .i64 m, .bool true] := by rw [h]; rfl

end Go.Proofs.YtcehbmlibfalaaaDoor
