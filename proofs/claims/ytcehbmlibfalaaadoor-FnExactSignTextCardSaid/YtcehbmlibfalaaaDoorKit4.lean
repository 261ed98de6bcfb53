/-
  Appending to a row of the call's own, with the word where the new row lies: two rows of the call's own stay apart. No program in sight.
-/
import Derived.Test.YtcehbmlibfalaaaDoorPuStrs
import Derived.Deep.RegionHeld3
namespace Go.Proofs.YtcehbmlibfalaaaDoor
open Go.RowKit
section
variable {P : Program}

/-- append onto a row of the call's own, out of whatever source. -/
theorem run_append_Own2 (w : World) (B : Nat) (t tx ty e : TypeId) (i : TypeInfo) (z : Value) (size bytes : Nat) (ht : P.underlying t = some (.slice e)) (hi : P.info? e = some i) (hz : i.zero = some z)
    (hsize : i.size = size) (hby : i.bytes = bytes) (hzs : z.cells.size = size)
    (v : Value) (n : Nat) (cs : List Value) (h : Own w B size v n cs) (x : Value) (m : Nat) (news : List Value) (hs : Src P size tx x m news w)
    (h63 : n + m ≤ maxLen) (hbytes : (n + m) * bytes ≤ 140737488355328) (hB : B ≤ w.heap.size) :
    ∃ v' w', (Builtin.append_ #[t, tx] ty #[v, x]).run P w = .ok v' w' ∧ Own w' B size v' (n + m) (cs ++ news) ∧ w.grownBy w' v.ownBlock ∧ (v' = .slice none 0 0 ↔ v = .slice none 0 0 ∧ m = 0) ∧ (∀ k, v'.ownBlock = some k → v.ownBlock = some k ∨ w.heap.size ≤ k) := by
  subst hsize
  subst hby
  have hnl := hs.newsLen
  have hcl := h.len
  have hsmall : n + m ≤ 9223372036854775807 := by simp only [maxLen] at h63; omega
  -- a new row
  have grow : ∀ (bs : Option Addr) (sc : Nat), v = .slice bs n sc → sc < n + m →
      (Builtin.firstCells i.size n (.slice bs n sc)).run P w.drew = .ok cs.toArray w.drew →
      ∃ v' w', (Builtin.append_ #[t, tx] ty #[v, x]).run P w = .ok v' w' ∧ Own w' B i.size v' (n + m) (cs ++ news) ∧ w.grownBy w' v.ownBlock ∧ v' ≠ .slice none 0 0 ∧ (∀ k, v'.ownBlock = some k → w.heap.size ≤ k) := by
    rintro bs sc rfl hg hold
    have hrun := run_append_grow_src (P := P) w t tx ty e i z ht hi hz bs n sc cs hold x m news hs hg (by omega) (growslice_fits hg hbytes)
    have hge := grownCap_ge w (n + m) sc e
    have hcm := grownCap_le_maxLen w (n + m) sc e h63
    have hL : (cs ++ news).length = (n + m) * i.size := by rw [List.length_append, hcl, hnl, Nat.add_mul]
    refine ⟨_, _, hrun, .inr ⟨w.heap.size, _, rfl, hB, ?_, hge, hcm, hL, fun j hj => ?_, fun j hj => ⟨?_, ?_⟩⟩, ⟨rfl, rfl, rfl, by simp, fun k hk _ => Below.heap_alloc w.drew _ k hk⟩, by simp, fun k hk => by cases hk; exact Nat.le_refl _⟩
    · simp
    · have e1 : (w.drew.alloc (.cells ((cs ++ news).toArray ++ Builtin.zeroCells z.cells (grownCap w (n + m) sc e - (n + m))) e)).cell? ⟨w.heap.size, j, none⟩ = _ := World.cell?_alloc_new w.drew _ _ j
      rw [e1, Array.getElem?_append_left (by simp only [List.size_toArray]; rw [hL]; exact hj), List.getElem?_toArray]
    · have e1 : (w.drew.alloc (.cells ((cs ++ news).toArray ++ Builtin.zeroCells z.cells (grownCap w (n + m) sc e - (n + m))) e)).cell? ⟨w.heap.size, j, none⟩ = _ := World.cell?_alloc_new w.drew _ _ j
      rw [e1]
      have hsz : ((cs ++ news).toArray ++ Builtin.zeroCells z.cells (grownCap w (n + m) sc e - (n + m))).size = grownCap w (n + m) sc e * i.size := by
        rw [Array.size_append, List.size_toArray, hL, size_zeroCells, hzs, ← Nat.add_mul]
        congr 1
        omega
      rw [Array.getElem?_eq_getElem (by rw [hsz]; exact hj)]
      rfl
    · exact World.frozen?_alloc_new w.drew _ _ j
  rcases h with ⟨rfl, rfl, rfl⟩ | ⟨g, cap, rfl, hBg, r⟩
  · rcases Nat.eq_zero_or_pos m with rfl | hm
    · obtain rfl : news = [] := List.eq_nil_of_length_eq_zero (by simpa using hnl)
      exact ⟨_, _, run_append_nothing (P := P) w t tx ty e i ht hi none 0 0 (Nat.le_refl _) x hs, .inl ⟨rfl, rfl, rfl⟩, World.grownBy.refl _ _, by simp, fun k hk => by cases hk⟩
    · obtain ⟨v', w', h1, h2, h3, h4, h5⟩ := grow none 0 rfl (by omega) (run_firstCells_none w.drew i.size 0 0 0)
      exact ⟨v', w', h1, h2, h3, ⟨fun e' => absurd e' h4, fun ⟨_, e'⟩ => by omega⟩, fun k hk => .inr (h5 k hk)⟩
  · by_cases hfit : n + m ≤ cap
    · have hrc : (n + m) * i.size ≤ cap * i.size := Nat.mul_le_mul_right _ hfit
      rw [Nat.add_mul] at hrc
      have hsome : ∀ j, j < news.length → (w.cell? ⟨g, 0 + n * i.size + j, none⟩).isSome = true := fun j hj => by rw [Nat.zero_add]; exact (r.there _ (by omega)).1
      have hrun := run_append_room_src (P := P) w t tx ty e i ht hi g 0 n cap x m news hs hfit hsome (fun j hj => by rw [Nat.zero_add]; exact (r.there _ (by omega)).2)
      refine ⟨_, _, hrun, .inr ⟨g, cap, rfl, hBg, by rw [size_setCells]; exact r.lt, hfit, r.max, by rw [List.length_append, hcl, hnl, Nat.add_mul], fun j hj => ?_, fun j hj => ⟨?_, (World.frozen?_setCells g _ _ _ _).trans (r.there j hj).2⟩⟩, grownBy_setCells w g _ news, by simp, fun k hk => .inl hk⟩
      · rw [Nat.add_mul] at hj
        by_cases hjo : j < n * i.size
        · rw [World.cell?_setCells_out g _ _ _ _ (fun _ _ => Or.inl (by show j < 0 + n * i.size; omega)), List.getElem?_append_left (by omega)]
          exact r.holds j hjo
        · have ht' : j - n * i.size < news.length := by omega
          have := World.cell?_setCells_in g news (0 + n * i.size) w hsome (j - n * i.size) ht'
          rw [show 0 + n * i.size + (j - n * i.size) = j by omega] at this
          rw [this, List.getElem?_append_right (by omega), hcl, List.getElem?_eq_getElem ht']
      · by_cases hin : n * i.size ≤ j ∧ j < n * i.size + news.length
        · have := World.cell?_setCells_in g news (0 + n * i.size) w hsome (j - n * i.size) (by omega)
          rw [show 0 + n * i.size + (j - n * i.size) = j by omega] at this
          rw [this]; rfl
        · rw [World.cell?_setCells_out g _ _ _ _ (fun _ _ => by show j < 0 + n * i.size ∨ 0 + n * i.size + news.length ≤ j; omega)]
          exact (r.there j hj).1
    · obtain ⟨v', w', h1, h2, h3, h4, h5⟩ := grow (some ⟨g, 0, none⟩) cap rfl (by omega) (run_firstCells_some w.drew i.size n ⟨g, 0, none⟩ n cap cs hcl (fun j u hu => by
        rw [Addr.add_lit, Nat.zero_add]
        have hj : j < n * i.size := by rw [← hcl]; exact (List.getElem?_eq_some_iff.1 hu).1
        exact (r.holds j hj).trans hu))
      exact ⟨v', w', h1, h2, h3, ⟨fun e' => absurd e' h4, fun ⟨e', _⟩ => by cases e'⟩, fun k hk => .inr (h5 k hk)⟩

end

/-- 'append(b, x, y ..)' onto a []string of the call's own, for the walk. -/
theorem wpList_push_strs2 {P : Program} (w W : World) {ops : Array Oper} {rest : List Oper} {o : Oper} {a : Act} {Q : Exit → Act → World → Prop}
    (hg : o.guard = none) (s xo : Operand) (t : TypeId) (hop : o.op = Op.call { callee := Callee.builtin Builtin.append, args := #[s, xo], argTypes := #[t, t] })
    (e : TypeId) (ht : P.underlying t = some (.slice e)) (hinfo : (P.info? e).map (fun i => (i.zero, i.size, i.bytes)) = some (some (.string ⟨#[]⟩), 1, 16))
    (B : Nat) (v : Value) (l : List ByteArray) (hs : a.eval s = v) (hown : OwnS w B v l) (xs : List Value) (news : List ByteArray) (hx : xs = strC news) (m c : Nat) (hm : news.length = m)
    (H : Nat) (hxo : a.eval xo = .slice (some ⟨H, 0, none⟩) m c) (hH : w.heap.size = H) (hb : l.length + m ≤ 1099511627776) (hB : B ≤ w.heap.size) (hW : W = w.alloc (.cells xs.toArray e))
    (hK : ∀ v' w', OwnS w' B v' (l ++ news) → w.grownBy w' v.ownBlock → Below B w w' → (∀ k, v'.ownBlock = some k → v.ownBlock = some k ∨ w.heap.size ≤ k) → wpList P ops Q rest (a.put o.dst v') w') :
    wpList P ops Q (o :: rest) a W := by
  subst hW
  subst hH
  have hsz : (w.alloc (.cells xs.toArray e)).heap.size = w.heap.size + 1 := by simp
  refine wpList_plain hg fun K hK' => ?_
  obtain ⟨i, hi, hz, hsize, hby⟩ := info_parts hinfo
  obtain ⟨v', w', hrun, r1, r2, r3, r4⟩ := run_append_Own2 (P := P) (w.alloc (.cells xs.toArray e)) B t t o.type e i _ 1 16 ht hi hz hsize hby rfl v l.length (strC l) (Own.alloc hown _) _ m (strC news) (src_strs ht w c m news xs hm hx) (by unfold maxLen; omega) (by omega) (by omega)
  unfold Oper.wp
  simp [execOp, hop, resolve, invoke, builtin, hs, hxo, hrun, Result.andThen]
  have hg' : w.grownBy w' v.ownBlock := ⟨r2.os, r2.tape, r2.output, by have := r2.size; omega, fun k hk hne => (r2.block k (by omega) hne).trans (Below.heap_alloc w _ k hk)⟩
  refine hK' _ _ (hK v' w' ?_ hg' ((Below.refl B w).grown hg' hB (fun k hk => (hown.block k hk).1)) (fun k hk => (r4 k hk).imp id (fun h => by omega)))
  unfold OwnS
  rw [strC_append, List.length_append, hm]
  exact r1

/-- 'append(b, x, y ..)' onto a []string of the call's own, at a step of a region that draws. -/
theorem step_push_strs2 {P : Program} (w W : World) {ops : Array Oper} {o : Oper} {a : Act} {K : Act → World → Prop} {Q : Exit → Act → World → Prop} {E : Prop}
    (hg : o.guard = none) (s xo : Operand) (t : TypeId) (hop : o.op = Op.call { callee := Callee.builtin Builtin.append, args := #[s, xo], argTypes := #[t, t] })
    (e : TypeId) (ht : P.underlying t = some (.slice e)) (hinfo : (P.info? e).map (fun i => (i.zero, i.size, i.bytes)) = some (some (.string ⟨#[]⟩), 1, 16))
    (B : Nat) (v : Value) (l : List ByteArray) (hs : a.eval s = v) (hown : OwnS w B v l) (xs : List Value) (news : List ByteArray) (hx : xs = strC news) (m c : Nat) (hm : news.length = m)
    (H : Nat) (hxo : a.eval xo = .slice (some ⟨H, 0, none⟩) m c) (hH : w.heap.size = H) (hb : l.length + m ≤ 1099511627776) (hB : B ≤ w.heap.size) (hW : W = w.alloc (.cells xs.toArray e))
    (hK : ∀ v' w', OwnS w' B v' (l ++ news) → w.grownBy w' v.ownBlock → Below B w w' → (∀ k, v'.ownBlock = some k → v.ownBlock = some k ∨ w.heap.size ≤ k) → K (a.put o.dst v') w') :
    if Region.wanted o (yielded ops a.tmps) = true then Oper.wp P o a W K Q else E := by
  have hw : Region.wanted o (yielded ops a.tmps) = true := by simp [Region.wanted, hg]
  rw [if_pos hw]
  subst hW
  subst hH
  have hsz : (w.alloc (.cells xs.toArray e)).heap.size = w.heap.size + 1 := by simp
  obtain ⟨i, hi, hz, hsize, hby⟩ := info_parts hinfo
  obtain ⟨v', w', hrun, r1, r2, r3, r4⟩ := run_append_Own2 (P := P) (w.alloc (.cells xs.toArray e)) B t t o.type e i _ 1 16 ht hi hz hsize hby rfl v l.length (strC l) (Own.alloc hown _) _ m (strC news) (src_strs ht w c m news xs hm hx) (by unfold maxLen; omega) (by omega) (by omega)
  unfold Oper.wp
  simp [execOp, hop, resolve, invoke, builtin, hs, hxo, hrun, Result.andThen]
  have hg' : w.grownBy w' v.ownBlock := ⟨r2.os, r2.tape, r2.output, by have := r2.size; omega, fun k hk hne => (r2.block k (by omega) hne).trans (Below.heap_alloc w _ k hk)⟩
  refine hK v' w' ?_ hg' ((Below.refl B w).grown hg' hB (fun k hk => (hown.block k hk).1)) (fun k hk => (r4 k hk).imp id (fun h => by omega))
  unfold OwnS
  rw [strC_append, List.length_append, hm]
  exact r1

/-- Two rows apart stay apart where the one grows. -/
theorem apart_grow {u v v' : Value} {w : World} (h : u.ownBlock = none ∨ u.ownBlock ≠ v.ownBlock) (hu : ∀ k, u.ownBlock = some k → k < w.heap.size) (hv : ∀ k, v'.ownBlock = some k → v.ownBlock = some k ∨ w.heap.size ≤ k) : u.ownBlock = none ∨ u.ownBlock ≠ v'.ownBlock := by
  cases hn : u.ownBlock with
  | none => exact .inl rfl
  | some k =>
    refine .inr (fun e => ?_)
    rcases hv k e.symm with h2 | h2
    · rcases h with h | h
      · rw [hn] at h; cases h
      · exact h (hn.trans h2.symm)
    · have := hu k hn; omega

end Go.Proofs.YtcehbmlibfalaaaDoor
