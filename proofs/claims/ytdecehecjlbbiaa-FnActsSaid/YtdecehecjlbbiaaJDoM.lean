/-
  Joined: Do1, Do2, Do3, Do4, Do5, Do6, Do7.
-/
import Derived.Test.YtdecehecjlbbiaaJDisk4
import Derived.Test.YtdecehecjlbbiaaBase4
/-! The walks of the reference's parts of an operation: a disk without a file, a file put in its place. -/
namespace Go.Proofs.Ytdecehecjlbbiaa
open Go.RowKit

theorem OwnF.push {w : World} {B : Nat} {v : Value} {l : List Fl} {x : Fl} (h : Own w B 3 v (l.length + 1) (fileC l ++ [.string x.1, .string x.2.1, .int .i64 x.2.2])) : OwnF w B v (l ++ [x]) := by
  unfold OwnF
  rw [List.length_append, fileC_append]
  exact h
theorem fl_one (x : Fl) : ∀ u ∈ [Value.string x.1, .string x.2.1, .int .i64 x.2.2], u.oneCell' = true := by
  intro u hu; simp at hu; rcases hu with rfl | rfl | rfl <;> rfl
theorem filter_len_take {l : List Fl} (p : Fl → Bool) (k : Nat) : ((l.take k).filter p).length ≤ l.length := Nat.le_trans (List.length_filter_le _ _) (by rw [List.length_take]; omega)
/-- What a loop over files keeps: the row under construction and the boxes. -/
structure Mid (w : World) (h : Nat) (lo : Nat) (T : TypeId) (dv : Value) (o : Nat) (cur : List Fl) (wr : World) (v : Value) : Prop where
  own : OwnF wr lo v cur
  out : Blk wr o T [v]
  box : Blk wr h T [dv]
  low : Below w.heap.size w wr
  size : lo ≤ wr.heap.size

set_option maxHeartbeats 2000000 in
set_option maxRecDepth 100000 in
theorem sWithout_any (v : Value) (l : List Fl) (n : ByteArray) (w : World) (hl : l.length ≤ 1048576) (h : RdK w v l) :
    Calls Try.prog 88 #[v, .string n] w fun e w' => GivesK w.heap.size (outL l n) e w' ∧ Below w.heap.size w w' := by
  obtain ⟨ao, cap, rfl, hr⟩ := h
  have hz1 := alloc_size w (.cells #[.slice ao l.length cap] 29)
  have hz2 := alloc_size (w.alloc (.cells #[.slice ao l.length cap] 29)) (.cells #[.slice none 0 0] 29)
  have hz3 := alloc_size ((w.alloc (.cells #[.slice ao l.length cap] 29)).alloc (.cells #[.slice none 0 0] 29)) (.cells #[.slice none 0 0] 29)
  have hB := (((Below.refl w.heap.size w).alloc (Nat.le_refl _) (.cells #[.slice ao l.length cap] 29)).alloc (by omega) (.cells #[.slice none 0 0] 29)).alloc (by omega) (.cells #[.slice none 0 0] 29)
  have b1 := ((Blk.new w 29 [.slice ao l.length cap] _ rfl).alloc (.cells #[.slice none 0 0] 29)).alloc (.cells #[.slice none 0 0] 29)
  have b2 := (Blk.new (w.alloc (.cells #[.slice ao l.length cap] 29)) 29 [.slice none 0 0] _ rfl).alloc (.cells #[.slice none 0 0] 29)
  have b3 := Blk.new ((w.alloc (.cells #[.slice ao l.length cap] 29)).alloc (.cells #[.slice none 0 0] 29)) 29 [.slice none 0 0] _ rfl
  rw [hz1] at b2
  rw [hz2, hz1] at b3
  have hz : w.heap.size + 3 ≤ (((w.alloc (.cells #[.slice ao l.length cap] 29)).alloc (.cells #[.slice none 0 0] 29)).alloc (.cells #[.slice none 0 0] 29)).heap.size := by omega
  have H1 := Lib.hid (And.intro b1 (And.intro b2 (And.intro b3 (And.intro hB hz))))
  have R := Lib.hid (fun W hW => hr.below (C := w.heap.size) (w' := W) hW (Nat.le_refl _))
  clear hz1 hz2 hz3 hB b1 b2 b3 hz hr
  go_enter Try.func88, Try.ntmps88
  go_wp2_with fail
  obtain ⟨b1, b2, b3, hB, hz⟩ := H1.out
  go_loopw [6] (fun i wr => ∃ (k : Nat) (v : Value), k ≤ l.length ∧ i = .int .i64 k ∧ Blk wr (w.heap.size + 1) 29 [.slice none 0 0] ∧ Mid w w.heap.size (w.heap.size + 3) 29 (.slice ao l.length cap) (w.heap.size + 2) ((l.take k).filter fun x => decide (x.1 ≠ n)) wr v) (fun i _ => l.length - (intOf i).toNat)
  case atStart => exact ⟨0, _, Nat.zero_le _, rfl, b2, ⟨by rw [List.take_zero]; exact Own.nil _ _ _, b3, b1, hB, hz⟩⟩
  case round =>
    clear b1 b2 b3 hB hz
    obtain ⟨k, v, hk, rfl, hb2, hM⟩ := hrel
    have c1 := Blk.cell hM.box 0
    simp only [List.getElem?_cons_zero] at c1
    by_cases hlt : k < l.length
    · obtain ⟨x, hx⟩ : ∃ x, l[k]? = some x := ⟨_, List.getElem?_eq_getElem hlt⟩
      obtain ⟨b, o, rfl, p0, p1, p2⟩ := (R.out _ hM.low).at_ k x hx
      have hfs := filter_step (p := fun x => decide (x.1 ≠ n)) hx
      have HM := Lib.hid (And.intro hb2 hM)
      have i0 : (0 : Int) ≤ (k : Int) := Int.natCast_nonneg _
      have hlc := filter_len_take (l := l) (fun x => decide (x.1 ≠ n)) k
      generalize hcur : ((l.take k).filter fun x => decide (x.1 ≠ n)) = cur at *
      have Hcur := Lib.hid hcur
      clear hcur
      by_cases hn : x.1 = n
      · rw [decide_eq_false (by simpa using hn)] at hfs
        simp only [Bool.false_eq_true, if_false, List.append_nil] at hfs
        have HN := Lib.hid hfs
        have e1 : (x.1.toList != n.toList) = false := by rw [hn]; simp
        have e2 : (x.1.toList == n.toList) = true := by rw [hn]; simp
        obtain ⟨xa, xb, xn⟩ := x
        simp only at p0 p1 p2 e1 e2
        clear hx hn hfs hb2 hM hlc
        go_wp2_with fail
        exact ⟨⟨k + 1, v, by omega, by go_num, HM.out.1, by rw [HN.out]; exact HM.out.2⟩, by simp [intOf]; omega⟩
      · rw [decide_eq_true hn] at hfs
        simp only [if_true] at hfs
        have HN := Lib.hid hfs
        have e1 : (x.1.toList != n.toList) = true := by have := name_ne hn; rw [bne, this]; rfl
        have e2 := name_ne hn
        have HO := Lib.hid (fl_one x)
        have HP := Lib.hid (fun (W : World) B v h => OwnF.push (w := W) (B := B) (v := v) (l := cur) (x := x) h)
        have d3 := Blk.cell hM.out 0
        simp only [List.getElem?_cons_zero] at d3
        have hlo := hM.out.lt
        obtain ⟨qv, cv, rfl⟩ := Own.shape hM.own
        have hsz := hM.size
        obtain ⟨xa, xb, xn⟩ := x
        simp only at p0 p1 p2 e1 e2 HO HP
        clear hx hn hfs hb2 hM
        go_wp2_with fail
        have a6 : ∀ o, (wr.alloc o).cell? ⟨w.heap.size + 2, 0, none⟩ = some (.slice qv cur.length cv) := fun o => (((Below.refl wr.heap.size wr).alloc (Nat.le_refl _) o).cell (p := ⟨w.heap.size + 2, 0, none⟩) hlo).trans d3
        go_region_law (first
          | (refine step_push_cells wr.drew _ (by rfl) _ _ 27 (by rfl) 49 Try.underlying27 _ 3 40 rfl Try.infoFile (w.heap.size + 3) _ cur.length (fileC cur) (by rfl) (Own.drew HM.out.2.own) _ [.string xa, .string xb, .int .i64 xn] (by rfl) HO.out 1 1 (by rfl) _ (by rfl) (by rfl) (by omega) (by decide) HM.out.2.size (by rfl) ?_; intro v3 w3 hown3 hg3 hb3; have D6 := Blk.kept (Blk.drew HM.out.2.out) hg3 (fun e => by have := (Own.block HM.out.2.own _ e.symm).1; omega); have k0 := Blk.cell D6 0; have k1 := Blk.frozen D6 0; simp only [List.getElem?_cons_zero] at k0; obtain ⟨q3, c3, rfl⟩ := Own.shape hown3))
        all_goals
          have F6 := Blk.set_ D6 0 (.slice q3 (cur.length + 1) c3)
          have F1 := (Blk.kept (Blk.drew HM.out.2.box) hg3 (fun e => by have := (Own.block HM.out.2.own _ e.symm).1; omega)).far (p := ⟨w.heap.size + 2, 0, none⟩) (by simp only; omega) (.slice q3 (cur.length + 1) c3)
          have F2 := (Blk.kept (Blk.drew HM.out.1) hg3 (fun e => by have := (Own.block HM.out.2.own _ e.symm).1; omega)).far (p := ⟨w.heap.size + 2, 0, none⟩) (by simp only; omega) (.slice q3 (cur.length + 1) c3)
          have FB := ((bDrewN HM.out.2.low 1).trans (hb3.mono (show w.heap.size ≤ w.heap.size + 3 by omega))).setCell (p := ⟨w.heap.size + 2, 0, none⟩) (by simp only; omega) (.slice q3 (cur.length + 1) c3)
          have FO := Own.setCell (a := ⟨w.heap.size + 2, 0, none⟩) (HP.out _ _ _ hown3) (by simp only; omega) (.slice q3 (cur.length + 1) c3)
          have FL : w.heap.size + 3 ≤ (w3.setCell ⟨w.heap.size + 2, 0, none⟩ (.slice q3 (cur.length + 1) c3)).heap.size := by have := hg3.size; have := HM.out.2.size; simp only [World.setCell, Array.size_modify]; exact Nat.le_trans HM.out.2.size hg3.size
          have FA := Lib.hid (And.intro F2 (Mid.mk FO F6 F1 FB FL))
          clear D6 k0 k1 hown3 hg3 hb3 F6 F1 F2 FB FO FL
          go_wp2_with fail
          exact ⟨⟨k + 1, _, by omega, by go_num, FA.out.1, by rw [HN.out]; exact FA.out.2⟩, by simp [intOf]; omega⟩
    · obtain rfl : k = l.length := by omega
      have hM2 := hM
      rw [filter_all] at hM2
      change Mid _ _ _ _ _ _ (outL l n) _ _ at hM2
      have HM := Lib.hid hM2
      obtain ⟨qv, cv, rfl⟩ := Own.shape hM2.own
      have d3 := Blk.cell hM2.out 0
      have e2 := Blk.cell hb2 0
      have f2 := Blk.frozen hb2 0
      simp only [List.getElem?_cons_zero] at d3 e2
      have E2 := Lib.hid (Blk.set_ hb2 0 (.slice qv (outL l n).length cv))
      have HF := Lib.hid (hM2.low.setCell (p := ⟨w.heap.size + 1, 0, none⟩) (by simp only; omega) (.slice qv (outL l n).length cv))
      have HO := Lib.hid ((Own.setCell (a := ⟨w.heap.size + 1, 0, none⟩) hM2.own (by simp only; omega) (.slice qv (outL l n).length cv)).mono (show w.heap.size ≤ w.heap.size + 3 by omega))
      clear hM hM2 hb2
      go_wp2_with fail
      refine bodyPost_ret (results_cell_row rfl _ _ (w.heap.size + 1) 29 #[.slice qv (outL l n).length cv] (0, 0) _ rfl E2.out Try.underlying29 rfl (by kernel_rfl)) rfl ?_
      exact ⟨⟨_, _, rfl, rfl, HO.out⟩, HF.out⟩

end Go.Proofs.Ytdecehecjlbbiaa

/-! The walk of the reference's putting of a file in its place. -/
namespace Go.Proofs.Ytdecehecjlbbiaa
open Go.RowKit

theorem gt_yes {a b : ByteArray} (h : Op.bytesLess a.toList b.toList = true) : Op.bytesLess b.toList a.toList = false ∧ (b.toList == a.toList) = false := by
  have h1 : bless a b = true := h
  refine ⟨bless_as h1, ?_⟩
  exact name_ne (fun e => by rw [e, bless_irr] at h1; cases h1)
theorem gt_no {a b : ByteArray} (h : Op.bytesLess a.toList b.toList = false) : (Op.bytesLess b.toList a.toList = true ∧ (b.toList == a.toList) = false) ∨ (Op.bytesLess b.toList a.toList = false ∧ (b.toList == a.toList) = true) := by
  have h1 : bless a b = false := h
  rcases bless_tri a b with g | g | g
  · rw [g] at h1; cases h1
  · subst g; exact .inr ⟨bless_irr a, beq_self_eq_true _⟩
  · exact .inl ⟨g, name_ne (fun e => by rw [e, bless_irr] at g; cases g)⟩

set_option maxHeartbeats 4000000 in
set_option maxRecDepth 100000 in
theorem sPut_any (v : Value) (l : List Fl) (f : Fl) (w : World) (hl : l.length ≤ 1048576) (h : RdK w v l) :
    Calls Try.prog 77 #[v, .agg #[.string f.1, .string f.2.1, .int .i64 f.2.2]] w fun e w' => GivesK w.heap.size (putL l f) e w' ∧ Below w.heap.size w w' := by
  obtain ⟨ao, cap, rfl, hr⟩ := h
  have hfo := Lib.hid (fl_one f)
  have HPF := Lib.hid (fun (W : World) B v cur h => OwnF.push (w := W) (B := B) (v := v) (l := cur) (x := f) h)
  have HPT := Lib.hid (show putL l f = (l.filter (fun x => bless x.1 f.1) ++ [f]) ++ l.filter (fun x => bless f.1 x.1) by unfold putL; rw [List.append_assoc]; rfl)
  have HN1 := Lib.hid (fun (k : Nat) (x : Fl) (hx : l[k]? = some x) => filter_step (p := fun x => bless x.1 f.1) hx)
  have HN2 := Lib.hid (fun (k : Nat) (x : Fl) (hx : l[k]? = some x) => filter_step (p := fun x => bless f.1 x.1) hx)
  have hc1 := fun k => filter_len_take (l := l) (fun x => bless x.1 f.1) k
  have hc2 := fun k => filter_len_take (l := l) (fun x => bless f.1 x.1) k
  have HC1 := Lib.hid hc1
  have HC2 := Lib.hid hc2
  have HA1 := Lib.hid (filter_all (p := fun x => bless x.1 f.1) (l := l))
  have HA2 := Lib.hid (filter_all (p := fun x => bless f.1 x.1) (l := l))
  obtain ⟨fa, fb, fn⟩ := f
  simp only at hfo HPF HN1 HN2 HC1 HC2 HA1 HA2 HPT ⊢
  have hz1 := alloc_size w (.cells #[.slice ao l.length cap] 29)
  have hz2 := alloc_size (w.alloc (.cells #[.slice ao l.length cap] 29)) (.cells #[.string fa, .string fb, .int .i64 fn] 49)
  have hz3 := alloc_size ((w.alloc (.cells #[.slice ao l.length cap] 29)).alloc (.cells #[.string fa, .string fb, .int .i64 fn] 49)) (.cells #[.slice none 0 0] 29)
  have hz4 := alloc_size (((w.alloc (.cells #[.slice ao l.length cap] 29)).alloc (.cells #[.string fa, .string fb, .int .i64 fn] 49)).alloc (.cells #[.slice none 0 0] 29)) (.cells #[.slice none 0 0] 29)
  have hB := ((((Below.refl w.heap.size w).alloc (Nat.le_refl _) (.cells #[.slice ao l.length cap] 29)).alloc (by omega) (.cells #[.string fa, .string fb, .int .i64 fn] 49)).alloc (by omega) (.cells #[.slice none 0 0] 29)).alloc (by omega) (.cells #[.slice none 0 0] 29)
  have b1 := (((Blk.new w 29 [.slice ao l.length cap] _ rfl).alloc (.cells #[.string fa, .string fb, .int .i64 fn] 49)).alloc (.cells #[.slice none 0 0] 29)).alloc (.cells #[.slice none 0 0] 29)
  have b2 := ((Blk.new (w.alloc (.cells #[.slice ao l.length cap] 29)) 49 [.string fa, .string fb, .int .i64 fn] _ rfl).alloc (.cells #[.slice none 0 0] 29)).alloc (.cells #[.slice none 0 0] 29)
  have b3 := (Blk.new ((w.alloc (.cells #[.slice ao l.length cap] 29)).alloc (.cells #[.string fa, .string fb, .int .i64 fn] 49)) 29 [.slice none 0 0] _ rfl).alloc (.cells #[.slice none 0 0] 29)
  have b4 := Blk.new (((w.alloc (.cells #[.slice ao l.length cap] 29)).alloc (.cells #[.string fa, .string fb, .int .i64 fn] 49)).alloc (.cells #[.slice none 0 0] 29)) 29 [.slice none 0 0] _ rfl
  rw [hz1] at b2
  rw [hz2, hz1] at b3
  rw [hz3, hz2, hz1] at b4
  have hz : w.heap.size + 4 ≤ ((((w.alloc (.cells #[.slice ao l.length cap] 29)).alloc (.cells #[.string fa, .string fb, .int .i64 fn] 49)).alloc (.cells #[.slice none 0 0] 29)).alloc (.cells #[.slice none 0 0] 29)).heap.size := by omega
  have H1 := Lib.hid (And.intro b1 (And.intro b2 (And.intro b3 (And.intro b4 (And.intro hB hz)))))
  have R := Lib.hid (fun W hW => hr.below (C := w.heap.size) (w' := W) hW (Nat.le_refl _))
  clear hz1 hz2 hz3 hz4 hB b1 b2 b3 b4 hz hr hc1 hc2
  rw [HPT.out]
  go_enter Try.func77, Try.ntmps77
  go_wp2_with fail
  obtain ⟨b1, b2, b3, b4, hB, hz⟩ := H1.out
  go_loopw [6] (fun i wr => ∃ (k : Nat) (v : Value), k ≤ l.length ∧ i = .int .i64 k ∧ (Blk wr (w.heap.size + 2) 29 [.slice none 0 0] ∧ Blk wr (w.heap.size + 1) 49 [.string fa, .string fb, .int .i64 fn]) ∧ Mid w w.heap.size (w.heap.size + 4) 29 (.slice ao l.length cap) (w.heap.size + 3) ((l.take k).filter fun x => bless x.1 fa) wr v) (fun i _ => l.length - (intOf i).toNat)
  case atStart => exact ⟨0, _, Nat.zero_le _, rfl, ⟨b3, b2⟩, ⟨by rw [List.take_zero]; exact Own.nil _ _ _, b4, b1, hB, hz⟩⟩
  case round =>
    clear b1 b2 b3 b4 hB hz
    obtain ⟨k, v, hk, rfl, hb2, hM⟩ := hrel
    have c1 := Blk.cell hM.box 0
    have c2 := Blk.cell hb2.2 0
    simp only [List.getElem?_cons_zero] at c1 c2
    by_cases hlt : k < l.length
    · obtain ⟨x, hx⟩ : ∃ x, l[k]? = some x := ⟨_, List.getElem?_eq_getElem hlt⟩
      obtain ⟨b, o, rfl, p0, p1, p2⟩ := (R.out _ hM.low).at_ k x hx
      have hfs := HN1.out k x hx
      have i0 : (0 : Int) ≤ (k : Int) := Int.natCast_nonneg _
      have hlc := HC1.out k
      have HO := Lib.hid (fl_one x)
      have HP := Lib.hid (fun (W : World) B v cur h => OwnF.push (w := W) (B := B) (v := v) (l := cur) (x := x) h)
      obtain ⟨xa, xb, xn⟩ := x
      simp only at p0 p1 p2 HO HP hfs
      have Hfs := Lib.hid hfs
      clear hx hfs
      cases hbl : Op.bytesLess xa.toList fa.toList
      · have HN : Hid ((l.take (k + 1)).filter (fun x => bless x.1 fa) = (l.take k).filter (fun x => bless x.1 fa)) := Lib.hid (by rw [Hfs.out]; unfold bless; rw [hbl]; simp)
        have HM := Lib.hid (And.intro hb2 hM)
        clear hb2 hM Hfs
        go_wp2_with fail
        go_quiet (fail)
        go_wp2_with fail
        exact ⟨⟨k + 1, v, by omega, by go_num, ⟨Blk.drewN HM.out.1.1 _, Blk.drewN HM.out.1.2 _⟩, by rw [HN.out]; exact ⟨Own.drewN HM.out.2.own _, Blk.drewN HM.out.2.out _, Blk.drewN HM.out.2.box _, bDrewN HM.out.2.low _, HM.out.2.size⟩⟩, by simp [intOf]; omega⟩
      · have HN : Hid ((l.take (k + 1)).filter (fun x => bless x.1 fa) = (l.take k).filter (fun x => bless x.1 fa) ++ [(xa, xb, xn)]) := Lib.hid (by rw [Hfs.out]; unfold bless; rw [hbl]; simp)
        have HM0 := Lib.hid (And.intro hb2 hM)
        obtain ⟨qv, cv, rfl⟩ := Own.shape hM.own
        clear hb2 hM Hfs
        go_wp2_with fail
        go_quiet (fail)
        have HM : Hid ((Blk (wr.drewN nq) (w.heap.size + 2) 29 [.slice none 0 0] ∧ Blk (wr.drewN nq) (w.heap.size + 1) 49 [.string fa, .string fb, .int .i64 fn]) ∧ Mid w w.heap.size (w.heap.size + 4) 29 (.slice (some ⟨b, o, none⟩) l.length cap) (w.heap.size + 3) ((l.take k).filter fun x => bless x.1 fa) (wr.drewN nq) (.slice qv ((l.take k).filter fun x => bless x.1 fa).length cv)) := Lib.hid ⟨HM0.out.1, ⟨Own.drewN HM0.out.2.own _, HM0.out.2.out, HM0.out.2.box, bDrewN HM0.out.2.low _, HM0.out.2.size⟩⟩
        have p0' : (wr.drewN nq).cell? ⟨b, o + k * 3, none⟩ = some (.string xa) := p0
        have p1' : (wr.drewN nq).cell? ⟨b, o + k * 3 + 1, none⟩ = some (.string xb) := p1
        have p2' : (wr.drewN nq).cell? ⟨b, o + k * 3 + 2, none⟩ = some (.int .i64 xn) := p2
        have c1' : (wr.drewN nq).cell? ⟨w.heap.size, 0, none⟩ = some (.slice (some ⟨b, o, none⟩) l.length cap) := c1
        generalize wr.drewN nq = W2 at *
        clear p0 p1 p2 c1 c2 HM0
        generalize ((l.take k).filter fun x => bless x.1 fa) = cur at *
        have hd3 := Blk.cell HM.out.2.out 0
        simp only [List.getElem?_cons_zero] at hd3
        have hlo := HM.out.2.out.lt
        have hsz := HM.out.2.size
        go_wp2_with fail
        have a6 : ∀ o, (W2.alloc o).cell? ⟨w.heap.size + 3, 0, none⟩ = some (.slice qv cur.length cv) := fun o => (((Below.refl W2.heap.size W2).alloc (Nat.le_refl _) o).cell (p := ⟨w.heap.size + 3, 0, none⟩) hlo).trans hd3
        go_region_law (first
          | (refine step_push_cells W2.drew _ (by rfl) _ _ 27 (by rfl) 49 Try.underlying27 _ 3 40 rfl Try.infoFile (w.heap.size + 4) _ cur.length (fileC cur) (by rfl) (Own.drew HM.out.2.own) _ [.string xa, .string xb, .int .i64 xn] (by rfl) HO.out 1 1 (by rfl) _ (by rfl) (by rfl) (by omega) (by decide) HM.out.2.size (by rfl) ?_; intro v3 w3 hown3 hg3 hb3; have D6 := Blk.kept (Blk.drew HM.out.2.out) hg3 (fun e => by have := (Own.block HM.out.2.own _ e.symm).1; omega); have k0 := Blk.cell D6 0; have k1 := Blk.frozen D6 0; simp only [List.getElem?_cons_zero] at k0; obtain ⟨q3, c3, rfl⟩ := Own.shape hown3))
        all_goals
          have F6 := Blk.set_ D6 0 (.slice q3 (cur.length + 1) c3)
          have F1 := (Blk.kept (Blk.drew HM.out.2.box) hg3 (fun e => by have := (Own.block HM.out.2.own _ e.symm).1; omega)).far (p := ⟨w.heap.size + 3, 0, none⟩) (by simp only; omega) (.slice q3 (cur.length + 1) c3)
          have F2 := (Blk.kept (Blk.drew HM.out.1.1) hg3 (fun e => by have := (Own.block HM.out.2.own _ e.symm).1; omega)).far (p := ⟨w.heap.size + 3, 0, none⟩) (by simp only; omega) (.slice q3 (cur.length + 1) c3)
          have F3 := (Blk.kept (Blk.drew HM.out.1.2) hg3 (fun e => by have := (Own.block HM.out.2.own _ e.symm).1; omega)).far (p := ⟨w.heap.size + 3, 0, none⟩) (by simp only; omega) (.slice q3 (cur.length + 1) c3)
          have FB := ((bDrewN HM.out.2.low 1).trans (hb3.mono (show w.heap.size ≤ w.heap.size + 4 by omega))).setCell (p := ⟨w.heap.size + 3, 0, none⟩) (by simp only; omega) (.slice q3 (cur.length + 1) c3)
          have FO := Own.setCell (a := ⟨w.heap.size + 3, 0, none⟩) (HP.out _ _ _ _ hown3) (by simp only; omega) (.slice q3 (cur.length + 1) c3)
          have FL : w.heap.size + 4 ≤ (w3.setCell ⟨w.heap.size + 3, 0, none⟩ (.slice q3 (cur.length + 1) c3)).heap.size := by simp only [World.setCell, Array.size_modify]; exact Nat.le_trans HM.out.2.size hg3.size
          have FA := Lib.hid (And.intro (And.intro F2 F3) (Mid.mk FO F6 F1 FB FL))
          clear D6 k0 k1 hown3 hg3 hb3 F6 F1 F2 F3 FB FO FL
          go_wp2_with fail
          exact ⟨⟨k + 1, _, by omega, by go_num, FA.out.1, by rw [HN.out]; exact FA.out.2⟩, by simp [intOf]; omega⟩
    · obtain rfl : k = l.length := by omega
      rw [HA1.out] at hM
      obtain ⟨qv, cv, rfl⟩ := Own.shape hM.own
      have hlf : (l.filter fun x => bless x.1 fa).length ≤ l.length := List.length_filter_le _ _
      generalize hq1 : (l.filter fun x => bless x.1 fa) = cur at *
      have Hq1 := Lib.hid hq1
      clear hq1
      have d3 := Blk.cell hM.out 0
      simp only [List.getElem?_cons_zero] at d3
      have d4 := Blk.cell hb2.2 0
      have d5 := Blk.cell hb2.2 1
      have d6 := Blk.cell hb2.2 2
      simp only [List.getElem?_cons_zero, List.getElem?_cons_succ] at d4 d5 d6
      have HM := Lib.hid (And.intro hb2 hM)
      clear hb2 hM c2
      go_wp2_with (at_builtin; refine wpList_push_cells wr _ rfl _ _ 27 rfl 49 Try.underlying27 _ 3 40 rfl Try.infoFile (w.heap.size + 4) _ cur.length (fileC cur) rfl HM.out.2.own _ [.string fa, .string fb, .int .i64 fn] rfl hfo.out 1 1 rfl _ rfl rfl (by omega) (by decide) HM.out.2.size rfl ?_; intro v3 w3 hown3 hg3 hb3; have D6 := Blk.kept HM.out.2.out hg3 (fun e => by have := (Own.block HM.out.2.own _ e.symm).1; omega); have k0 := Blk.cell D6 0; have k1 := Blk.frozen D6 0; simp only [List.getElem?_cons_zero] at k0; obtain ⟨q3, c3, rfl⟩ := Own.shape hown3; have F6 := Blk.set_ D6 0 (.slice q3 (cur.length + 1) c3); have F1 := (Blk.kept HM.out.2.box hg3 (fun e => by have := (Own.block HM.out.2.own _ e.symm).1; omega)).far (p := ⟨w.heap.size + 3, 0, none⟩) (by simp only; omega) (.slice q3 (cur.length + 1) c3); have F2 := (Blk.kept HM.out.1.1 hg3 (fun e => by have := (Own.block HM.out.2.own _ e.symm).1; omega)).far (p := ⟨w.heap.size + 3, 0, none⟩) (by simp only; omega) (.slice q3 (cur.length + 1) c3); have F3 := (Blk.kept HM.out.1.2 hg3 (fun e => by have := (Own.block HM.out.2.own _ e.symm).1; omega)).far (p := ⟨w.heap.size + 3, 0, none⟩) (by simp only; omega) (.slice q3 (cur.length + 1) c3); have FB := (HM.out.2.low.trans (hb3.mono (show w.heap.size ≤ w.heap.size + 4 by omega))).setCell (p := ⟨w.heap.size + 3, 0, none⟩) (by simp only; omega) (.slice q3 (cur.length + 1) c3); have FO := Own.setCell (a := ⟨w.heap.size + 3, 0, none⟩) (HPF.out _ _ _ _ hown3) (by simp only; omega) (.slice q3 (cur.length + 1) c3); have FL : w.heap.size + 4 ≤ (w3.setCell ⟨w.heap.size + 3, 0, none⟩ (.slice q3 (cur.length + 1) c3)).heap.size := (by simp only [World.setCell, Array.size_modify]; exact Nat.le_trans HM.out.2.size hg3.size); have FA := Lib.hid (And.intro (And.intro F2 F3) (Mid.mk FO F6 F1 FB FL)); clear D6 hown3 hg3 hb3 F6 F1 F2 F3 FB FO FL HM)
      clear d3 d4 d5 d6
      try clear k0
      try clear k1
      generalize hW3 : w3.setCell ⟨w.heap.size + 3, 0, none⟩ (.slice q3 (cur.length + 1) c3) = w4 at *
      clear hW3
      obtain ⟨hf1, hf2⟩ := FA.out
      have hlen1 : (cur ++ [(fa, fb, fn)]).length ≤ l.length + 1 := by rw [List.length_append]; simp only [List.length_singleton]; omega
      generalize hq2 : (cur ++ [(fa, fb, fn)]) = cur1 at *
      have Hq2 := Lib.hid hq2
      clear hq2
      clear FA
      go_loopw [7] (fun i wr => ∃ (k : Nat) (v : Value), k ≤ l.length ∧ i = .int .i64 k ∧ (Blk wr (w.heap.size + 2) 29 [.slice none 0 0] ∧ Blk wr (w.heap.size + 1) 49 [.string fa, .string fb, .int .i64 fn]) ∧ Mid w w.heap.size (w.heap.size + 4) 29 (.slice ao l.length cap) (w.heap.size + 3) (cur1 ++ (l.take k).filter fun x => bless fa x.1) wr v) (fun i _ => l.length - (intOf i).toNat)
      case atStart => exact ⟨0, _, Nat.zero_le _, rfl, hf1, by rw [List.take_zero, List.filter_nil, List.append_nil]; exact hf2⟩
      case round =>
        clear hf1 hf2
        obtain ⟨k, v, hk, rfl, hb2, hM⟩ := hrel
        have c1 := Blk.cell hM.box 0
        have c2 := Blk.cell hb2.2 0
        simp only [List.getElem?_cons_zero] at c1 c2
        by_cases hlt : k < l.length
        · obtain ⟨x, hx⟩ : ∃ x, l[k]? = some x := ⟨_, List.getElem?_eq_getElem hlt⟩
          obtain ⟨b, o, rfl, p0, p1, p2⟩ := (R.out _ hM.low).at_ k x hx
          have hfs := HN2.out k x hx
          have i0 : (0 : Int) ≤ (k : Int) := Int.natCast_nonneg _
          have hlc := HC2.out k
          have HO := Lib.hid (fl_one x)
          have HP := Lib.hid (fun (W : World) B v cur h => OwnF.push (w := W) (B := B) (v := v) (l := cur) (x := x) h)
          obtain ⟨xa, xb, xn⟩ := x
          simp only at p0 p1 p2 HO HP hfs
          have Hfs := Lib.hid hfs
          clear hx hfs
          cases hbl : Op.bytesLess fa.toList xa.toList
          · have HN : Hid (cur1 ++ (l.take (k + 1)).filter (fun x => bless fa x.1) = cur1 ++ (l.take k).filter (fun x => bless fa x.1)) := Lib.hid (by rw [Hfs.out]; simp only [bless, hbl, if_false, Bool.false_eq_true, List.append_nil])
            have HM := Lib.hid (And.intro hb2 hM)
            clear hb2 hM Hfs
            rcases gt_no hbl with ⟨e1, e2⟩ | ⟨e1, e2⟩
            all_goals
              go_wp2_with fail
              go_quiet (fail)
              go_wp2_with fail
              exact ⟨⟨k + 1, v, by omega, by go_num, ⟨Blk.drewN HM.out.1.1 _, Blk.drewN HM.out.1.2 _⟩, by rw [HN.out]; exact ⟨Own.drewN HM.out.2.own _, Blk.drewN HM.out.2.out _, Blk.drewN HM.out.2.box _, bDrewN HM.out.2.low _, HM.out.2.size⟩⟩, by simp [intOf]; omega⟩
          · have HN : Hid (cur1 ++ (l.take (k + 1)).filter (fun x => bless fa x.1) = (cur1 ++ (l.take k).filter (fun x => bless fa x.1)) ++ [(xa, xb, xn)]) := Lib.hid (by rw [Hfs.out]; simp only [bless, hbl, if_true, List.append_assoc])
            have HM0 := Lib.hid (And.intro hb2 hM)
            obtain ⟨qv, cv, rfl⟩ := Own.shape hM.own
            clear hb2 hM Hfs
            obtain ⟨e1, e2⟩ := gt_yes hbl
            go_wp2_with fail
            go_quiet (fail)
            clear e1 e2
            have HM : Hid ((Blk (wr.drewN nq) (w.heap.size + 2) 29 [.slice none 0 0] ∧ Blk (wr.drewN nq) (w.heap.size + 1) 49 [.string fa, .string fb, .int .i64 fn]) ∧ Mid w w.heap.size (w.heap.size + 4) 29 (.slice (some ⟨b, o, none⟩) l.length cap) (w.heap.size + 3) (cur1 ++ (l.take k).filter fun x => bless fa x.1) (wr.drewN nq) (.slice qv (cur1 ++ (l.take k).filter fun x => bless fa x.1).length cv)) := Lib.hid ⟨HM0.out.1, ⟨Own.drewN HM0.out.2.own _, HM0.out.2.out, HM0.out.2.box, bDrewN HM0.out.2.low _, HM0.out.2.size⟩⟩
            have p0' : (wr.drewN nq).cell? ⟨b, o + k * 3, none⟩ = some (.string xa) := p0
            have p1' : (wr.drewN nq).cell? ⟨b, o + k * 3 + 1, none⟩ = some (.string xb) := p1
            have p2' : (wr.drewN nq).cell? ⟨b, o + k * 3 + 2, none⟩ = some (.int .i64 xn) := p2
            have c1' : (wr.drewN nq).cell? ⟨w.heap.size, 0, none⟩ = some (.slice (some ⟨b, o, none⟩) l.length cap) := c1
            generalize wr.drewN nq = W2 at *
            clear p0 p1 p2 c1 c2 HM0
            have hlen : (cur1 ++ (l.take k).filter fun x => bless fa x.1).length ≤ 2 * l.length + 1 := by rw [List.length_append]; omega
            generalize (cur1 ++ (l.take k).filter fun x => bless fa x.1) = cur at *
            have hd3 := Blk.cell HM.out.2.out 0
            simp only [List.getElem?_cons_zero] at hd3
            have hlo := HM.out.2.out.lt
            have hsz := HM.out.2.size
            go_wp2_with fail
            have a6 : ∀ o, (W2.alloc o).cell? ⟨w.heap.size + 3, 0, none⟩ = some (.slice qv cur.length cv) := fun o => (((Below.refl W2.heap.size W2).alloc (Nat.le_refl _) o).cell (p := ⟨w.heap.size + 3, 0, none⟩) hlo).trans hd3
            go_region_law (first
              | (refine step_push_cells W2.drew _ (by rfl) _ _ 27 (by rfl) 49 Try.underlying27 _ 3 40 rfl Try.infoFile (w.heap.size + 4) _ cur.length (fileC cur) (by rfl) (Own.drew HM.out.2.own) _ [.string xa, .string xb, .int .i64 xn] (by rfl) HO.out 1 1 (by rfl) _ (by rfl) (by rfl) (by omega) (by decide) HM.out.2.size (by rfl) ?_; intro v3 w3 hown3 hg3 hb3; have D6 := Blk.kept (Blk.drew HM.out.2.out) hg3 (fun e => by have := (Own.block HM.out.2.own _ e.symm).1; omega); have k0 := Blk.cell D6 0; have k1 := Blk.frozen D6 0; simp only [List.getElem?_cons_zero] at k0; obtain ⟨q3, c3, rfl⟩ := Own.shape hown3))
            all_goals
              have F6 := Blk.set_ D6 0 (.slice q3 (cur.length + 1) c3)
              have F1 := (Blk.kept (Blk.drew HM.out.2.box) hg3 (fun e => by have := (Own.block HM.out.2.own _ e.symm).1; omega)).far (p := ⟨w.heap.size + 3, 0, none⟩) (by simp only; omega) (.slice q3 (cur.length + 1) c3)
              have F2 := (Blk.kept (Blk.drew HM.out.1.1) hg3 (fun e => by have := (Own.block HM.out.2.own _ e.symm).1; omega)).far (p := ⟨w.heap.size + 3, 0, none⟩) (by simp only; omega) (.slice q3 (cur.length + 1) c3)
              have F3 := (Blk.kept (Blk.drew HM.out.1.2) hg3 (fun e => by have := (Own.block HM.out.2.own _ e.symm).1; omega)).far (p := ⟨w.heap.size + 3, 0, none⟩) (by simp only; omega) (.slice q3 (cur.length + 1) c3)
              have FB := ((bDrewN HM.out.2.low 1).trans (hb3.mono (show w.heap.size ≤ w.heap.size + 4 by omega))).setCell (p := ⟨w.heap.size + 3, 0, none⟩) (by simp only; omega) (.slice q3 (cur.length + 1) c3)
              have FO := Own.setCell (a := ⟨w.heap.size + 3, 0, none⟩) (HP.out _ _ _ _ hown3) (by simp only; omega) (.slice q3 (cur.length + 1) c3)
              have FL : w.heap.size + 4 ≤ (w3.setCell ⟨w.heap.size + 3, 0, none⟩ (.slice q3 (cur.length + 1) c3)).heap.size := by simp only [World.setCell, Array.size_modify]; exact Nat.le_trans HM.out.2.size hg3.size
              have FA := Lib.hid (And.intro (And.intro F2 F3) (Mid.mk FO F6 F1 FB FL))
              clear D6 k0 k1 hown3 hg3 hb3 F6 F1 F2 F3 FB FO FL
              go_wp2_with fail
              exact ⟨⟨k + 1, _, by omega, by go_num, FA.out.1, by rw [HN.out]; exact FA.out.2⟩, by simp [intOf]; omega⟩
        · obtain rfl : k = l.length := by omega
          rw [HA2.out] at hM
          obtain ⟨qv, cv, rfl⟩ := Own.shape hM.own
          generalize hfin : (cur1 ++ l.filter fun x => bless fa x.1) = fin at *
          have Hfin := Lib.hid hfin
          have d3 := Blk.cell hM.out 0
          have e2 := Blk.cell hb2.1 0
          have f2 := Blk.frozen hb2.1 0
          simp only [List.getElem?_cons_zero] at d3 e2
          have E2 := Lib.hid (Blk.set_ hb2.1 0 (.slice qv fin.length cv))
          have HF := Lib.hid (hM.low.setCell (p := ⟨w.heap.size + 2, 0, none⟩) (by simp only; omega) (.slice qv fin.length cv))
          have HO := Lib.hid ((Own.setCell (a := ⟨w.heap.size + 2, 0, none⟩) hM.own (by simp only; omega) (.slice qv fin.length cv)).mono (show w.heap.size ≤ w.heap.size + 4 by omega))
          clear hM hb2 c2 hfin
          go_wp2_with fail
          refine bodyPost_ret (results_cell_row rfl _ _ (w.heap.size + 2) 29 #[.slice qv fin.length cv] (0, 0) _ rfl E2.out Try.underlying29 rfl (by kernel_rfl)) rfl ?_
          exact ⟨⟨_, _, rfl, rfl, (by rw [Hq1.out, Hq2.out, Hfin.out]; exact HO.out)⟩, HF.out⟩

end Go.Proofs.Ytdecehecjlbbiaa

/-! What stands in memory while an operation is done. -/
namespace Go.Proofs.Ytdecehecjlbbiaa
open Go.RowKit

/-- The boxes of the arguments and of the result. -/
structure DoSt (w : World) (T TA : TypeId) (dv : Value) (a : Ac) (W : World) : Prop where
  box : Blk W w.heap.size T [dv]
  act : Blk W (w.heap.size + 1) TA [.int .i64 a.1, .string a.2.1, .string a.2.2.1, .string a.2.2.2]
  res : Blk W (w.heap.size + 2) T [.slice none 0 0]
  low : Below w.heap.size w W
  size : w.heap.size + 3 ≤ W.heap.size
theorem DoSt.below {w : World} {T TA : TypeId} {dv : Value} {a : Ac} {W W' : World} (h : DoSt w T TA dv a W) (hb : Below W.heap.size W W') : DoSt w T TA dv a W' :=
  ⟨h.box.below hb h.box.lt, h.act.below hb h.act.lt, h.res.below hb h.res.lt, h.low.trans (hb.mono h.low.size), Nat.le_trans h.size hb.size⟩
theorem DoSt.alloc {w : World} {T TA : TypeId} {dv : Value} {a : Ac} {W : World} (h : DoSt w T TA dv a W) (o : Obj) : DoSt w T TA dv a (W.alloc o) := h.below ((Below.refl _ _).alloc (Nat.le_refl _) o)
theorem DoSt.drewN {w : World} {T TA : TypeId} {dv : Value} {a : Ac} {W : World} (h : DoSt w T TA dv a W) (n : Nat) : DoSt w T TA dv a (W.drewN n) := ⟨h.box, h.act, h.res, bDrewN h.low n, h.size⟩
theorem DoSt.set_ {w : World} {T TA : TypeId} {dv : Value} {a : Ac} {W : World} (h : DoSt w T TA dv a W) {p : Addr} (hp : w.heap.size + 3 ≤ p.block) (u : Value) : DoSt w T TA dv a (W.setCell p u) :=
  ⟨h.box.far (by omega) u, h.act.far (by omega) u, h.res.far (by omega) u, h.low.setCell (by omega) u, by simpa [World.setCell] using h.size⟩
theorem DoSt.grown {w : World} {T TA : TypeId} {dv : Value} {a : Ac} {W W' : World} {row : Option Nat} (h : DoSt w T TA dv a W) (hg : W.grownBy W' row) (hr : ∀ k, row = some k → w.heap.size + 3 ≤ k) : DoSt w T TA dv a W' :=
  ⟨h.box.kept hg (fun e => by have := hr _ e.symm; omega), h.act.kept hg (fun e => by have := hr _ e.symm; omega), h.res.kept hg (fun e => by have := hr _ e.symm; omega), h.low.grown hg h.low.size (fun k hk => by have := hr k hk; omega), Nat.le_trans h.size hg.size⟩
/-- At the start. -/
theorem DoSt.start (w : World) (T TA : TypeId) (dv : Value) (a : Ac) (A : Array Value) (hA : A = #[.int .i64 a.1, .string a.2.1, .string a.2.2.1, .string a.2.2.2]) : DoSt w T TA dv a (((w.alloc (.cells #[dv] T)).alloc (.cells A TA)).alloc (.cells #[.slice none 0 0] T)) := by
  subst hA
  have hz1 := alloc_size w (.cells #[dv] T)
  have hz2 := alloc_size (w.alloc (.cells #[dv] T)) (.cells #[.int .i64 a.1, .string a.2.1, .string a.2.2.1, .string a.2.2.2] TA)
  have hz3 := alloc_size ((w.alloc (.cells #[dv] T)).alloc (.cells #[.int .i64 a.1, .string a.2.1, .string a.2.2.1, .string a.2.2.2] TA)) (.cells #[.slice none 0 0] T)
  have b2 := (Blk.new (w.alloc (.cells #[dv] T)) TA [.int .i64 a.1, .string a.2.1, .string a.2.2.1, .string a.2.2.2] _ rfl).alloc (.cells #[.slice none 0 0] T)
  have b3 := Blk.new ((w.alloc (.cells #[dv] T)).alloc (.cells #[.int .i64 a.1, .string a.2.1, .string a.2.2.1, .string a.2.2.2] TA)) T [.slice none 0 0] _ rfl
  rw [hz1] at b2
  rw [hz2, hz1] at b3
  exact ⟨((Blk.new w T [dv] _ rfl).alloc _).alloc _, b2, b3, (((Below.refl w.heap.size w).alloc (Nat.le_refl _) _).alloc (by omega) _).alloc (by omega) _, by omega⟩

end Go.Proofs.Ytdecehecjlbbiaa

/-! The walks of the reference's DoAct, case by case: where nothing is done. -/
namespace Go.Proofs.Ytdecehecjlbbiaa
open Go.RowKit

theorem not_empty {s : ByteArray} (h : s.data.toList ≠ []) : s.toList.isEmpty = false ∧ (s.toList == []) = false ∧ (s.toList != []) = true := by
  rw [ByteArray.toList_eq]
  exact ⟨by rw [List.isEmpty_eq_false_iff]; exact h, by rw [beq_eq_false_iff_ne]; exact h, by rw [bne_iff_ne]; exact h⟩

set_option maxHeartbeats 4000000 in
set_option maxRecDepth 100000 in
theorem sDo_bad (ao : Option Addr) (cap : Nat) (l : List Fl) (kk : Int) (name text dst : ByteArray) (w : World) (hl : l.length ≤ 1048576) (hs : ∀ x ∈ l, x.1.size ≤ 1048576 ∧ x.2.1.size ≤ 1048576) (hr : RdF w ao l) (hg : ¬ DiskGood l) :
    Calls Try.prog 52 #[.agg #[.slice ao l.length cap], .agg #[.int .i64 kk, .string name, .string text, .string dst]] w fun e w' => GivesK2 w.heap.size [] (.bool false) e w' ∧ Below w.heap.size w w' := by
  have hst := DoSt.start w 29 67 (.slice ao l.length cap) (kk, name, text, dst) _ rfl
  have R := Lib.hid (fun W hW => hr.below (C := w.heap.size) (w' := W) hW (Nat.le_refl _))
  have CD := sDiskOk_any (.agg #[.slice ao l.length cap]) l _ hl hs ⟨ao, cap, rfl, R.out _ hst.low⟩
  have ST0 := Lib.hid hst
  rw [decide_eq_false hg] at CD
  have C := Lib.hid CD
  clear hr hst CD
  have HG := Lib.hid hg
  clear hg
  go_enter Try.func52, Try.ntmps52
  go_wp2_with fail
  refine C.out.mono ?_
  rintro e w1 ⟨rfl, hb1⟩
  have ST1 := Lib.hid (ST0.out.below hb1)
  clear hb1 C ST0
  have c0 := Blk.cell ST1.out.box 0
  have k0 := Blk.cell ST1.out.act 0
  have k1 := Blk.cell ST1.out.act 1
  have k2 := Blk.cell ST1.out.act 2
  have k3 := Blk.cell ST1.out.act 3
  simp only [List.getElem?_cons_zero, List.getElem?_cons_succ] at c0 k0 k1 k2 k3
  have r0 := Blk.cell ST1.out.res 0
  have r1 := Blk.frozen ST1.out.res 0
  simp only [List.getElem?_cons_zero] at r0
  have E2 := Lib.hid (Blk.set_ ST1.out.res 0 (.slice none 0 0))
  have FB := Lib.hid (ST1.out.low.setCell (p := ⟨w.heap.size + 2, 0, none⟩) (by simp only; omega) (.slice none 0 0))
  go_wp2_with fail
  refine bodyPost_ret (results_cell_row_tmp rfl _ _ _ (w.heap.size + 2) 29 #[.slice none 0 0] (0, 0) _ _ rfl rfl E2.out Try.underlying29 (by kernel_rfl)) rfl ?_
  exact ⟨⟨_, _, rfl, rfl, Own.nil _ _ _⟩, FB.out⟩

set_option maxHeartbeats 4000000 in
set_option maxRecDepth 100000 in
theorem sDo_name (ao : Option Addr) (cap : Nat) (l : List Fl) (kk : Int) (name text dst : ByteArray) (w : World) (hl : l.length ≤ 1048576) (hs : ∀ x ∈ l, x.1.size ≤ 1048576 ∧ x.2.1.size ≤ 1048576) (hr : RdF w ao l) (hg : DiskGood l) (hn : ¬ NameGood name) :
    Calls Try.prog 52 #[.agg #[.slice ao l.length cap], .agg #[.int .i64 kk, .string name, .string text, .string dst]] w fun e w' => GivesK2 w.heap.size [] (.bool false) e w' ∧ Below w.heap.size w w' := by
  have hst := DoSt.start w 29 67 (.slice ao l.length cap) (kk, name, text, dst) _ rfl
  have R := Lib.hid (fun W hW => hr.below (C := w.heap.size) (w' := W) hW (Nat.le_refl _))
  have CD := sDiskOk_any (.agg #[.slice ao l.length cap]) l _ hl hs ⟨ao, cap, rfl, R.out _ hst.low⟩
  have ST0 := Lib.hid hst
  rw [decide_eq_true hg] at CD
  have C := Lib.hid CD
  have CN := fun wx => sFileName_any name wx
  rw [within_not (by unfold NameGood at hn; omega)] at CN
  have HCN := Lib.hid CN
  clear CN
  clear hr hst CD
  have HG := Lib.hid hg
  clear hg
  go_enter Try.func52, Try.ntmps52
  go_wp2_with fail
  refine C.out.mono ?_
  rintro e w1 ⟨rfl, hb1⟩
  have ST1 := Lib.hid (ST0.out.below hb1)
  clear hb1 C ST0
  have c0 := Blk.cell ST1.out.box 0
  have k0 := Blk.cell ST1.out.act 0
  have k1 := Blk.cell ST1.out.act 1
  have k2 := Blk.cell ST1.out.act 2
  have k3 := Blk.cell ST1.out.act 3
  simp only [List.getElem?_cons_zero, List.getElem?_cons_succ] at c0 k0 k1 k2 k3
  go_wp2_with fail
  refine (HCN.out _).mono ?_
  rintro e w' ⟨rfl, rfl⟩
  have r0 := Blk.cell ST1.out.res 0
  have r1 := Blk.frozen ST1.out.res 0
  simp only [List.getElem?_cons_zero] at r0
  have E2 := Lib.hid (Blk.set_ ST1.out.res 0 (.slice none 0 0))
  have FB := Lib.hid (ST1.out.low.setCell (p := ⟨w.heap.size + 2, 0, none⟩) (by simp only; omega) (.slice none 0 0))
  go_wp2_with fail
  refine bodyPost_ret (results_cell_row_tmp rfl _ _ _ (w.heap.size + 2) 29 #[.slice none 0 0] (0, 0) _ _ rfl rfl E2.out Try.underlying29 (by kernel_rfl)) rfl ?_
  exact ⟨⟨_, _, rfl, rfl, Own.nil _ _ _⟩, FB.out⟩

set_option maxHeartbeats 4000000 in
set_option maxRecDepth 100000 in
theorem sDo_to (ao : Option Addr) (cap : Nat) (l : List Fl) (kk : Int) (name text dst : ByteArray) (w : World) (hl : l.length ≤ 1048576) (hs : ∀ x ∈ l, x.1.size ≤ 1048576 ∧ x.2.1.size ≤ 1048576) (hr : RdF w ao l) (hg : DiskGood l) (hn : NameGood name) (h3 : kk ≠ 3) (hd : dst.data.toList ≠ []) :
    Calls Try.prog 52 #[.agg #[.slice ao l.length cap], .agg #[.int .i64 kk, .string name, .string text, .string dst]] w fun e w' => GivesK2 w.heap.size [] (.bool false) e w' ∧ Below w.heap.size w w' := by
  obtain ⟨z1, z2, z3⟩ := not_empty hd
  have e3 : (kk != 3) = true := by rw [bne_iff_ne]; exact h3
  have e3' : (kk == 3) = false := by rw [beq_eq_false_iff_ne]; exact h3
  clear hd h3
  have hst := DoSt.start w 29 67 (.slice ao l.length cap) (kk, name, text, dst) _ rfl
  have R := Lib.hid (fun W hW => hr.below (C := w.heap.size) (w' := W) hW (Nat.le_refl _))
  have CD := sDiskOk_any (.agg #[.slice ao l.length cap]) l _ hl hs ⟨ao, cap, rfl, R.out _ hst.low⟩
  have ST0 := Lib.hid hst
  rw [decide_eq_true hg] at CD
  have C := Lib.hid CD
  have CN := fun wx => sFileName_any name wx
  rw [within_yes (by unfold NameGood at hn; omega)] at CN
  have HCN := Lib.hid CN
  clear CN
  clear hr hst CD
  have HG := Lib.hid hg
  clear hg
  go_enter Try.func52, Try.ntmps52
  go_wp2_with fail
  refine C.out.mono ?_
  rintro e w1 ⟨rfl, hb1⟩
  have ST1 := Lib.hid (ST0.out.below hb1)
  clear hb1 C ST0
  have c0 := Blk.cell ST1.out.box 0
  have k0 := Blk.cell ST1.out.act 0
  have k1 := Blk.cell ST1.out.act 1
  have k2 := Blk.cell ST1.out.act 2
  have k3 := Blk.cell ST1.out.act 3
  simp only [List.getElem?_cons_zero, List.getElem?_cons_succ] at c0 k0 k1 k2 k3
  go_wp2_with fail
  refine (HCN.out _).mono ?_
  rintro e w' ⟨rfl, rfl⟩
  have r0 := Blk.cell ST1.out.res 0
  have r1 := Blk.frozen ST1.out.res 0
  simp only [List.getElem?_cons_zero] at r0
  have E2 := Lib.hid (Blk.set_ ST1.out.res 0 (.slice none 0 0))
  have FB := Lib.hid (ST1.out.low.setCell (p := ⟨w.heap.size + 2, 0, none⟩) (by simp only; omega) (.slice none 0 0))
  go_wp2_with fail
  refine bodyPost_ret (results_cell_row_tmp rfl _ _ _ (w.heap.size + 2) 29 #[.slice none 0 0] (0, 0) _ _ rfl rfl E2.out Try.underlying29 (by kernel_rfl)) rfl ?_
  exact ⟨⟨_, _, rfl, rfl, Own.nil _ _ _⟩, FB.out⟩

set_option maxHeartbeats 4000000 in
set_option maxRecDepth 100000 in
theorem sDo_text3 (ao : Option Addr) (cap : Nat) (l : List Fl) (name text dst : ByteArray) (w : World) (hl : l.length ≤ 1048576) (hs : ∀ x ∈ l, x.1.size ≤ 1048576 ∧ x.2.1.size ≤ 1048576) (hr : RdF w ao l) (hg : DiskGood l) (hn : NameGood name) (hd : text.data.toList ≠ []) :
    Calls Try.prog 52 #[.agg #[.slice ao l.length cap], .agg #[.int .i64 3, .string name, .string text, .string dst]] w fun e w' => GivesK2 w.heap.size [] (.bool false) e w' ∧ Below w.heap.size w w' := by
  obtain ⟨z1, z2, z3⟩ := not_empty hd
  clear hd
  have hst := DoSt.start w 29 67 (.slice ao l.length cap) (3, name, text, dst) _ rfl
  have R := Lib.hid (fun W hW => hr.below (C := w.heap.size) (w' := W) hW (Nat.le_refl _))
  have CD := sDiskOk_any (.agg #[.slice ao l.length cap]) l _ hl hs ⟨ao, cap, rfl, R.out _ hst.low⟩
  have ST0 := Lib.hid hst
  rw [decide_eq_true hg] at CD
  have C := Lib.hid CD
  have CN := fun wx => sFileName_any name wx
  rw [within_yes (by unfold NameGood at hn; omega)] at CN
  have HCN := Lib.hid CN
  clear CN
  clear hr hst CD
  have HG := Lib.hid hg
  clear hg
  go_enter Try.func52, Try.ntmps52
  go_wp2_with fail
  refine C.out.mono ?_
  rintro e w1 ⟨rfl, hb1⟩
  have ST1 := Lib.hid (ST0.out.below hb1)
  clear hb1 C ST0
  have c0 := Blk.cell ST1.out.box 0
  have k0 := Blk.cell ST1.out.act 0
  have k1 := Blk.cell ST1.out.act 1
  have k2 := Blk.cell ST1.out.act 2
  have k3 := Blk.cell ST1.out.act 3
  simp only [List.getElem?_cons_zero, List.getElem?_cons_succ] at c0 k0 k1 k2 k3
  go_wp2_with fail
  refine (HCN.out _).mono ?_
  rintro e w' ⟨rfl, rfl⟩
  have r0 := Blk.cell ST1.out.res 0
  have r1 := Blk.frozen ST1.out.res 0
  simp only [List.getElem?_cons_zero] at r0
  have E2 := Lib.hid (Blk.set_ ST1.out.res 0 (.slice none 0 0))
  have FB := Lib.hid (ST1.out.low.setCell (p := ⟨w.heap.size + 2, 0, none⟩) (by simp only; omega) (.slice none 0 0))
  go_wp2_with fail
  refine bodyPost_ret (results_cell_row_tmp rfl _ _ _ (w.heap.size + 2) 29 #[.slice none 0 0] (0, 0) _ _ rfl rfl E2.out Try.underlying29 (by kernel_rfl)) rfl ?_
  exact ⟨⟨_, _, rfl, rfl, Own.nil _ _ _⟩, FB.out⟩

set_option maxHeartbeats 4000000 in
set_option maxRecDepth 100000 in
theorem sDo_text (ao : Option Addr) (cap : Nat) (l : List Fl) (kk : Int) (name text dst : ByteArray) (w : World) (hl : l.length ≤ 1048576) (hs : ∀ x ∈ l, x.1.size ≤ 1048576 ∧ x.2.1.size ≤ 1048576) (hr : RdF w ao l) (hg : DiskGood l) (hn : NameGood name) (h1 : kk ≠ 1) (h3 : kk ≠ 3) (hd : dst.toList = []) (ht : text.data.toList ≠ []) :
    Calls Try.prog 52 #[.agg #[.slice ao l.length cap], .agg #[.int .i64 kk, .string name, .string text, .string dst]] w fun e w' => GivesK2 w.heap.size [] (.bool false) e w' ∧ Below w.heap.size w w' := by
  obtain ⟨z1, z2, z3⟩ := not_empty ht
  have e3 : (kk != 3) = true := by rw [bne_iff_ne]; exact h3
  have e3' : (kk == 3) = false := by rw [beq_eq_false_iff_ne]; exact h3
  have e1 : (kk != 1) = true := by rw [bne_iff_ne]; exact h1
  have e1' : (kk == 1) = false := by rw [beq_eq_false_iff_ne]; exact h1
  clear h1 h3
  clear ht
  have hst := DoSt.start w 29 67 (.slice ao l.length cap) (kk, name, text, dst) _ rfl
  have R := Lib.hid (fun W hW => hr.below (C := w.heap.size) (w' := W) hW (Nat.le_refl _))
  have CD := sDiskOk_any (.agg #[.slice ao l.length cap]) l _ hl hs ⟨ao, cap, rfl, R.out _ hst.low⟩
  have ST0 := Lib.hid hst
  rw [decide_eq_true hg] at CD
  have C := Lib.hid CD
  have CN := fun wx => sFileName_any name wx
  rw [within_yes (by unfold NameGood at hn; omega)] at CN
  have HCN := Lib.hid CN
  clear CN
  clear hr hst CD
  have HG := Lib.hid hg
  clear hg
  go_enter Try.func52, Try.ntmps52
  go_wp2_with fail
  refine C.out.mono ?_
  rintro e w1 ⟨rfl, hb1⟩
  have ST1 := Lib.hid (ST0.out.below hb1)
  clear hb1 C ST0
  have c0 := Blk.cell ST1.out.box 0
  have k0 := Blk.cell ST1.out.act 0
  have k1 := Blk.cell ST1.out.act 1
  have k2 := Blk.cell ST1.out.act 2
  have k3 := Blk.cell ST1.out.act 3
  simp only [List.getElem?_cons_zero, List.getElem?_cons_succ] at c0 k0 k1 k2 k3
  go_wp2_with fail
  refine (HCN.out _).mono ?_
  rintro e w' ⟨rfl, rfl⟩
  have r0 := Blk.cell ST1.out.res 0
  have r1 := Blk.frozen ST1.out.res 0
  simp only [List.getElem?_cons_zero] at r0
  have E2 := Lib.hid (Blk.set_ ST1.out.res 0 (.slice none 0 0))
  have FB := Lib.hid (ST1.out.low.setCell (p := ⟨w.heap.size + 2, 0, none⟩) (by simp only; omega) (.slice none 0 0))
  go_wp2_with fail
  refine bodyPost_ret (results_cell_row_tmp rfl _ _ _ (w.heap.size + 2) 29 #[.slice none 0 0] (0, 0) _ _ rfl rfl E2.out Try.underlying29 (by kernel_rfl)) rfl ?_
  exact ⟨⟨_, _, rfl, rfl, Own.nil _ _ _⟩, FB.out⟩

set_option maxHeartbeats 4000000 in
set_option maxRecDepth 100000 in
theorem sDo_none3 (ao : Option Addr) (cap : Nat) (l : List Fl) (name text dst : ByteArray) (w : World) (hl : l.length ≤ 1048576) (hs : ∀ x ∈ l, x.1.size ≤ 1048576 ∧ x.2.1.size ≤ 1048576) (hr : RdF w ao l) (hg : DiskGood l) (hn : NameGood name) (ht : text.toList = []) (hp : posF l name = none) :
    Calls Try.prog 52 #[.agg #[.slice ao l.length cap], .agg #[.int .i64 3, .string name, .string text, .string dst]] w fun e w' => GivesK2 w.heap.size [] (.bool false) e w' ∧ Below w.heap.size w w' := by
  have hst := DoSt.start w 29 67 (.slice ao l.length cap) (3, name, text, dst) _ rfl
  have R := Lib.hid (fun W hW => hr.below (C := w.heap.size) (w' := W) hW (Nat.le_refl _))
  have CD := sDiskOk_any (.agg #[.slice ao l.length cap]) l _ hl hs ⟨ao, cap, rfl, R.out _ hst.low⟩
  have ST0 := Lib.hid hst
  rw [decide_eq_true hg] at CD
  have C := Lib.hid CD
  have CN := fun wx => sFileName_any name wx
  rw [within_yes (by unfold NameGood at hn; omega)] at CN
  have HCN := Lib.hid CN
  clear CN
  clear hr hst CD
  have HG := Lib.hid hg
  clear hg
  go_enter Try.func52, Try.ntmps52
  go_wp2_with fail
  refine C.out.mono ?_
  rintro e w1 ⟨rfl, hb1⟩
  have ST1 := Lib.hid (ST0.out.below hb1)
  clear hb1 C ST0
  have c0 := Blk.cell ST1.out.box 0
  have k0 := Blk.cell ST1.out.act 0
  have k1 := Blk.cell ST1.out.act 1
  have k2 := Blk.cell ST1.out.act 2
  have k3 := Blk.cell ST1.out.act 3
  simp only [List.getElem?_cons_zero, List.getElem?_cons_succ] at c0 k0 k1 k2 k3
  go_wp2_with fail
  refine (HCN.out _).mono ?_
  rintro e w' ⟨rfl, rfl⟩
  have CA := sAt_any _ l name w1 hl ⟨ao, cap, rfl, R.out _ ST1.out.low⟩
  rw [posV_none hp] at CA
  have HCA := Lib.hid CA
  clear CA
  go_wp2_with fail
  refine HCA.out.mono ?_
  rintro e w2 ⟨rfl, hb2⟩
  have ST2 := Lib.hid (ST1.out.below hb2)
  clear hb2 HCA ST1
  clear c0 k0 k1 k2 k3
  have c0 := Blk.cell ST2.out.box 0
  have k0 := Blk.cell ST2.out.act 0
  have k1 := Blk.cell ST2.out.act 1
  have k2 := Blk.cell ST2.out.act 2
  have k3 := Blk.cell ST2.out.act 3
  simp only [List.getElem?_cons_zero, List.getElem?_cons_succ] at c0 k0 k1 k2 k3
  go_upto_region 9 with fail
  have ST4 := Lib.hid ((ST2.out.alloc (.cells #[.string name, .string ⟨#[]⟩, .int .i64 0] 49)).alloc (.cells #[.slice none 0 0] 29))
  have hzz := alloc_size w2 (.cells #[.string name, .string ⟨#[]⟩, .int .i64 0] 49)
  have bf := (Blk.new w2 49 [.string name, .string ⟨#[]⟩, .int .i64 0] _ rfl).alloc (.cells #[.slice none 0 0] 29)
  have bo := Blk.new (w2.alloc (.cells #[.string name, .string ⟨#[]⟩, .int .i64 0] 49)) 29 [.slice none 0 0] _ rfl
  rw [hzz] at bo
  have l2 := ST2.out.size
  generalize (w2.alloc (.cells #[.string name, .string ⟨#[]⟩, .int .i64 0] 49)).alloc (.cells #[.slice none 0 0] 29) = W4 at *
  clear c0 k0 k1 k2 k3
  clear hzz ST2
  have c0 := Blk.cell ST4.out.box 0
  have k0 := Blk.cell ST4.out.act 0
  have k1 := Blk.cell ST4.out.act 1
  have k2 := Blk.cell ST4.out.act 2
  have k3 := Blk.cell ST4.out.act 3
  simp only [List.getElem?_cons_zero, List.getElem?_cons_succ] at c0 k0 k1 k2 k3
  have f0 := Blk.cell bf 0
  have f1 := Blk.cell bf 1
  have f2 := Blk.cell bf 2
  have g1 := Blk.frozen bf 1
  have g2 := Blk.frozen bf 2
  have g0 := Blk.frozen bf 0
  have o0 := Blk.cell bo 0
  have o1 := Blk.frozen bo 0
  simp only [List.getElem?_cons_zero, List.getElem?_cons_succ] at f0 f1 f2 o0
  have BF := Lib.hid bf
  have BO := Lib.hid bo
  clear bf bo
  have r0 := Blk.cell ST4.out.res 0
  have r1 := Blk.frozen ST4.out.res 0
  simp only [List.getElem?_cons_zero] at r0
  have E2 := Lib.hid (Blk.set_ ST4.out.res 0 (.slice none 0 0))
  have FB := Lib.hid (ST4.out.low.setCell (p := ⟨w.heap.size + 2, 0, none⟩) (by simp only; omega) (.slice none 0 0))
  go_wp2_with fail
  refine bodyPost_ret (results_cell_row_tmp rfl _ _ _ (w.heap.size + 2) 29 #[.slice none 0 0] (0, 0) _ _ rfl rfl E2.out Try.underlying29 (by kernel_rfl)) rfl ?_
  exact ⟨⟨_, _, rfl, rfl, Own.nil _ _ _⟩, FB.out⟩

set_option maxHeartbeats 4000000 in
set_option maxRecDepth 100000 in
theorem sDo_none (ao : Option Addr) (cap : Nat) (l : List Fl) (kk : Int) (name text dst : ByteArray) (w : World) (hl : l.length ≤ 1048576) (hs : ∀ x ∈ l, x.1.size ≤ 1048576 ∧ x.2.1.size ≤ 1048576) (hr : RdF w ao l) (hg : DiskGood l) (hn : NameGood name) (h1 : kk ≠ 1) (h3 : kk ≠ 3) (hd : dst.toList = []) (ht : text.toList = []) (hp : posF l name = none) :
    Calls Try.prog 52 #[.agg #[.slice ao l.length cap], .agg #[.int .i64 kk, .string name, .string text, .string dst]] w fun e w' => GivesK2 w.heap.size [] (.bool false) e w' ∧ Below w.heap.size w w' := by
  have e3 : (kk != 3) = true := by rw [bne_iff_ne]; exact h3
  have e3' : (kk == 3) = false := by rw [beq_eq_false_iff_ne]; exact h3
  have e1 : (kk != 1) = true := by rw [bne_iff_ne]; exact h1
  have e1' : (kk == 1) = false := by rw [beq_eq_false_iff_ne]; exact h1
  clear h1 h3
  have hst := DoSt.start w 29 67 (.slice ao l.length cap) (kk, name, text, dst) _ rfl
  have R := Lib.hid (fun W hW => hr.below (C := w.heap.size) (w' := W) hW (Nat.le_refl _))
  have CD := sDiskOk_any (.agg #[.slice ao l.length cap]) l _ hl hs ⟨ao, cap, rfl, R.out _ hst.low⟩
  have ST0 := Lib.hid hst
  rw [decide_eq_true hg] at CD
  have C := Lib.hid CD
  have CN := fun wx => sFileName_any name wx
  rw [within_yes (by unfold NameGood at hn; omega)] at CN
  have HCN := Lib.hid CN
  clear CN
  clear hr hst CD
  have HG := Lib.hid hg
  clear hg
  go_enter Try.func52, Try.ntmps52
  go_wp2_with fail
  refine C.out.mono ?_
  rintro e w1 ⟨rfl, hb1⟩
  have ST1 := Lib.hid (ST0.out.below hb1)
  clear hb1 C ST0
  have c0 := Blk.cell ST1.out.box 0
  have k0 := Blk.cell ST1.out.act 0
  have k1 := Blk.cell ST1.out.act 1
  have k2 := Blk.cell ST1.out.act 2
  have k3 := Blk.cell ST1.out.act 3
  simp only [List.getElem?_cons_zero, List.getElem?_cons_succ] at c0 k0 k1 k2 k3
  go_wp2_with fail
  refine (HCN.out _).mono ?_
  rintro e w' ⟨rfl, rfl⟩
  have CA := sAt_any _ l name w1 hl ⟨ao, cap, rfl, R.out _ ST1.out.low⟩
  rw [posV_none hp] at CA
  have HCA := Lib.hid CA
  clear CA
  go_wp2_with fail
  refine HCA.out.mono ?_
  rintro e w2 ⟨rfl, hb2⟩
  have ST2 := Lib.hid (ST1.out.below hb2)
  clear hb2 HCA ST1
  clear c0 k0 k1 k2 k3
  have c0 := Blk.cell ST2.out.box 0
  have k0 := Blk.cell ST2.out.act 0
  have k1 := Blk.cell ST2.out.act 1
  have k2 := Blk.cell ST2.out.act 2
  have k3 := Blk.cell ST2.out.act 3
  simp only [List.getElem?_cons_zero, List.getElem?_cons_succ] at c0 k0 k1 k2 k3
  go_upto_region 9 with fail
  have ST4 := Lib.hid ((ST2.out.alloc (.cells #[.string name, .string ⟨#[]⟩, .int .i64 0] 49)).alloc (.cells #[.slice none 0 0] 29))
  have hzz := alloc_size w2 (.cells #[.string name, .string ⟨#[]⟩, .int .i64 0] 49)
  have bf := (Blk.new w2 49 [.string name, .string ⟨#[]⟩, .int .i64 0] _ rfl).alloc (.cells #[.slice none 0 0] 29)
  have bo := Blk.new (w2.alloc (.cells #[.string name, .string ⟨#[]⟩, .int .i64 0] 49)) 29 [.slice none 0 0] _ rfl
  rw [hzz] at bo
  have l2 := ST2.out.size
  generalize (w2.alloc (.cells #[.string name, .string ⟨#[]⟩, .int .i64 0] 49)).alloc (.cells #[.slice none 0 0] 29) = W4 at *
  clear c0 k0 k1 k2 k3
  clear hzz ST2
  have c0 := Blk.cell ST4.out.box 0
  have k0 := Blk.cell ST4.out.act 0
  have k1 := Blk.cell ST4.out.act 1
  have k2 := Blk.cell ST4.out.act 2
  have k3 := Blk.cell ST4.out.act 3
  simp only [List.getElem?_cons_zero, List.getElem?_cons_succ] at c0 k0 k1 k2 k3
  have f0 := Blk.cell bf 0
  have f1 := Blk.cell bf 1
  have f2 := Blk.cell bf 2
  have g1 := Blk.frozen bf 1
  have g2 := Blk.frozen bf 2
  have g0 := Blk.frozen bf 0
  have o0 := Blk.cell bo 0
  have o1 := Blk.frozen bo 0
  simp only [List.getElem?_cons_zero, List.getElem?_cons_succ] at f0 f1 f2 o0
  have BF := Lib.hid bf
  have BO := Lib.hid bo
  clear bf bo
  have r0 := Blk.cell ST4.out.res 0
  have r1 := Blk.frozen ST4.out.res 0
  simp only [List.getElem?_cons_zero] at r0
  have E2 := Lib.hid (Blk.set_ ST4.out.res 0 (.slice none 0 0))
  have FB := Lib.hid (ST4.out.low.setCell (p := ⟨w.heap.size + 2, 0, none⟩) (by simp only; omega) (.slice none 0 0))
  go_wp2_with fail
  refine bodyPost_ret (results_cell_row_tmp rfl _ _ _ (w.heap.size + 2) 29 #[.slice none 0 0] (0, 0) _ _ rfl rfl E2.out Try.underlying29 (by kernel_rfl)) rfl ?_
  exact ⟨⟨_, _, rfl, rfl, Own.nil _ _ _⟩, FB.out⟩

set_option maxHeartbeats 4000000 in
set_option maxRecDepth 100000 in
theorem sDo_other (ao : Option Addr) (cap : Nat) (l : List Fl) (kk : Int) (name text dst : ByteArray) (w : World) (hl : l.length ≤ 1048576) (hs : ∀ x ∈ l, x.1.size ≤ 1048576 ∧ x.2.1.size ≤ 1048576) (hr : RdF w ao l) (hg : DiskGood l) (hn : NameGood name) (h1 : kk ≠ 1) (h2 : kk ≠ 2) (h3 : kk ≠ 3) (h4 : kk ≠ 4) (hd : dst.toList = []) (ht : text.toList = []) (k : Nat) (xa xb : ByteArray) (xn : Int) (hx : l[k]? = some (xa, xb, xn)) (hp : posF l name = some k) :
    Calls Try.prog 52 #[.agg #[.slice ao l.length cap], .agg #[.int .i64 kk, .string name, .string text, .string dst]] w fun e w' => GivesK2 w.heap.size [] (.bool false) e w' ∧ Below w.heap.size w w' := by
  have e3 : (kk != 3) = true := by rw [bne_iff_ne]; exact h3
  have e3' : (kk == 3) = false := by rw [beq_eq_false_iff_ne]; exact h3
  have e1 : (kk != 1) = true := by rw [bne_iff_ne]; exact h1
  have e1' : (kk == 1) = false := by rw [beq_eq_false_iff_ne]; exact h1
  have e2 : (kk != 2) = true := by rw [bne_iff_ne]; exact h2
  have e2' : (kk == 2) = false := by rw [beq_eq_false_iff_ne]; exact h2
  have e4 : (kk != 4) = true := by rw [bne_iff_ne]; exact h4
  have e4' : (kk == 4) = false := by rw [beq_eq_false_iff_ne]; exact h4
  clear h1 h2 h3 h4
  have hst := DoSt.start w 29 67 (.slice ao l.length cap) (kk, name, text, dst) _ rfl
  have R := Lib.hid (fun W hW => hr.below (C := w.heap.size) (w' := W) hW (Nat.le_refl _))
  have CD := sDiskOk_any (.agg #[.slice ao l.length cap]) l _ hl hs ⟨ao, cap, rfl, R.out _ hst.low⟩
  have ST0 := Lib.hid hst
  rw [decide_eq_true hg] at CD
  have C := Lib.hid CD
  have CN := fun wx => sFileName_any name wx
  rw [within_yes (by unfold NameGood at hn; omega)] at CN
  have HCN := Lib.hid CN
  clear CN
  clear hr hst CD
  have HG := Lib.hid hg
  clear hg
  go_enter Try.func52, Try.ntmps52
  go_wp2_with fail
  refine C.out.mono ?_
  rintro e w1 ⟨rfl, hb1⟩
  have ST1 := Lib.hid (ST0.out.below hb1)
  clear hb1 C ST0
  have c0 := Blk.cell ST1.out.box 0
  have k0 := Blk.cell ST1.out.act 0
  have k1 := Blk.cell ST1.out.act 1
  have k2 := Blk.cell ST1.out.act 2
  have k3 := Blk.cell ST1.out.act 3
  simp only [List.getElem?_cons_zero, List.getElem?_cons_succ] at c0 k0 k1 k2 k3
  go_wp2_with fail
  refine (HCN.out _).mono ?_
  rintro e w' ⟨rfl, rfl⟩
  have CA := sAt_any _ l name w1 hl ⟨ao, cap, rfl, R.out _ ST1.out.low⟩
  rw [posV_some hp] at CA
  have HCA := Lib.hid CA
  clear CA
  go_wp2_with fail
  refine HCA.out.mono ?_
  rintro e w2 ⟨rfl, hb2⟩
  have ST2 := Lib.hid (ST1.out.below hb2)
  clear hb2 HCA ST1
  clear c0 k0 k1 k2 k3
  have c0 := Blk.cell ST2.out.box 0
  have k0 := Blk.cell ST2.out.act 0
  have k1 := Blk.cell ST2.out.act 1
  have k2 := Blk.cell ST2.out.act 2
  have k3 := Blk.cell ST2.out.act 3
  simp only [List.getElem?_cons_zero, List.getElem?_cons_succ] at c0 k0 k1 k2 k3
  obtain ⟨b, o, rfl, p0, p1, p2⟩ := (R.out _ ST2.out.low).at_ k _ hx
  simp only at p0 p1 p2
  have hkl := (List.getElem?_eq_some_iff.1 hx).1
  have Hx := Lib.hid hx
  clear hx
  have i0 : (0 : Int) ≤ (k : Int) := Int.natCast_nonneg _
  have q0 : (w2.alloc (.cells #[.string name, .string ⟨#[]⟩, .int .i64 0] 49)).cell? ⟨b, o + k * 3, none⟩ = some (.string xa) := by rw [← p0]; exact ((Below.refl w2.heap.size w2).alloc (Nat.le_refl _) _).cell (World.block_lt_of_cell? _ _ p0)
  have q1 : (w2.alloc (.cells #[.string name, .string ⟨#[]⟩, .int .i64 0] 49)).cell? ⟨b, o + k * 3 + 1, none⟩ = some (.string xb) := by rw [← p1]; exact ((Below.refl w2.heap.size w2).alloc (Nat.le_refl _) _).cell (World.block_lt_of_cell? _ _ p1)
  have q2 : (w2.alloc (.cells #[.string name, .string ⟨#[]⟩, .int .i64 0] 49)).cell? ⟨b, o + k * 3 + 2, none⟩ = some (.int .i64 xn) := by rw [← p2]; exact ((Below.refl w2.heap.size w2).alloc (Nat.le_refl _) _).cell (World.block_lt_of_cell? _ _ p2)
  have c0' : (w2.alloc (.cells #[.string name, .string ⟨#[]⟩, .int .i64 0] 49)).cell? ⟨w.heap.size, 0, none⟩ = some (.slice (some ⟨b, o, none⟩) l.length cap) := by rw [← c0]; exact ((Below.refl w2.heap.size w2).alloc (Nat.le_refl _) _).cell (World.block_lt_of_cell? _ _ c0)
  go_upto_region 9 with fail
  have ST4 := Lib.hid ((ST2.out.alloc (.cells #[.string xa, .string xb, .int .i64 xn] 49)).alloc (.cells #[.slice none 0 0] 29))
  have hzz := alloc_size w2 (.cells #[.string xa, .string xb, .int .i64 xn] 49)
  have bf := (Blk.new w2 49 [.string xa, .string xb, .int .i64 xn] _ rfl).alloc (.cells #[.slice none 0 0] 29)
  have bo := Blk.new (w2.alloc (.cells #[.string xa, .string xb, .int .i64 xn] 49)) 29 [.slice none 0 0] _ rfl
  rw [hzz] at bo
  have l2 := ST2.out.size
  generalize (w2.alloc (.cells #[.string xa, .string xb, .int .i64 xn] 49)).alloc (.cells #[.slice none 0 0] 29) = W4 at *
  clear p0 p1 p2 q0 q1 q2 c0'
  clear c0 k0 k1 k2 k3
  clear hzz ST2
  have c0 := Blk.cell ST4.out.box 0
  have k0 := Blk.cell ST4.out.act 0
  have k1 := Blk.cell ST4.out.act 1
  have k2 := Blk.cell ST4.out.act 2
  have k3 := Blk.cell ST4.out.act 3
  simp only [List.getElem?_cons_zero, List.getElem?_cons_succ] at c0 k0 k1 k2 k3
  have f0 := Blk.cell bf 0
  have f1 := Blk.cell bf 1
  have f2 := Blk.cell bf 2
  have g1 := Blk.frozen bf 1
  have g2 := Blk.frozen bf 2
  have g0 := Blk.frozen bf 0
  have o0 := Blk.cell bo 0
  have o1 := Blk.frozen bo 0
  simp only [List.getElem?_cons_zero, List.getElem?_cons_succ] at f0 f1 f2 o0
  have BF := Lib.hid bf
  have BO := Lib.hid bo
  clear bf bo
  have r0 := Blk.cell ST4.out.res 0
  have r1 := Blk.frozen ST4.out.res 0
  simp only [List.getElem?_cons_zero] at r0
  have E2 := Lib.hid (Blk.set_ ST4.out.res 0 (.slice none 0 0))
  have FB := Lib.hid (ST4.out.low.setCell (p := ⟨w.heap.size + 2, 0, none⟩) (by simp only; omega) (.slice none 0 0))
  go_wp2_with fail
  refine bodyPost_ret (results_cell_row_tmp rfl _ _ _ (w.heap.size + 2) 29 #[.slice none 0 0] (0, 0) _ _ rfl rfl E2.out Try.underlying29 (by kernel_rfl)) rfl ?_
  exact ⟨⟨_, _, rfl, rfl, Own.nil _ _ _⟩, FB.out⟩

end Go.Proofs.Ytdecehecjlbbiaa

/-! The walks of the reference's DoAct, case by case: where the disk is changed. -/
namespace Go.Proofs.Ytdecehecjlbbiaa
open Go.RowKit

/-- The last test. -/
def lastV (r : List Fl) : List Fl × Bool := if DiskGood r then (r, true) else ([], false)
theorem lastR_yes {r : List Fl} (h : DiskGood r) : lastV r = (r, true) := if_pos h
theorem lastR_no {r : List Fl} (h : ¬ DiskGood r) : lastV r = ([], false) := if_neg h
theorem OwnF.rdAt {w : World} {B : Nat} {q : Option Addr} {c : Nat} {r : List Fl} (h : OwnF w B (.slice q r.length c) r) : RdF w q r := by
  obtain ⟨a, c', e, h2⟩ := h.rd
  cases e
  exact h2
theorem fl_bound {l : List Fl} {k : Nat} {xa xb : ByteArray} {xn : Int} (hx : l[k]? = some (xa, xb, xn)) (hg : DiskGood l) : xa.size ≤ 8 ∧ xb.size ≤ 20000 ∧ 0 ≤ xn ∧ xn ≤ (xb.size : Int) := by
  have h := hg.2.1 _ (List.mem_of_getElem? hx)
  exact ⟨h.1.2, h.2.1, h.2.2.1, h.2.2.2⟩
theorem put_len {l : List Fl} (f : Fl) (h : l.length ≤ 30) : (putL l f).length ≤ 1048576 := by
  have h1 := (putL_perm l f).length_eq
  have h2 : (outL l f.1).length ≤ l.length := List.length_filter_le _ _
  rw [h1, List.length_cons]; omega
theorem put_size {l : List Fl} {f : Fl} (hl : ∀ x ∈ l, x.1.size ≤ 2097152 ∧ x.2.1.size ≤ 2097152) (h1 : f.1.size ≤ 2097152) (h2 : f.2.1.size ≤ 2097152) : ∀ x ∈ putL l f, x.1.size ≤ 2097152 ∧ x.2.1.size ≤ 2097152 := by
  intro x hx
  rcases List.mem_cons.1 ((putL_perm l f).mem_iff.1 hx) with rfl | hx
  · exact ⟨h1, h2⟩
  · exact hl x (List.mem_filter.1 hx).1

set_option maxHeartbeats 4000000 in
set_option maxRecDepth 100000 in
theorem sDo_add_new (ao : Option Addr) (cap : Nat) (l : List Fl) (name text dst : ByteArray) (w : World) (hl : l.length ≤ 1048576) (hs : ∀ x ∈ l, x.1.size ≤ 1048576 ∧ x.2.1.size ≤ 1048576) (hr : RdF w ao l) (hg : DiskGood l) (hn : NameGood name) (ht : text.size ≤ 1048576) (hd : dst.toList = []) (hp : posF l name = none) :
    Calls Try.prog 52 #[.agg #[.slice ao l.length cap], .agg #[.int .i64 1, .string name, .string text, .string dst]] w fun e w' => GivesK2 w.heap.size (lastV (putL l (name, (⟨#[]⟩ : ByteArray) ++ text, 0))).1 (.bool (lastV (putL l (name, (⟨#[]⟩ : ByteArray) ++ text, 0))).2) e w' ∧ Below w.heap.size w w' := by
  have hcat : (((⟨#[]⟩ : ByteArray) : ByteArray) ++ text).size ≤ 2097152 := by rw [ByteArray.size_append]; have : ((⟨#[]⟩ : ByteArray) : ByteArray).size ≤ 20000 := (by decide); omega
  have hrl : (putL l (name, (⟨#[]⟩ : ByteArray) ++ text, 0)).length ≤ 1048576 := put_len _ hg.1
  have hrs : ∀ x ∈ putL l (name, (⟨#[]⟩ : ByteArray) ++ text, 0), x.1.size ≤ 2097152 ∧ x.2.1.size ≤ 2097152 := put_size (fun x hx => ⟨by have := (hs x hx).1; omega, by have := (hs x hx).2; omega⟩) (by unfold NameGood at hn; simp only; omega) hcat
  have hst := DoSt.start w 29 67 (.slice ao l.length cap) (1, name, text, dst) _ rfl
  have R := Lib.hid (fun W hW => hr.below (C := w.heap.size) (w' := W) hW (Nat.le_refl _))
  have CD := sDiskOk_any (.agg #[.slice ao l.length cap]) l _ hl hs ⟨ao, cap, rfl, R.out _ hst.low⟩
  have ST0 := Lib.hid hst
  rw [decide_eq_true hg] at CD
  have C := Lib.hid CD
  have CN := fun wx => sFileName_any name wx
  rw [within_yes (by unfold NameGood at hn; omega)] at CN
  have HCN := Lib.hid CN
  clear CN
  clear hr hst CD
  have HG := Lib.hid hg
  clear hg
  go_enter Try.func52, Try.ntmps52
  go_wp2_with fail
  refine C.out.mono ?_
  rintro e w1 ⟨rfl, hb1⟩
  have ST1 := Lib.hid (ST0.out.below hb1)
  clear hb1 C ST0
  have c0 := Blk.cell ST1.out.box 0
  have k0 := Blk.cell ST1.out.act 0
  have k1 := Blk.cell ST1.out.act 1
  have k2 := Blk.cell ST1.out.act 2
  have k3 := Blk.cell ST1.out.act 3
  simp only [List.getElem?_cons_zero, List.getElem?_cons_succ] at c0 k0 k1 k2 k3
  go_wp2_with fail
  refine (HCN.out _).mono ?_
  rintro e w' ⟨rfl, rfl⟩
  have CA := sAt_any _ l name w1 hl ⟨ao, cap, rfl, R.out _ ST1.out.low⟩
  rw [posV_none hp] at CA
  have HCA := Lib.hid CA
  clear CA
  go_wp2_with fail
  refine HCA.out.mono ?_
  rintro e w2 ⟨rfl, hb2⟩
  have ST2 := Lib.hid (ST1.out.below hb2)
  clear hb2 HCA ST1
  clear c0 k0 k1 k2 k3
  have c0 := Blk.cell ST2.out.box 0
  have k0 := Blk.cell ST2.out.act 0
  have k1 := Blk.cell ST2.out.act 1
  have k2 := Blk.cell ST2.out.act 2
  have k3 := Blk.cell ST2.out.act 3
  simp only [List.getElem?_cons_zero, List.getElem?_cons_succ] at c0 k0 k1 k2 k3
  go_upto_region 9 with fail
  have ST4 := Lib.hid ((ST2.out.alloc (.cells #[.string name, .string ⟨#[]⟩, .int .i64 0] 49)).alloc (.cells #[.slice none 0 0] 29))
  have hzz := alloc_size w2 (.cells #[.string name, .string ⟨#[]⟩, .int .i64 0] 49)
  have bf := (Blk.new w2 49 [.string name, .string ⟨#[]⟩, .int .i64 0] _ rfl).alloc (.cells #[.slice none 0 0] 29)
  have bo := Blk.new (w2.alloc (.cells #[.string name, .string ⟨#[]⟩, .int .i64 0] 49)) 29 [.slice none 0 0] _ rfl
  rw [hzz] at bo
  have l2 := ST2.out.size
  generalize (w2.alloc (.cells #[.string name, .string ⟨#[]⟩, .int .i64 0] 49)).alloc (.cells #[.slice none 0 0] 29) = W4 at *
  clear c0 k0 k1 k2 k3
  clear hzz ST2
  have c0 := Blk.cell ST4.out.box 0
  have k0 := Blk.cell ST4.out.act 0
  have k1 := Blk.cell ST4.out.act 1
  have k2 := Blk.cell ST4.out.act 2
  have k3 := Blk.cell ST4.out.act 3
  simp only [List.getElem?_cons_zero, List.getElem?_cons_succ] at c0 k0 k1 k2 k3
  have f0 := Blk.cell bf 0
  have f1 := Blk.cell bf 1
  have f2 := Blk.cell bf 2
  have g1 := Blk.frozen bf 1
  have g2 := Blk.frozen bf 2
  have g0 := Blk.frozen bf 0
  have o0 := Blk.cell bo 0
  have o1 := Blk.frozen bo 0
  simp only [List.getElem?_cons_zero, List.getElem?_cons_succ] at f0 f1 f2 o0
  have BF := Lib.hid bf
  have BO := Lib.hid bo
  clear bf bo
  have hns : ¬ (9223372036854775807 < ((⟨#[]⟩ : ByteArray) : ByteArray).size + text.size) := by rw [ByteArray.size_append] at hcat; omega
  go_upto_region 11 with fail
  obtain ⟨tx, htx⟩ : ∃ tx : ByteArray, ((⟨#[]⟩ : ByteArray) : ByteArray) ++ text = tx := ⟨_, rfl⟩
  have ST5 := Lib.hid (ST4.out.set_ (p := ⟨w2.heap.size, 1, none⟩) l2 (.string ((⟨#[]⟩ : ByteArray) ++ text)))
  have bf5 := Blk.set_ BF.out 1 (.string ((⟨#[]⟩ : ByteArray) ++ text))
  have bo5 := Blk.far BO.out (p := ⟨w2.heap.size, 1, none⟩) (by simp only; omega) (.string ((⟨#[]⟩ : ByteArray) ++ text))
  simp only [List.set_cons_succ, List.set_cons_zero] at bf5
  generalize W4.setCell ⟨w2.heap.size, 1, none⟩ (.string ((⟨#[]⟩ : ByteArray) ++ text)) = W5 at *
  clear c0 k0 k1 k2 k3
  clear f0 f1 f2 g0 g1 g2 o0 o1 ST4 BF BO htx
  have c0 := Blk.cell ST5.out.box 0
  have k0 := Blk.cell ST5.out.act 0
  have k1 := Blk.cell ST5.out.act 1
  have k2 := Blk.cell ST5.out.act 2
  have k3 := Blk.cell ST5.out.act 3
  simp only [List.getElem?_cons_zero, List.getElem?_cons_succ] at c0 k0 k1 k2 k3
  have f0 := Blk.cell bf5 0
  have f1 := Blk.cell bf5 1
  have f2 := Blk.cell bf5 2
  simp only [List.getElem?_cons_zero, List.getElem?_cons_succ] at f0 f1 f2
  have BF := Lib.hid bf5
  have BO := Lib.hid bo5
  clear bf5 bo5
  have CP := Lib.hid (fun W (h : Below w.heap.size w W) => sPut_any (.agg #[.slice ao l.length cap]) l (name, (⟨#[]⟩ : ByteArray) ++ text, 0) W hl ⟨_, _, rfl, R.out _ h⟩)
  go_wp2_with fail
  refine (CP.out _ ST5.out.low).mono ?_
  rintro e w5 ⟨⟨v5, u5, rfl, ho⟩, hb5⟩
  obtain ⟨rfl, ho⟩ := ho
  obtain ⟨qu, cu, rfl⟩ := Own.shape ho
  have L5 := ST5.out.size
  have bo5 := Blk.below BO.out hb5 (by have := Blk.lt (BO.out); exact this)
  have o5 := Blk.cell bo5 0
  have o6 := Blk.frozen bo5 0
  simp only [List.getElem?_cons_zero] at o5
  have hlo := Blk.lt (BO.out)
  have ST6 := Lib.hid ((ST5.out.below hb5).set_ (p := ⟨w2.heap.size + 1, 0, none⟩) (by simp only; omega) (.slice qu (putL l (name, (⟨#[]⟩ : ByteArray) ++ text, 0)).length cu))
  have BO7 := Lib.hid (Blk.set_ bo5 0 (.slice qu (putL l (name, (⟨#[]⟩ : ByteArray) ++ text, 0)).length cu))
  have OU := Lib.hid ((Own.setCell (a := ⟨w2.heap.size + 1, 0, none⟩) ho (by simp only; omega) (.slice qu (putL l (name, (⟨#[]⟩ : ByteArray) ++ text, 0)).length cu)).mono (show w.heap.size + 3 ≤ _ by omega))
  clear hb5 ho bo5 hlo L5
  clear c0 k0 k1 k2 k3
  clear f0 f1 f2
  have CF := fun wx h => sDiskOk_big (.agg #[.slice qu (putL l (name, (⟨#[]⟩ : ByteArray) ++ text, 0)).length cu]) (putL l (name, (⟨#[]⟩ : ByteArray) ++ text, 0)) wx hrl hrs h
  by_cases hgr : DiskGood (putL l (name, (⟨#[]⟩ : ByteArray) ++ text, 0))
  · have V := Lib.hid (lastR_yes hgr)
    rw [decide_eq_true hgr] at CF
    have HCF := Lib.hid CF
    clear CF hgr
    go_wp2_with fail
    refine (HCF.out _ ⟨_, _, rfl, (OwnF.rdAt OU.out)⟩).mono ?_
    rintro e w7 ⟨rfl, hb7⟩
    have ST7 := Lib.hid (ST6.out.below hb7)
    have r0 := Blk.cell ST7.out.res 0
    have r1 := Blk.frozen ST7.out.res 0
    have bo7 := Blk.below BO7.out hb7 BO7.out.lt
    have o7 := Blk.cell bo7 0
    simp only [List.getElem?_cons_zero] at r0 o7
    have OU7 := Lib.hid (Own.below OU.out hb7 (Nat.le_refl _))
    clear hb7 bo7
    have E2 := Lib.hid (Blk.set_ ST7.out.res 0 (.slice qu (putL l (name, (⟨#[]⟩ : ByteArray) ++ text, 0)).length cu))
    have FB := Lib.hid (ST7.out.low.setCell (p := ⟨w.heap.size + 2, 0, none⟩) (by simp only; omega) (.slice qu (putL l (name, (⟨#[]⟩ : ByteArray) ++ text, 0)).length cu))
    have FO := Lib.hid ((Own.setCell (a := ⟨w.heap.size + 2, 0, none⟩) OU7.out (by simp only; omega) (.slice qu (putL l (name, (⟨#[]⟩ : ByteArray) ++ text, 0)).length cu)).mono (show w.heap.size ≤ w.heap.size + 3 by omega))
    go_wp2_with fail
    refine bodyPost_ret (results_cell_row_tmp rfl _ _ _ (w.heap.size + 2) 29 #[.slice qu (putL l (name, (⟨#[]⟩ : ByteArray) ++ text, 0)).length cu] (0, 0) _ _ rfl rfl E2.out Try.underlying29 (by kernel_rfl)) rfl ?_
    rw [V.out]
    exact ⟨⟨_, _, rfl, rfl, FO.out⟩, FB.out⟩
  · have V := Lib.hid (lastR_no hgr)
    rw [decide_eq_false hgr] at CF
    have HCF := Lib.hid CF
    clear CF hgr
    go_wp2_with fail
    refine (HCF.out _ ⟨_, _, rfl, (OwnF.rdAt OU.out)⟩).mono ?_
    rintro e w7 ⟨rfl, hb7⟩
    have ST7 := Lib.hid (ST6.out.below hb7)
    have r0 := Blk.cell ST7.out.res 0
    have r1 := Blk.frozen ST7.out.res 0
    simp only [List.getElem?_cons_zero] at r0
    clear hb7
    have E2 := Lib.hid (Blk.set_ ST7.out.res 0 (.slice none 0 0))
    have FB := Lib.hid (ST7.out.low.setCell (p := ⟨w.heap.size + 2, 0, none⟩) (by simp only; omega) (.slice none 0 0))
    go_wp2_with fail
    refine bodyPost_ret (results_cell_row_tmp rfl _ _ _ (w.heap.size + 2) 29 #[.slice none 0 0] (0, 0) _ _ rfl rfl E2.out Try.underlying29 (by kernel_rfl)) rfl ?_
    rw [V.out]
    exact ⟨⟨_, _, rfl, rfl, Own.nil _ _ _⟩, FB.out⟩

set_option maxHeartbeats 4000000 in
set_option maxRecDepth 100000 in
theorem sDo_add_old (ao : Option Addr) (cap : Nat) (l : List Fl) (name text dst : ByteArray) (w : World) (hl : l.length ≤ 1048576) (hs : ∀ x ∈ l, x.1.size ≤ 1048576 ∧ x.2.1.size ≤ 1048576) (hr : RdF w ao l) (hg : DiskGood l) (hn : NameGood name) (ht : text.size ≤ 1048576) (hd : dst.toList = []) (k : Nat) (xa xb : ByteArray) (xn : Int) (hx : l[k]? = some (xa, xb, xn)) (hp : posF l name = some k) :
    Calls Try.prog 52 #[.agg #[.slice ao l.length cap], .agg #[.int .i64 1, .string name, .string text, .string dst]] w fun e w' => GivesK2 w.heap.size (lastV (putL l (xa, xb ++ text, xn))).1 (.bool (lastV (putL l (xa, xb ++ text, xn))).2) e w' ∧ Below w.heap.size w w' := by
  obtain ⟨m1, m2, m3, m4⟩ := fl_bound hx hg
  have hcat : ((xb : ByteArray) ++ text).size ≤ 2097152 := by rw [ByteArray.size_append]; have : (xb : ByteArray).size ≤ 20000 := m2; omega
  have hrl : (putL l (xa, xb ++ text, xn)).length ≤ 1048576 := put_len _ hg.1
  have hrs : ∀ x ∈ putL l (xa, xb ++ text, xn), x.1.size ≤ 2097152 ∧ x.2.1.size ≤ 2097152 := put_size (fun x hx => ⟨by have := (hs x hx).1; omega, by have := (hs x hx).2; omega⟩) (by simp only; omega) hcat
  have hst := DoSt.start w 29 67 (.slice ao l.length cap) (1, name, text, dst) _ rfl
  have R := Lib.hid (fun W hW => hr.below (C := w.heap.size) (w' := W) hW (Nat.le_refl _))
  have CD := sDiskOk_any (.agg #[.slice ao l.length cap]) l _ hl hs ⟨ao, cap, rfl, R.out _ hst.low⟩
  have ST0 := Lib.hid hst
  rw [decide_eq_true hg] at CD
  have C := Lib.hid CD
  have CN := fun wx => sFileName_any name wx
  rw [within_yes (by unfold NameGood at hn; omega)] at CN
  have HCN := Lib.hid CN
  clear CN
  clear hr hst CD
  have HG := Lib.hid hg
  clear hg
  go_enter Try.func52, Try.ntmps52
  go_wp2_with fail
  refine C.out.mono ?_
  rintro e w1 ⟨rfl, hb1⟩
  have ST1 := Lib.hid (ST0.out.below hb1)
  clear hb1 C ST0
  have c0 := Blk.cell ST1.out.box 0
  have k0 := Blk.cell ST1.out.act 0
  have k1 := Blk.cell ST1.out.act 1
  have k2 := Blk.cell ST1.out.act 2
  have k3 := Blk.cell ST1.out.act 3
  simp only [List.getElem?_cons_zero, List.getElem?_cons_succ] at c0 k0 k1 k2 k3
  go_wp2_with fail
  refine (HCN.out _).mono ?_
  rintro e w' ⟨rfl, rfl⟩
  have CA := sAt_any _ l name w1 hl ⟨ao, cap, rfl, R.out _ ST1.out.low⟩
  rw [posV_some hp] at CA
  have HCA := Lib.hid CA
  clear CA
  go_wp2_with fail
  refine HCA.out.mono ?_
  rintro e w2 ⟨rfl, hb2⟩
  have ST2 := Lib.hid (ST1.out.below hb2)
  clear hb2 HCA ST1
  clear c0 k0 k1 k2 k3
  have c0 := Blk.cell ST2.out.box 0
  have k0 := Blk.cell ST2.out.act 0
  have k1 := Blk.cell ST2.out.act 1
  have k2 := Blk.cell ST2.out.act 2
  have k3 := Blk.cell ST2.out.act 3
  simp only [List.getElem?_cons_zero, List.getElem?_cons_succ] at c0 k0 k1 k2 k3
  obtain ⟨b, o, rfl, p0, p1, p2⟩ := (R.out _ ST2.out.low).at_ k _ hx
  simp only at p0 p1 p2
  have hkl := (List.getElem?_eq_some_iff.1 hx).1
  have Hx := Lib.hid hx
  clear hx
  have i0 : (0 : Int) ≤ (k : Int) := Int.natCast_nonneg _
  have q0 : (w2.alloc (.cells #[.string name, .string ⟨#[]⟩, .int .i64 0] 49)).cell? ⟨b, o + k * 3, none⟩ = some (.string xa) := by rw [← p0]; exact ((Below.refl w2.heap.size w2).alloc (Nat.le_refl _) _).cell (World.block_lt_of_cell? _ _ p0)
  have q1 : (w2.alloc (.cells #[.string name, .string ⟨#[]⟩, .int .i64 0] 49)).cell? ⟨b, o + k * 3 + 1, none⟩ = some (.string xb) := by rw [← p1]; exact ((Below.refl w2.heap.size w2).alloc (Nat.le_refl _) _).cell (World.block_lt_of_cell? _ _ p1)
  have q2 : (w2.alloc (.cells #[.string name, .string ⟨#[]⟩, .int .i64 0] 49)).cell? ⟨b, o + k * 3 + 2, none⟩ = some (.int .i64 xn) := by rw [← p2]; exact ((Below.refl w2.heap.size w2).alloc (Nat.le_refl _) _).cell (World.block_lt_of_cell? _ _ p2)
  have c0' : (w2.alloc (.cells #[.string name, .string ⟨#[]⟩, .int .i64 0] 49)).cell? ⟨w.heap.size, 0, none⟩ = some (.slice (some ⟨b, o, none⟩) l.length cap) := by rw [← c0]; exact ((Below.refl w2.heap.size w2).alloc (Nat.le_refl _) _).cell (World.block_lt_of_cell? _ _ c0)
  go_upto_region 9 with fail
  have ST4 := Lib.hid ((ST2.out.alloc (.cells #[.string xa, .string xb, .int .i64 xn] 49)).alloc (.cells #[.slice none 0 0] 29))
  have hzz := alloc_size w2 (.cells #[.string xa, .string xb, .int .i64 xn] 49)
  have bf := (Blk.new w2 49 [.string xa, .string xb, .int .i64 xn] _ rfl).alloc (.cells #[.slice none 0 0] 29)
  have bo := Blk.new (w2.alloc (.cells #[.string xa, .string xb, .int .i64 xn] 49)) 29 [.slice none 0 0] _ rfl
  rw [hzz] at bo
  have l2 := ST2.out.size
  generalize (w2.alloc (.cells #[.string xa, .string xb, .int .i64 xn] 49)).alloc (.cells #[.slice none 0 0] 29) = W4 at *
  clear p0 p1 p2 q0 q1 q2 c0'
  clear c0 k0 k1 k2 k3
  clear hzz ST2
  have c0 := Blk.cell ST4.out.box 0
  have k0 := Blk.cell ST4.out.act 0
  have k1 := Blk.cell ST4.out.act 1
  have k2 := Blk.cell ST4.out.act 2
  have k3 := Blk.cell ST4.out.act 3
  simp only [List.getElem?_cons_zero, List.getElem?_cons_succ] at c0 k0 k1 k2 k3
  have f0 := Blk.cell bf 0
  have f1 := Blk.cell bf 1
  have f2 := Blk.cell bf 2
  have g1 := Blk.frozen bf 1
  have g2 := Blk.frozen bf 2
  have g0 := Blk.frozen bf 0
  have o0 := Blk.cell bo 0
  have o1 := Blk.frozen bo 0
  simp only [List.getElem?_cons_zero, List.getElem?_cons_succ] at f0 f1 f2 o0
  have BF := Lib.hid bf
  have BO := Lib.hid bo
  clear bf bo
  have hns : ¬ (9223372036854775807 < (xb : ByteArray).size + text.size) := by rw [ByteArray.size_append] at hcat; omega
  go_upto_region 11 with fail
  obtain ⟨tx, htx⟩ : ∃ tx : ByteArray, (xb : ByteArray) ++ text = tx := ⟨_, rfl⟩
  have ST5 := Lib.hid (ST4.out.set_ (p := ⟨w2.heap.size, 1, none⟩) l2 (.string (xb ++ text)))
  have bf5 := Blk.set_ BF.out 1 (.string (xb ++ text))
  have bo5 := Blk.far BO.out (p := ⟨w2.heap.size, 1, none⟩) (by simp only; omega) (.string (xb ++ text))
  simp only [List.set_cons_succ, List.set_cons_zero] at bf5
  generalize W4.setCell ⟨w2.heap.size, 1, none⟩ (.string (xb ++ text)) = W5 at *
  clear c0 k0 k1 k2 k3
  clear f0 f1 f2 g0 g1 g2 o0 o1 ST4 BF BO htx
  have c0 := Blk.cell ST5.out.box 0
  have k0 := Blk.cell ST5.out.act 0
  have k1 := Blk.cell ST5.out.act 1
  have k2 := Blk.cell ST5.out.act 2
  have k3 := Blk.cell ST5.out.act 3
  simp only [List.getElem?_cons_zero, List.getElem?_cons_succ] at c0 k0 k1 k2 k3
  have f0 := Blk.cell bf5 0
  have f1 := Blk.cell bf5 1
  have f2 := Blk.cell bf5 2
  simp only [List.getElem?_cons_zero, List.getElem?_cons_succ] at f0 f1 f2
  have BF := Lib.hid bf5
  have BO := Lib.hid bo5
  clear bf5 bo5
  have CP := Lib.hid (fun W (h : Below w.heap.size w W) => sPut_any (.agg #[.slice (some ⟨b, o, none⟩) l.length cap]) l (xa, xb ++ text, xn) W hl ⟨_, _, rfl, R.out _ h⟩)
  go_wp2_with fail
  refine (CP.out _ ST5.out.low).mono ?_
  rintro e w5 ⟨⟨v5, u5, rfl, ho⟩, hb5⟩
  obtain ⟨rfl, ho⟩ := ho
  obtain ⟨qu, cu, rfl⟩ := Own.shape ho
  have L5 := ST5.out.size
  have bo5 := Blk.below BO.out hb5 (by have := Blk.lt (BO.out); exact this)
  have o5 := Blk.cell bo5 0
  have o6 := Blk.frozen bo5 0
  simp only [List.getElem?_cons_zero] at o5
  have hlo := Blk.lt (BO.out)
  have ST6 := Lib.hid ((ST5.out.below hb5).set_ (p := ⟨w2.heap.size + 1, 0, none⟩) (by simp only; omega) (.slice qu (putL l (xa, xb ++ text, xn)).length cu))
  have BO7 := Lib.hid (Blk.set_ bo5 0 (.slice qu (putL l (xa, xb ++ text, xn)).length cu))
  have OU := Lib.hid ((Own.setCell (a := ⟨w2.heap.size + 1, 0, none⟩) ho (by simp only; omega) (.slice qu (putL l (xa, xb ++ text, xn)).length cu)).mono (show w.heap.size + 3 ≤ _ by omega))
  clear hb5 ho bo5 hlo L5
  clear c0 k0 k1 k2 k3
  clear f0 f1 f2
  have CF := fun wx h => sDiskOk_big (.agg #[.slice qu (putL l (xa, xb ++ text, xn)).length cu]) (putL l (xa, xb ++ text, xn)) wx hrl hrs h
  by_cases hgr : DiskGood (putL l (xa, xb ++ text, xn))
  · have V := Lib.hid (lastR_yes hgr)
    rw [decide_eq_true hgr] at CF
    have HCF := Lib.hid CF
    clear CF hgr
    go_wp2_with fail
    refine (HCF.out _ ⟨_, _, rfl, (OwnF.rdAt OU.out)⟩).mono ?_
    rintro e w7 ⟨rfl, hb7⟩
    have ST7 := Lib.hid (ST6.out.below hb7)
    have r0 := Blk.cell ST7.out.res 0
    have r1 := Blk.frozen ST7.out.res 0
    have bo7 := Blk.below BO7.out hb7 BO7.out.lt
    have o7 := Blk.cell bo7 0
    simp only [List.getElem?_cons_zero] at r0 o7
    have OU7 := Lib.hid (Own.below OU.out hb7 (Nat.le_refl _))
    clear hb7 bo7
    have E2 := Lib.hid (Blk.set_ ST7.out.res 0 (.slice qu (putL l (xa, xb ++ text, xn)).length cu))
    have FB := Lib.hid (ST7.out.low.setCell (p := ⟨w.heap.size + 2, 0, none⟩) (by simp only; omega) (.slice qu (putL l (xa, xb ++ text, xn)).length cu))
    have FO := Lib.hid ((Own.setCell (a := ⟨w.heap.size + 2, 0, none⟩) OU7.out (by simp only; omega) (.slice qu (putL l (xa, xb ++ text, xn)).length cu)).mono (show w.heap.size ≤ w.heap.size + 3 by omega))
    go_wp2_with fail
    refine bodyPost_ret (results_cell_row_tmp rfl _ _ _ (w.heap.size + 2) 29 #[.slice qu (putL l (xa, xb ++ text, xn)).length cu] (0, 0) _ _ rfl rfl E2.out Try.underlying29 (by kernel_rfl)) rfl ?_
    rw [V.out]
    exact ⟨⟨_, _, rfl, rfl, FO.out⟩, FB.out⟩
  · have V := Lib.hid (lastR_no hgr)
    rw [decide_eq_false hgr] at CF
    have HCF := Lib.hid CF
    clear CF hgr
    go_wp2_with fail
    refine (HCF.out _ ⟨_, _, rfl, (OwnF.rdAt OU.out)⟩).mono ?_
    rintro e w7 ⟨rfl, hb7⟩
    have ST7 := Lib.hid (ST6.out.below hb7)
    have r0 := Blk.cell ST7.out.res 0
    have r1 := Blk.frozen ST7.out.res 0
    simp only [List.getElem?_cons_zero] at r0
    clear hb7
    have E2 := Lib.hid (Blk.set_ ST7.out.res 0 (.slice none 0 0))
    have FB := Lib.hid (ST7.out.low.setCell (p := ⟨w.heap.size + 2, 0, none⟩) (by simp only; omega) (.slice none 0 0))
    go_wp2_with fail
    refine bodyPost_ret (results_cell_row_tmp rfl _ _ _ (w.heap.size + 2) 29 #[.slice none 0 0] (0, 0) _ _ rfl rfl E2.out Try.underlying29 (by kernel_rfl)) rfl ?_
    rw [V.out]
    exact ⟨⟨_, _, rfl, rfl, Own.nil _ _ _⟩, FB.out⟩

end Go.Proofs.Ytdecehecjlbbiaa

/-! The walks of the reference's DoAct, case by case: where a file is kept, moved, dropped. -/
namespace Go.Proofs.Ytdecehecjlbbiaa
open Go.RowKit

set_option maxHeartbeats 4000000 in
set_option maxRecDepth 100000 in
theorem sDo_keep (ao : Option Addr) (cap : Nat) (l : List Fl) (name text dst : ByteArray) (w : World) (hl : l.length ≤ 1048576) (hs : ∀ x ∈ l, x.1.size ≤ 1048576 ∧ x.2.1.size ≤ 1048576) (hr : RdF w ao l) (hg : DiskGood l) (hn : NameGood name) (hd : dst.toList = []) (ht : text.toList = []) (k : Nat) (xa xb : ByteArray) (xn : Int) (hx : l[k]? = some (xa, xb, xn)) (hp : posF l name = some k) :
    Calls Try.prog 52 #[.agg #[.slice ao l.length cap], .agg #[.int .i64 2, .string name, .string text, .string dst]] w fun e w' => GivesK2 w.heap.size (lastV (putL l (xa, xb, (xb.size : Int)))).1 (.bool (lastV (putL l (xa, xb, (xb.size : Int)))).2) e w' ∧ Below w.heap.size w w' := by
  obtain ⟨m1, m2, m3, m4⟩ := fl_bound hx hg
  have hrl : (putL l (xa, xb, (xb.size : Int))).length ≤ 1048576 := put_len _ hg.1
  have hrs : ∀ x ∈ putL l (xa, xb, (xb.size : Int)), x.1.size ≤ 2097152 ∧ x.2.1.size ≤ 2097152 := put_size (fun x hx => ⟨by have := (hs x hx).1; omega, by have := (hs x hx).2; omega⟩) (by simp only; omega) (by simp only; omega)
  have hst := DoSt.start w 29 67 (.slice ao l.length cap) (2, name, text, dst) _ rfl
  have R := Lib.hid (fun W hW => hr.below (C := w.heap.size) (w' := W) hW (Nat.le_refl _))
  have CD := sDiskOk_any (.agg #[.slice ao l.length cap]) l _ hl hs ⟨ao, cap, rfl, R.out _ hst.low⟩
  have ST0 := Lib.hid hst
  rw [decide_eq_true hg] at CD
  have C := Lib.hid CD
  have CN := fun wx => sFileName_any name wx
  rw [within_yes (by unfold NameGood at hn; omega)] at CN
  have HCN := Lib.hid CN
  clear CN
  clear hr hst CD
  have HG := Lib.hid hg
  clear hg
  go_enter Try.func52, Try.ntmps52
  go_wp2_with fail
  refine C.out.mono ?_
  rintro e w1 ⟨rfl, hb1⟩
  have ST1 := Lib.hid (ST0.out.below hb1)
  clear hb1 C ST0
  have c0 := Blk.cell ST1.out.box 0
  have k0 := Blk.cell ST1.out.act 0
  have k1 := Blk.cell ST1.out.act 1
  have k2 := Blk.cell ST1.out.act 2
  have k3 := Blk.cell ST1.out.act 3
  simp only [List.getElem?_cons_zero, List.getElem?_cons_succ] at c0 k0 k1 k2 k3
  go_wp2_with fail
  refine (HCN.out _).mono ?_
  rintro e w' ⟨rfl, rfl⟩
  have CA := sAt_any _ l name w1 hl ⟨ao, cap, rfl, R.out _ ST1.out.low⟩
  rw [posV_some hp] at CA
  have HCA := Lib.hid CA
  clear CA
  go_wp2_with fail
  refine HCA.out.mono ?_
  rintro e w2 ⟨rfl, hb2⟩
  have ST2 := Lib.hid (ST1.out.below hb2)
  clear hb2 HCA ST1
  clear c0 k0 k1 k2 k3
  have c0 := Blk.cell ST2.out.box 0
  have k0 := Blk.cell ST2.out.act 0
  have k1 := Blk.cell ST2.out.act 1
  have k2 := Blk.cell ST2.out.act 2
  have k3 := Blk.cell ST2.out.act 3
  simp only [List.getElem?_cons_zero, List.getElem?_cons_succ] at c0 k0 k1 k2 k3
  obtain ⟨b, o, rfl, p0, p1, p2⟩ := (R.out _ ST2.out.low).at_ k _ hx
  simp only at p0 p1 p2
  have hkl := (List.getElem?_eq_some_iff.1 hx).1
  have Hx := Lib.hid hx
  clear hx
  have i0 : (0 : Int) ≤ (k : Int) := Int.natCast_nonneg _
  have q0 : (w2.alloc (.cells #[.string name, .string ⟨#[]⟩, .int .i64 0] 49)).cell? ⟨b, o + k * 3, none⟩ = some (.string xa) := by rw [← p0]; exact ((Below.refl w2.heap.size w2).alloc (Nat.le_refl _) _).cell (World.block_lt_of_cell? _ _ p0)
  have q1 : (w2.alloc (.cells #[.string name, .string ⟨#[]⟩, .int .i64 0] 49)).cell? ⟨b, o + k * 3 + 1, none⟩ = some (.string xb) := by rw [← p1]; exact ((Below.refl w2.heap.size w2).alloc (Nat.le_refl _) _).cell (World.block_lt_of_cell? _ _ p1)
  have q2 : (w2.alloc (.cells #[.string name, .string ⟨#[]⟩, .int .i64 0] 49)).cell? ⟨b, o + k * 3 + 2, none⟩ = some (.int .i64 xn) := by rw [← p2]; exact ((Below.refl w2.heap.size w2).alloc (Nat.le_refl _) _).cell (World.block_lt_of_cell? _ _ p2)
  have c0' : (w2.alloc (.cells #[.string name, .string ⟨#[]⟩, .int .i64 0] 49)).cell? ⟨w.heap.size, 0, none⟩ = some (.slice (some ⟨b, o, none⟩) l.length cap) := by rw [← c0]; exact ((Below.refl w2.heap.size w2).alloc (Nat.le_refl _) _).cell (World.block_lt_of_cell? _ _ c0)
  go_upto_region 9 with fail
  have ST4 := Lib.hid ((ST2.out.alloc (.cells #[.string xa, .string xb, .int .i64 xn] 49)).alloc (.cells #[.slice none 0 0] 29))
  have hzz := alloc_size w2 (.cells #[.string xa, .string xb, .int .i64 xn] 49)
  have bf := (Blk.new w2 49 [.string xa, .string xb, .int .i64 xn] _ rfl).alloc (.cells #[.slice none 0 0] 29)
  have bo := Blk.new (w2.alloc (.cells #[.string xa, .string xb, .int .i64 xn] 49)) 29 [.slice none 0 0] _ rfl
  rw [hzz] at bo
  have l2 := ST2.out.size
  generalize (w2.alloc (.cells #[.string xa, .string xb, .int .i64 xn] 49)).alloc (.cells #[.slice none 0 0] 29) = W4 at *
  clear p0 p1 p2 q0 q1 q2 c0'
  clear c0 k0 k1 k2 k3
  clear hzz ST2
  have c0 := Blk.cell ST4.out.box 0
  have k0 := Blk.cell ST4.out.act 0
  have k1 := Blk.cell ST4.out.act 1
  have k2 := Blk.cell ST4.out.act 2
  have k3 := Blk.cell ST4.out.act 3
  simp only [List.getElem?_cons_zero, List.getElem?_cons_succ] at c0 k0 k1 k2 k3
  have f0 := Blk.cell bf 0
  have f1 := Blk.cell bf 1
  have f2 := Blk.cell bf 2
  have g1 := Blk.frozen bf 1
  have g2 := Blk.frozen bf 2
  have g0 := Blk.frozen bf 0
  have o0 := Blk.cell bo 0
  have o1 := Blk.frozen bo 0
  simp only [List.getElem?_cons_zero, List.getElem?_cons_succ] at f0 f1 f2 o0
  have BF := Lib.hid bf
  have BO := Lib.hid bo
  clear bf bo
  go_upto_region 16 with fail
  have ST5 := Lib.hid (ST4.out.set_ (p := ⟨w2.heap.size, 2, none⟩) l2 (.int .i64 (xb.size : Int)))
  have bf5 := Blk.set_ BF.out 2 (.int .i64 (xb.size : Int))
  have bo5 := Blk.far BO.out (p := ⟨w2.heap.size, 2, none⟩) (by simp only; omega) (.int .i64 (xb.size : Int))
  simp only [List.set_cons_succ, List.set_cons_zero] at bf5
  generalize W4.setCell ⟨w2.heap.size, 2, none⟩ (.int .i64 (xb.size : Int)) = W5 at *
  clear c0 k0 k1 k2 k3
  clear f0 f1 f2 g0 g1 g2 o0 o1 ST4 BF BO
  have c0 := Blk.cell ST5.out.box 0
  have k0 := Blk.cell ST5.out.act 0
  have k1 := Blk.cell ST5.out.act 1
  have k2 := Blk.cell ST5.out.act 2
  have k3 := Blk.cell ST5.out.act 3
  simp only [List.getElem?_cons_zero, List.getElem?_cons_succ] at c0 k0 k1 k2 k3
  have f0 := Blk.cell bf5 0
  have f1 := Blk.cell bf5 1
  have f2 := Blk.cell bf5 2
  simp only [List.getElem?_cons_zero, List.getElem?_cons_succ] at f0 f1 f2
  have BF := Lib.hid bf5
  have BO := Lib.hid bo5
  clear bf5 bo5
  have CP := Lib.hid (fun W (h : Below w.heap.size w W) => sPut_any (.agg #[.slice (some ⟨b, o, none⟩) l.length cap]) l (xa, xb, (xb.size : Int)) W hl ⟨_, _, rfl, R.out _ h⟩)
  go_wp2_with fail
  refine (CP.out _ ST5.out.low).mono ?_
  rintro e w5 ⟨⟨v5, u5, rfl, ho⟩, hb5⟩
  obtain ⟨rfl, ho⟩ := ho
  obtain ⟨qu, cu, rfl⟩ := Own.shape ho
  have L5 := ST5.out.size
  have bo5 := Blk.below BO.out hb5 (by have := Blk.lt (BO.out); exact this)
  have o5 := Blk.cell bo5 0
  have o6 := Blk.frozen bo5 0
  simp only [List.getElem?_cons_zero] at o5
  have hlo := Blk.lt (BO.out)
  have ST6 := Lib.hid ((ST5.out.below hb5).set_ (p := ⟨w2.heap.size + 1, 0, none⟩) (by simp only; omega) (.slice qu (putL l (xa, xb, (xb.size : Int))).length cu))
  have BO7 := Lib.hid (Blk.set_ bo5 0 (.slice qu (putL l (xa, xb, (xb.size : Int))).length cu))
  have OU := Lib.hid ((Own.setCell (a := ⟨w2.heap.size + 1, 0, none⟩) ho (by simp only; omega) (.slice qu (putL l (xa, xb, (xb.size : Int))).length cu)).mono (show w.heap.size + 3 ≤ _ by omega))
  clear hb5 ho bo5 hlo L5
  clear c0 k0 k1 k2 k3
  clear f0 f1 f2
  have CF := fun wx h => sDiskOk_big (.agg #[.slice qu (putL l (xa, xb, (xb.size : Int))).length cu]) (putL l (xa, xb, (xb.size : Int))) wx hrl hrs h
  by_cases hgr : DiskGood (putL l (xa, xb, (xb.size : Int)))
  · have V := Lib.hid (lastR_yes hgr)
    rw [decide_eq_true hgr] at CF
    have HCF := Lib.hid CF
    clear CF hgr
    go_wp2_with fail
    refine (HCF.out _ ⟨_, _, rfl, (OwnF.rdAt OU.out)⟩).mono ?_
    rintro e w7 ⟨rfl, hb7⟩
    have ST7 := Lib.hid (ST6.out.below hb7)
    have r0 := Blk.cell ST7.out.res 0
    have r1 := Blk.frozen ST7.out.res 0
    have bo7 := Blk.below BO7.out hb7 BO7.out.lt
    have o7 := Blk.cell bo7 0
    simp only [List.getElem?_cons_zero] at r0 o7
    have OU7 := Lib.hid (Own.below OU.out hb7 (Nat.le_refl _))
    clear hb7 bo7
    have E2 := Lib.hid (Blk.set_ ST7.out.res 0 (.slice qu (putL l (xa, xb, (xb.size : Int))).length cu))
    have FB := Lib.hid (ST7.out.low.setCell (p := ⟨w.heap.size + 2, 0, none⟩) (by simp only; omega) (.slice qu (putL l (xa, xb, (xb.size : Int))).length cu))
    have FO := Lib.hid ((Own.setCell (a := ⟨w.heap.size + 2, 0, none⟩) OU7.out (by simp only; omega) (.slice qu (putL l (xa, xb, (xb.size : Int))).length cu)).mono (show w.heap.size ≤ w.heap.size + 3 by omega))
    go_wp2_with fail
    refine bodyPost_ret (results_cell_row_tmp rfl _ _ _ (w.heap.size + 2) 29 #[.slice qu (putL l (xa, xb, (xb.size : Int))).length cu] (0, 0) _ _ rfl rfl E2.out Try.underlying29 (by kernel_rfl)) rfl ?_
    rw [V.out]
    exact ⟨⟨_, _, rfl, rfl, FO.out⟩, FB.out⟩
  · have V := Lib.hid (lastR_no hgr)
    rw [decide_eq_false hgr] at CF
    have HCF := Lib.hid CF
    clear CF hgr
    go_wp2_with fail
    refine (HCF.out _ ⟨_, _, rfl, (OwnF.rdAt OU.out)⟩).mono ?_
    rintro e w7 ⟨rfl, hb7⟩
    have ST7 := Lib.hid (ST6.out.below hb7)
    have r0 := Blk.cell ST7.out.res 0
    have r1 := Blk.frozen ST7.out.res 0
    simp only [List.getElem?_cons_zero] at r0
    clear hb7
    have E2 := Lib.hid (Blk.set_ ST7.out.res 0 (.slice none 0 0))
    have FB := Lib.hid (ST7.out.low.setCell (p := ⟨w.heap.size + 2, 0, none⟩) (by simp only; omega) (.slice none 0 0))
    go_wp2_with fail
    refine bodyPost_ret (results_cell_row_tmp rfl _ _ _ (w.heap.size + 2) 29 #[.slice none 0 0] (0, 0) _ _ rfl rfl E2.out Try.underlying29 (by kernel_rfl)) rfl ?_
    rw [V.out]
    exact ⟨⟨_, _, rfl, rfl, Own.nil _ _ _⟩, FB.out⟩

set_option maxHeartbeats 4000000 in
set_option maxRecDepth 100000 in
theorem sDo_drop (ao : Option Addr) (cap : Nat) (l : List Fl) (name text dst : ByteArray) (w : World) (hl : l.length ≤ 1048576) (hs : ∀ x ∈ l, x.1.size ≤ 1048576 ∧ x.2.1.size ≤ 1048576) (hr : RdF w ao l) (hg : DiskGood l) (hn : NameGood name) (hd : dst.toList = []) (ht : text.toList = []) (k : Nat) (xa xb : ByteArray) (xn : Int) (hx : l[k]? = some (xa, xb, xn)) (hp : posF l name = some k) :
    Calls Try.prog 52 #[.agg #[.slice ao l.length cap], .agg #[.int .i64 4, .string name, .string text, .string dst]] w fun e w' => GivesK2 w.heap.size (lastV (outL l name)).1 (.bool (lastV (outL l name)).2) e w' ∧ Below w.heap.size w w' := by
  have hrl : (outL l name).length ≤ 1048576 := Nat.le_trans (List.length_filter_le _ _) hl
  have hrs : ∀ x ∈ outL l name, x.1.size ≤ 2097152 ∧ x.2.1.size ≤ 2097152 := fun x hx => ⟨by have := (hs x (List.mem_filter.1 hx).1).1; omega, by have := (hs x (List.mem_filter.1 hx).1).2; omega⟩
  have hst := DoSt.start w 29 67 (.slice ao l.length cap) (4, name, text, dst) _ rfl
  have R := Lib.hid (fun W hW => hr.below (C := w.heap.size) (w' := W) hW (Nat.le_refl _))
  have CD := sDiskOk_any (.agg #[.slice ao l.length cap]) l _ hl hs ⟨ao, cap, rfl, R.out _ hst.low⟩
  have ST0 := Lib.hid hst
  rw [decide_eq_true hg] at CD
  have C := Lib.hid CD
  have CN := fun wx => sFileName_any name wx
  rw [within_yes (by unfold NameGood at hn; omega)] at CN
  have HCN := Lib.hid CN
  clear CN
  clear hr hst CD
  have HG := Lib.hid hg
  clear hg
  go_enter Try.func52, Try.ntmps52
  go_wp2_with fail
  refine C.out.mono ?_
  rintro e w1 ⟨rfl, hb1⟩
  have ST1 := Lib.hid (ST0.out.below hb1)
  clear hb1 C ST0
  have c0 := Blk.cell ST1.out.box 0
  have k0 := Blk.cell ST1.out.act 0
  have k1 := Blk.cell ST1.out.act 1
  have k2 := Blk.cell ST1.out.act 2
  have k3 := Blk.cell ST1.out.act 3
  simp only [List.getElem?_cons_zero, List.getElem?_cons_succ] at c0 k0 k1 k2 k3
  go_wp2_with fail
  refine (HCN.out _).mono ?_
  rintro e w' ⟨rfl, rfl⟩
  have CA := sAt_any _ l name w1 hl ⟨ao, cap, rfl, R.out _ ST1.out.low⟩
  rw [posV_some hp] at CA
  have HCA := Lib.hid CA
  clear CA
  go_wp2_with fail
  refine HCA.out.mono ?_
  rintro e w2 ⟨rfl, hb2⟩
  have ST2 := Lib.hid (ST1.out.below hb2)
  clear hb2 HCA ST1
  clear c0 k0 k1 k2 k3
  have c0 := Blk.cell ST2.out.box 0
  have k0 := Blk.cell ST2.out.act 0
  have k1 := Blk.cell ST2.out.act 1
  have k2 := Blk.cell ST2.out.act 2
  have k3 := Blk.cell ST2.out.act 3
  simp only [List.getElem?_cons_zero, List.getElem?_cons_succ] at c0 k0 k1 k2 k3
  obtain ⟨b, o, rfl, p0, p1, p2⟩ := (R.out _ ST2.out.low).at_ k _ hx
  simp only at p0 p1 p2
  have hkl := (List.getElem?_eq_some_iff.1 hx).1
  have Hx := Lib.hid hx
  clear hx
  have i0 : (0 : Int) ≤ (k : Int) := Int.natCast_nonneg _
  have q0 : (w2.alloc (.cells #[.string name, .string ⟨#[]⟩, .int .i64 0] 49)).cell? ⟨b, o + k * 3, none⟩ = some (.string xa) := by rw [← p0]; exact ((Below.refl w2.heap.size w2).alloc (Nat.le_refl _) _).cell (World.block_lt_of_cell? _ _ p0)
  have q1 : (w2.alloc (.cells #[.string name, .string ⟨#[]⟩, .int .i64 0] 49)).cell? ⟨b, o + k * 3 + 1, none⟩ = some (.string xb) := by rw [← p1]; exact ((Below.refl w2.heap.size w2).alloc (Nat.le_refl _) _).cell (World.block_lt_of_cell? _ _ p1)
  have q2 : (w2.alloc (.cells #[.string name, .string ⟨#[]⟩, .int .i64 0] 49)).cell? ⟨b, o + k * 3 + 2, none⟩ = some (.int .i64 xn) := by rw [← p2]; exact ((Below.refl w2.heap.size w2).alloc (Nat.le_refl _) _).cell (World.block_lt_of_cell? _ _ p2)
  have c0' : (w2.alloc (.cells #[.string name, .string ⟨#[]⟩, .int .i64 0] 49)).cell? ⟨w.heap.size, 0, none⟩ = some (.slice (some ⟨b, o, none⟩) l.length cap) := by rw [← c0]; exact ((Below.refl w2.heap.size w2).alloc (Nat.le_refl _) _).cell (World.block_lt_of_cell? _ _ c0)
  go_upto_region 9 with fail
  have ST4 := Lib.hid ((ST2.out.alloc (.cells #[.string xa, .string xb, .int .i64 xn] 49)).alloc (.cells #[.slice none 0 0] 29))
  have hzz := alloc_size w2 (.cells #[.string xa, .string xb, .int .i64 xn] 49)
  have bf := (Blk.new w2 49 [.string xa, .string xb, .int .i64 xn] _ rfl).alloc (.cells #[.slice none 0 0] 29)
  have bo := Blk.new (w2.alloc (.cells #[.string xa, .string xb, .int .i64 xn] 49)) 29 [.slice none 0 0] _ rfl
  rw [hzz] at bo
  have l2 := ST2.out.size
  generalize (w2.alloc (.cells #[.string xa, .string xb, .int .i64 xn] 49)).alloc (.cells #[.slice none 0 0] 29) = W4 at *
  clear p0 p1 p2 q0 q1 q2 c0'
  clear c0 k0 k1 k2 k3
  clear hzz ST2
  have c0 := Blk.cell ST4.out.box 0
  have k0 := Blk.cell ST4.out.act 0
  have k1 := Blk.cell ST4.out.act 1
  have k2 := Blk.cell ST4.out.act 2
  have k3 := Blk.cell ST4.out.act 3
  simp only [List.getElem?_cons_zero, List.getElem?_cons_succ] at c0 k0 k1 k2 k3
  have f0 := Blk.cell bf 0
  have f1 := Blk.cell bf 1
  have f2 := Blk.cell bf 2
  have g1 := Blk.frozen bf 1
  have g2 := Blk.frozen bf 2
  have g0 := Blk.frozen bf 0
  have o0 := Blk.cell bo 0
  have o1 := Blk.frozen bo 0
  simp only [List.getElem?_cons_zero, List.getElem?_cons_succ] at f0 f1 f2 o0
  have BF := Lib.hid bf
  have BO := Lib.hid bo
  clear bf bo
  have CP := Lib.hid (fun W (h : Below w.heap.size w W) => sWithout_any (.agg #[.slice (some ⟨b, o, none⟩) l.length cap]) l name W hl ⟨_, _, rfl, R.out _ h⟩)
  go_wp2_with fail
  refine (CP.out _ ST4.out.low).mono ?_
  rintro e w5 ⟨⟨v5, u5, rfl, ho⟩, hb5⟩
  obtain ⟨rfl, ho⟩ := ho
  obtain ⟨qu, cu, rfl⟩ := Own.shape ho
  have L5 := ST4.out.size
  have bo5 := Blk.below BO.out hb5 (by have := Blk.lt (BO.out); exact this)
  have o5 := Blk.cell bo5 0
  have o6 := Blk.frozen bo5 0
  simp only [List.getElem?_cons_zero] at o5
  have hlo := Blk.lt (BO.out)
  have ST6 := Lib.hid ((ST4.out.below hb5).set_ (p := ⟨w2.heap.size + 1, 0, none⟩) (by simp only; omega) (.slice qu (outL l name).length cu))
  have BO7 := Lib.hid (Blk.set_ bo5 0 (.slice qu (outL l name).length cu))
  have OU := Lib.hid ((Own.setCell (a := ⟨w2.heap.size + 1, 0, none⟩) ho (by simp only; omega) (.slice qu (outL l name).length cu)).mono (show w.heap.size + 3 ≤ _ by omega))
  clear hb5 ho bo5 hlo L5
  clear c0 k0 k1 k2 k3
  clear f0 f1 f2 g0 g1 g2 o0 o1
  have CF := fun wx h => sDiskOk_big (.agg #[.slice qu (outL l name).length cu]) (outL l name) wx hrl hrs h
  by_cases hgr : DiskGood (outL l name)
  · have V := Lib.hid (lastR_yes hgr)
    rw [decide_eq_true hgr] at CF
    have HCF := Lib.hid CF
    clear CF hgr
    go_wp2_with fail
    refine (HCF.out _ ⟨_, _, rfl, (OwnF.rdAt OU.out)⟩).mono ?_
    rintro e w7 ⟨rfl, hb7⟩
    have ST7 := Lib.hid (ST6.out.below hb7)
    have r0 := Blk.cell ST7.out.res 0
    have r1 := Blk.frozen ST7.out.res 0
    have bo7 := Blk.below BO7.out hb7 BO7.out.lt
    have o7 := Blk.cell bo7 0
    simp only [List.getElem?_cons_zero] at r0 o7
    have OU7 := Lib.hid (Own.below OU.out hb7 (Nat.le_refl _))
    clear hb7 bo7
    have E2 := Lib.hid (Blk.set_ ST7.out.res 0 (.slice qu (outL l name).length cu))
    have FB := Lib.hid (ST7.out.low.setCell (p := ⟨w.heap.size + 2, 0, none⟩) (by simp only; omega) (.slice qu (outL l name).length cu))
    have FO := Lib.hid ((Own.setCell (a := ⟨w.heap.size + 2, 0, none⟩) OU7.out (by simp only; omega) (.slice qu (outL l name).length cu)).mono (show w.heap.size ≤ w.heap.size + 3 by omega))
    go_wp2_with fail
    refine bodyPost_ret (results_cell_row_tmp rfl _ _ _ (w.heap.size + 2) 29 #[.slice qu (outL l name).length cu] (0, 0) _ _ rfl rfl E2.out Try.underlying29 (by kernel_rfl)) rfl ?_
    rw [V.out]
    exact ⟨⟨_, _, rfl, rfl, FO.out⟩, FB.out⟩
  · have V := Lib.hid (lastR_no hgr)
    rw [decide_eq_false hgr] at CF
    have HCF := Lib.hid CF
    clear CF hgr
    go_wp2_with fail
    refine (HCF.out _ ⟨_, _, rfl, (OwnF.rdAt OU.out)⟩).mono ?_
    rintro e w7 ⟨rfl, hb7⟩
    have ST7 := Lib.hid (ST6.out.below hb7)
    have r0 := Blk.cell ST7.out.res 0
    have r1 := Blk.frozen ST7.out.res 0
    simp only [List.getElem?_cons_zero] at r0
    clear hb7
    have E2 := Lib.hid (Blk.set_ ST7.out.res 0 (.slice none 0 0))
    have FB := Lib.hid (ST7.out.low.setCell (p := ⟨w.heap.size + 2, 0, none⟩) (by simp only; omega) (.slice none 0 0))
    go_wp2_with fail
    refine bodyPost_ret (results_cell_row_tmp rfl _ _ _ (w.heap.size + 2) 29 #[.slice none 0 0] (0, 0) _ _ rfl rfl E2.out Try.underlying29 (by kernel_rfl)) rfl ?_
    rw [V.out]
    exact ⟨⟨_, _, rfl, rfl, Own.nil _ _ _⟩, FB.out⟩

set_option maxHeartbeats 4000000 in
set_option maxRecDepth 100000 in
theorem sDo_move_unkept (ao : Option Addr) (cap : Nat) (l : List Fl) (name text dst : ByteArray) (w : World) (hl : l.length ≤ 1048576) (hs : ∀ x ∈ l, x.1.size ≤ 1048576 ∧ x.2.1.size ≤ 1048576) (hr : RdF w ao l) (hg : DiskGood l) (hn : NameGood name) (ht : text.toList = []) (k : Nat) (xa xb : ByteArray) (xn : Int) (hx : l[k]? = some (xa, xb, xn)) (hp : posF l name = some k) (hk : xn < (xb.size : Int)) :
    Calls Try.prog 52 #[.agg #[.slice ao l.length cap], .agg #[.int .i64 3, .string name, .string text, .string dst]] w fun e w' => GivesK2 w.heap.size [] (.bool false) e w' ∧ Below w.heap.size w w' := by
  have hst := DoSt.start w 29 67 (.slice ao l.length cap) (3, name, text, dst) _ rfl
  have R := Lib.hid (fun W hW => hr.below (C := w.heap.size) (w' := W) hW (Nat.le_refl _))
  have CD := sDiskOk_any (.agg #[.slice ao l.length cap]) l _ hl hs ⟨ao, cap, rfl, R.out _ hst.low⟩
  have ST0 := Lib.hid hst
  rw [decide_eq_true hg] at CD
  have C := Lib.hid CD
  have CN := fun wx => sFileName_any name wx
  rw [within_yes (by unfold NameGood at hn; omega)] at CN
  have HCN := Lib.hid CN
  clear CN
  clear hr hst CD
  have HG := Lib.hid hg
  clear hg
  go_enter Try.func52, Try.ntmps52
  go_wp2_with fail
  refine C.out.mono ?_
  rintro e w1 ⟨rfl, hb1⟩
  have ST1 := Lib.hid (ST0.out.below hb1)
  clear hb1 C ST0
  have c0 := Blk.cell ST1.out.box 0
  have k0 := Blk.cell ST1.out.act 0
  have k1 := Blk.cell ST1.out.act 1
  have k2 := Blk.cell ST1.out.act 2
  have k3 := Blk.cell ST1.out.act 3
  simp only [List.getElem?_cons_zero, List.getElem?_cons_succ] at c0 k0 k1 k2 k3
  go_wp2_with fail
  refine (HCN.out _).mono ?_
  rintro e w' ⟨rfl, rfl⟩
  have CA := sAt_any _ l name w1 hl ⟨ao, cap, rfl, R.out _ ST1.out.low⟩
  rw [posV_some hp] at CA
  have HCA := Lib.hid CA
  clear CA
  go_wp2_with fail
  refine HCA.out.mono ?_
  rintro e w2 ⟨rfl, hb2⟩
  have ST2 := Lib.hid (ST1.out.below hb2)
  clear hb2 HCA ST1
  clear c0 k0 k1 k2 k3
  have c0 := Blk.cell ST2.out.box 0
  have k0 := Blk.cell ST2.out.act 0
  have k1 := Blk.cell ST2.out.act 1
  have k2 := Blk.cell ST2.out.act 2
  have k3 := Blk.cell ST2.out.act 3
  simp only [List.getElem?_cons_zero, List.getElem?_cons_succ] at c0 k0 k1 k2 k3
  obtain ⟨b, o, rfl, p0, p1, p2⟩ := (R.out _ ST2.out.low).at_ k _ hx
  simp only at p0 p1 p2
  have hkl := (List.getElem?_eq_some_iff.1 hx).1
  have Hx := Lib.hid hx
  clear hx
  have i0 : (0 : Int) ≤ (k : Int) := Int.natCast_nonneg _
  have q0 : (w2.alloc (.cells #[.string name, .string ⟨#[]⟩, .int .i64 0] 49)).cell? ⟨b, o + k * 3, none⟩ = some (.string xa) := by rw [← p0]; exact ((Below.refl w2.heap.size w2).alloc (Nat.le_refl _) _).cell (World.block_lt_of_cell? _ _ p0)
  have q1 : (w2.alloc (.cells #[.string name, .string ⟨#[]⟩, .int .i64 0] 49)).cell? ⟨b, o + k * 3 + 1, none⟩ = some (.string xb) := by rw [← p1]; exact ((Below.refl w2.heap.size w2).alloc (Nat.le_refl _) _).cell (World.block_lt_of_cell? _ _ p1)
  have q2 : (w2.alloc (.cells #[.string name, .string ⟨#[]⟩, .int .i64 0] 49)).cell? ⟨b, o + k * 3 + 2, none⟩ = some (.int .i64 xn) := by rw [← p2]; exact ((Below.refl w2.heap.size w2).alloc (Nat.le_refl _) _).cell (World.block_lt_of_cell? _ _ p2)
  have c0' : (w2.alloc (.cells #[.string name, .string ⟨#[]⟩, .int .i64 0] 49)).cell? ⟨w.heap.size, 0, none⟩ = some (.slice (some ⟨b, o, none⟩) l.length cap) := by rw [← c0]; exact ((Below.refl w2.heap.size w2).alloc (Nat.le_refl _) _).cell (World.block_lt_of_cell? _ _ c0)
  go_upto_region 9 with fail
  have ST4 := Lib.hid ((ST2.out.alloc (.cells #[.string xa, .string xb, .int .i64 xn] 49)).alloc (.cells #[.slice none 0 0] 29))
  have hzz := alloc_size w2 (.cells #[.string xa, .string xb, .int .i64 xn] 49)
  have bf := (Blk.new w2 49 [.string xa, .string xb, .int .i64 xn] _ rfl).alloc (.cells #[.slice none 0 0] 29)
  have bo := Blk.new (w2.alloc (.cells #[.string xa, .string xb, .int .i64 xn] 49)) 29 [.slice none 0 0] _ rfl
  rw [hzz] at bo
  have l2 := ST2.out.size
  generalize (w2.alloc (.cells #[.string xa, .string xb, .int .i64 xn] 49)).alloc (.cells #[.slice none 0 0] 29) = W4 at *
  clear p0 p1 p2 q0 q1 q2 c0'
  clear c0 k0 k1 k2 k3
  clear hzz ST2
  have c0 := Blk.cell ST4.out.box 0
  have k0 := Blk.cell ST4.out.act 0
  have k1 := Blk.cell ST4.out.act 1
  have k2 := Blk.cell ST4.out.act 2
  have k3 := Blk.cell ST4.out.act 3
  simp only [List.getElem?_cons_zero, List.getElem?_cons_succ] at c0 k0 k1 k2 k3
  have f0 := Blk.cell bf 0
  have f1 := Blk.cell bf 1
  have f2 := Blk.cell bf 2
  have g1 := Blk.frozen bf 1
  have g2 := Blk.frozen bf 2
  have g0 := Blk.frozen bf 0
  have o0 := Blk.cell bo 0
  have o1 := Blk.frozen bo 0
  simp only [List.getElem?_cons_zero, List.getElem?_cons_succ] at f0 f1 f2 o0
  have BF := Lib.hid bf
  have BO := Lib.hid bo
  clear bf bo
  have r0 := Blk.cell ST4.out.res 0
  have r1 := Blk.frozen ST4.out.res 0
  simp only [List.getElem?_cons_zero] at r0
  have E2 := Lib.hid (Blk.set_ ST4.out.res 0 (.slice none 0 0))
  have FB := Lib.hid (ST4.out.low.setCell (p := ⟨w.heap.size + 2, 0, none⟩) (by simp only; omega) (.slice none 0 0))
  go_wp2_with fail
  refine bodyPost_ret (results_cell_row_tmp rfl _ _ _ (w.heap.size + 2) 29 #[.slice none 0 0] (0, 0) _ _ rfl rfl E2.out Try.underlying29 (by kernel_rfl)) rfl ?_
  exact ⟨⟨_, _, rfl, rfl, Own.nil _ _ _⟩, FB.out⟩

set_option maxHeartbeats 4000000 in
set_option maxRecDepth 100000 in
theorem sDo_move_same (ao : Option Addr) (cap : Nat) (l : List Fl) (name text dst : ByteArray) (w : World) (hl : l.length ≤ 1048576) (hs : ∀ x ∈ l, x.1.size ≤ 1048576 ∧ x.2.1.size ≤ 1048576) (hr : RdF w ao l) (hg : DiskGood l) (hn : NameGood name) (ht : text.toList = []) (k : Nat) (xa xb : ByteArray) (xn : Int) (hx : l[k]? = some (xa, xb, xn)) (hp : posF l name = some k) (hk : ¬ xn < (xb.size : Int)) (hq : dst = name) :
    Calls Try.prog 52 #[.agg #[.slice ao l.length cap], .agg #[.int .i64 3, .string name, .string text, .string dst]] w fun e w' => GivesK2 w.heap.size [] (.bool false) e w' ∧ Below w.heap.size w w' := by
  have z1 : (dst.toList == name.toList) = true := by rw [hq]; exact beq_self_eq_true _
  clear hq
  have hst := DoSt.start w 29 67 (.slice ao l.length cap) (3, name, text, dst) _ rfl
  have R := Lib.hid (fun W hW => hr.below (C := w.heap.size) (w' := W) hW (Nat.le_refl _))
  have CD := sDiskOk_any (.agg #[.slice ao l.length cap]) l _ hl hs ⟨ao, cap, rfl, R.out _ hst.low⟩
  have ST0 := Lib.hid hst
  rw [decide_eq_true hg] at CD
  have C := Lib.hid CD
  have CN := fun wx => sFileName_any name wx
  rw [within_yes (by unfold NameGood at hn; omega)] at CN
  have HCN := Lib.hid CN
  clear CN
  clear hr hst CD
  have HG := Lib.hid hg
  clear hg
  go_enter Try.func52, Try.ntmps52
  go_wp2_with fail
  refine C.out.mono ?_
  rintro e w1 ⟨rfl, hb1⟩
  have ST1 := Lib.hid (ST0.out.below hb1)
  clear hb1 C ST0
  have c0 := Blk.cell ST1.out.box 0
  have k0 := Blk.cell ST1.out.act 0
  have k1 := Blk.cell ST1.out.act 1
  have k2 := Blk.cell ST1.out.act 2
  have k3 := Blk.cell ST1.out.act 3
  simp only [List.getElem?_cons_zero, List.getElem?_cons_succ] at c0 k0 k1 k2 k3
  go_wp2_with fail
  refine (HCN.out _).mono ?_
  rintro e w' ⟨rfl, rfl⟩
  have CA := sAt_any _ l name w1 hl ⟨ao, cap, rfl, R.out _ ST1.out.low⟩
  rw [posV_some hp] at CA
  have HCA := Lib.hid CA
  clear CA
  go_wp2_with fail
  refine HCA.out.mono ?_
  rintro e w2 ⟨rfl, hb2⟩
  have ST2 := Lib.hid (ST1.out.below hb2)
  clear hb2 HCA ST1
  clear c0 k0 k1 k2 k3
  have c0 := Blk.cell ST2.out.box 0
  have k0 := Blk.cell ST2.out.act 0
  have k1 := Blk.cell ST2.out.act 1
  have k2 := Blk.cell ST2.out.act 2
  have k3 := Blk.cell ST2.out.act 3
  simp only [List.getElem?_cons_zero, List.getElem?_cons_succ] at c0 k0 k1 k2 k3
  obtain ⟨b, o, rfl, p0, p1, p2⟩ := (R.out _ ST2.out.low).at_ k _ hx
  simp only at p0 p1 p2
  have hkl := (List.getElem?_eq_some_iff.1 hx).1
  have Hx := Lib.hid hx
  clear hx
  have i0 : (0 : Int) ≤ (k : Int) := Int.natCast_nonneg _
  have q0 : (w2.alloc (.cells #[.string name, .string ⟨#[]⟩, .int .i64 0] 49)).cell? ⟨b, o + k * 3, none⟩ = some (.string xa) := by rw [← p0]; exact ((Below.refl w2.heap.size w2).alloc (Nat.le_refl _) _).cell (World.block_lt_of_cell? _ _ p0)
  have q1 : (w2.alloc (.cells #[.string name, .string ⟨#[]⟩, .int .i64 0] 49)).cell? ⟨b, o + k * 3 + 1, none⟩ = some (.string xb) := by rw [← p1]; exact ((Below.refl w2.heap.size w2).alloc (Nat.le_refl _) _).cell (World.block_lt_of_cell? _ _ p1)
  have q2 : (w2.alloc (.cells #[.string name, .string ⟨#[]⟩, .int .i64 0] 49)).cell? ⟨b, o + k * 3 + 2, none⟩ = some (.int .i64 xn) := by rw [← p2]; exact ((Below.refl w2.heap.size w2).alloc (Nat.le_refl _) _).cell (World.block_lt_of_cell? _ _ p2)
  have c0' : (w2.alloc (.cells #[.string name, .string ⟨#[]⟩, .int .i64 0] 49)).cell? ⟨w.heap.size, 0, none⟩ = some (.slice (some ⟨b, o, none⟩) l.length cap) := by rw [← c0]; exact ((Below.refl w2.heap.size w2).alloc (Nat.le_refl _) _).cell (World.block_lt_of_cell? _ _ c0)
  go_upto_region 9 with fail
  have ST4 := Lib.hid ((ST2.out.alloc (.cells #[.string xa, .string xb, .int .i64 xn] 49)).alloc (.cells #[.slice none 0 0] 29))
  have hzz := alloc_size w2 (.cells #[.string xa, .string xb, .int .i64 xn] 49)
  have bf := (Blk.new w2 49 [.string xa, .string xb, .int .i64 xn] _ rfl).alloc (.cells #[.slice none 0 0] 29)
  have bo := Blk.new (w2.alloc (.cells #[.string xa, .string xb, .int .i64 xn] 49)) 29 [.slice none 0 0] _ rfl
  rw [hzz] at bo
  have l2 := ST2.out.size
  generalize (w2.alloc (.cells #[.string xa, .string xb, .int .i64 xn] 49)).alloc (.cells #[.slice none 0 0] 29) = W4 at *
  clear p0 p1 p2 q0 q1 q2 c0'
  clear c0 k0 k1 k2 k3
  clear hzz ST2
  have c0 := Blk.cell ST4.out.box 0
  have k0 := Blk.cell ST4.out.act 0
  have k1 := Blk.cell ST4.out.act 1
  have k2 := Blk.cell ST4.out.act 2
  have k3 := Blk.cell ST4.out.act 3
  simp only [List.getElem?_cons_zero, List.getElem?_cons_succ] at c0 k0 k1 k2 k3
  have f0 := Blk.cell bf 0
  have f1 := Blk.cell bf 1
  have f2 := Blk.cell bf 2
  have g1 := Blk.frozen bf 1
  have g2 := Blk.frozen bf 2
  have g0 := Blk.frozen bf 0
  have o0 := Blk.cell bo 0
  have o1 := Blk.frozen bo 0
  simp only [List.getElem?_cons_zero, List.getElem?_cons_succ] at f0 f1 f2 o0
  have BF := Lib.hid bf
  have BO := Lib.hid bo
  clear bf bo
  have r0 := Blk.cell ST4.out.res 0
  have r1 := Blk.frozen ST4.out.res 0
  simp only [List.getElem?_cons_zero] at r0
  have E2 := Lib.hid (Blk.set_ ST4.out.res 0 (.slice none 0 0))
  have FB := Lib.hid (ST4.out.low.setCell (p := ⟨w.heap.size + 2, 0, none⟩) (by simp only; omega) (.slice none 0 0))
  go_wp2_with fail
  refine bodyPost_ret (results_cell_row_tmp rfl _ _ _ (w.heap.size + 2) 29 #[.slice none 0 0] (0, 0) _ _ rfl rfl E2.out Try.underlying29 (by kernel_rfl)) rfl ?_
  exact ⟨⟨_, _, rfl, rfl, Own.nil _ _ _⟩, FB.out⟩

set_option maxHeartbeats 4000000 in
set_option maxRecDepth 100000 in
theorem sDo_move_name (ao : Option Addr) (cap : Nat) (l : List Fl) (name text dst : ByteArray) (w : World) (hl : l.length ≤ 1048576) (hs : ∀ x ∈ l, x.1.size ≤ 1048576 ∧ x.2.1.size ≤ 1048576) (hr : RdF w ao l) (hg : DiskGood l) (hn : NameGood name) (ht : text.toList = []) (k : Nat) (xa xb : ByteArray) (xn : Int) (hx : l[k]? = some (xa, xb, xn)) (hp : posF l name = some k) (hk : ¬ xn < (xb.size : Int)) (hq : ¬ dst = name) (hd : ¬ NameGood dst) :
    Calls Try.prog 52 #[.agg #[.slice ao l.length cap], .agg #[.int .i64 3, .string name, .string text, .string dst]] w fun e w' => GivesK2 w.heap.size [] (.bool false) e w' ∧ Below w.heap.size w w' := by
  have CN2 := fun wx => sFileName_any dst wx
  rw [within_not (by unfold NameGood at hd; omega)] at CN2
  have HCD := Lib.hid CN2
  clear CN2
  have z1 := name_ne hq
  have hst := DoSt.start w 29 67 (.slice ao l.length cap) (3, name, text, dst) _ rfl
  have R := Lib.hid (fun W hW => hr.below (C := w.heap.size) (w' := W) hW (Nat.le_refl _))
  have CD := sDiskOk_any (.agg #[.slice ao l.length cap]) l _ hl hs ⟨ao, cap, rfl, R.out _ hst.low⟩
  have ST0 := Lib.hid hst
  rw [decide_eq_true hg] at CD
  have C := Lib.hid CD
  have CN := fun wx => sFileName_any name wx
  rw [within_yes (by unfold NameGood at hn; omega)] at CN
  have HCN := Lib.hid CN
  clear CN
  clear hr hst CD
  have HG := Lib.hid hg
  clear hg
  go_enter Try.func52, Try.ntmps52
  go_wp2_with fail
  refine C.out.mono ?_
  rintro e w1 ⟨rfl, hb1⟩
  have ST1 := Lib.hid (ST0.out.below hb1)
  clear hb1 C ST0
  have c0 := Blk.cell ST1.out.box 0
  have k0 := Blk.cell ST1.out.act 0
  have k1 := Blk.cell ST1.out.act 1
  have k2 := Blk.cell ST1.out.act 2
  have k3 := Blk.cell ST1.out.act 3
  simp only [List.getElem?_cons_zero, List.getElem?_cons_succ] at c0 k0 k1 k2 k3
  go_wp2_with fail
  refine (HCN.out _).mono ?_
  rintro e w' ⟨rfl, rfl⟩
  have CA := sAt_any _ l name w1 hl ⟨ao, cap, rfl, R.out _ ST1.out.low⟩
  rw [posV_some hp] at CA
  have HCA := Lib.hid CA
  clear CA
  go_wp2_with fail
  refine HCA.out.mono ?_
  rintro e w2 ⟨rfl, hb2⟩
  have ST2 := Lib.hid (ST1.out.below hb2)
  clear hb2 HCA ST1
  clear c0 k0 k1 k2 k3
  have c0 := Blk.cell ST2.out.box 0
  have k0 := Blk.cell ST2.out.act 0
  have k1 := Blk.cell ST2.out.act 1
  have k2 := Blk.cell ST2.out.act 2
  have k3 := Blk.cell ST2.out.act 3
  simp only [List.getElem?_cons_zero, List.getElem?_cons_succ] at c0 k0 k1 k2 k3
  obtain ⟨b, o, rfl, p0, p1, p2⟩ := (R.out _ ST2.out.low).at_ k _ hx
  simp only at p0 p1 p2
  have hkl := (List.getElem?_eq_some_iff.1 hx).1
  have Hx := Lib.hid hx
  clear hx
  have i0 : (0 : Int) ≤ (k : Int) := Int.natCast_nonneg _
  have q0 : (w2.alloc (.cells #[.string name, .string ⟨#[]⟩, .int .i64 0] 49)).cell? ⟨b, o + k * 3, none⟩ = some (.string xa) := by rw [← p0]; exact ((Below.refl w2.heap.size w2).alloc (Nat.le_refl _) _).cell (World.block_lt_of_cell? _ _ p0)
  have q1 : (w2.alloc (.cells #[.string name, .string ⟨#[]⟩, .int .i64 0] 49)).cell? ⟨b, o + k * 3 + 1, none⟩ = some (.string xb) := by rw [← p1]; exact ((Below.refl w2.heap.size w2).alloc (Nat.le_refl _) _).cell (World.block_lt_of_cell? _ _ p1)
  have q2 : (w2.alloc (.cells #[.string name, .string ⟨#[]⟩, .int .i64 0] 49)).cell? ⟨b, o + k * 3 + 2, none⟩ = some (.int .i64 xn) := by rw [← p2]; exact ((Below.refl w2.heap.size w2).alloc (Nat.le_refl _) _).cell (World.block_lt_of_cell? _ _ p2)
  have c0' : (w2.alloc (.cells #[.string name, .string ⟨#[]⟩, .int .i64 0] 49)).cell? ⟨w.heap.size, 0, none⟩ = some (.slice (some ⟨b, o, none⟩) l.length cap) := by rw [← c0]; exact ((Below.refl w2.heap.size w2).alloc (Nat.le_refl _) _).cell (World.block_lt_of_cell? _ _ c0)
  go_upto_region 9 with fail
  have ST4 := Lib.hid ((ST2.out.alloc (.cells #[.string xa, .string xb, .int .i64 xn] 49)).alloc (.cells #[.slice none 0 0] 29))
  have hzz := alloc_size w2 (.cells #[.string xa, .string xb, .int .i64 xn] 49)
  have bf := (Blk.new w2 49 [.string xa, .string xb, .int .i64 xn] _ rfl).alloc (.cells #[.slice none 0 0] 29)
  have bo := Blk.new (w2.alloc (.cells #[.string xa, .string xb, .int .i64 xn] 49)) 29 [.slice none 0 0] _ rfl
  rw [hzz] at bo
  have l2 := ST2.out.size
  generalize (w2.alloc (.cells #[.string xa, .string xb, .int .i64 xn] 49)).alloc (.cells #[.slice none 0 0] 29) = W4 at *
  clear p0 p1 p2 q0 q1 q2 c0'
  clear c0 k0 k1 k2 k3
  clear hzz ST2
  have c0 := Blk.cell ST4.out.box 0
  have k0 := Blk.cell ST4.out.act 0
  have k1 := Blk.cell ST4.out.act 1
  have k2 := Blk.cell ST4.out.act 2
  have k3 := Blk.cell ST4.out.act 3
  simp only [List.getElem?_cons_zero, List.getElem?_cons_succ] at c0 k0 k1 k2 k3
  have f0 := Blk.cell bf 0
  have f1 := Blk.cell bf 1
  have f2 := Blk.cell bf 2
  have g1 := Blk.frozen bf 1
  have g2 := Blk.frozen bf 2
  have g0 := Blk.frozen bf 0
  have o0 := Blk.cell bo 0
  have o1 := Blk.frozen bo 0
  simp only [List.getElem?_cons_zero, List.getElem?_cons_succ] at f0 f1 f2 o0
  have BF := Lib.hid bf
  have BO := Lib.hid bo
  clear bf bo
  go_wp2_with fail
  refine (HCD.out _).mono ?_
  rintro e w' ⟨rfl, rfl⟩
  have r0 := Blk.cell ST4.out.res 0
  have r1 := Blk.frozen ST4.out.res 0
  simp only [List.getElem?_cons_zero] at r0
  have E2 := Lib.hid (Blk.set_ ST4.out.res 0 (.slice none 0 0))
  have FB := Lib.hid (ST4.out.low.setCell (p := ⟨w.heap.size + 2, 0, none⟩) (by simp only; omega) (.slice none 0 0))
  go_wp2_with fail
  refine bodyPost_ret (results_cell_row_tmp rfl _ _ _ (w.heap.size + 2) 29 #[.slice none 0 0] (0, 0) _ _ rfl rfl E2.out Try.underlying29 (by kernel_rfl)) rfl ?_
  exact ⟨⟨_, _, rfl, rfl, Own.nil _ _ _⟩, FB.out⟩

set_option maxHeartbeats 4000000 in
set_option maxRecDepth 100000 in
theorem sDo_move (ao : Option Addr) (cap : Nat) (l : List Fl) (name text dst : ByteArray) (w : World) (hl : l.length ≤ 1048576) (hs : ∀ x ∈ l, x.1.size ≤ 1048576 ∧ x.2.1.size ≤ 1048576) (hr : RdF w ao l) (hg : DiskGood l) (hn : NameGood name) (ht : text.toList = []) (k : Nat) (xa xb : ByteArray) (xn : Int) (hx : l[k]? = some (xa, xb, xn)) (hp : posF l name = some k) (hk : ¬ xn < (xb.size : Int)) (hq : ¬ dst = name) (hd : NameGood dst) :
    Calls Try.prog 52 #[.agg #[.slice ao l.length cap], .agg #[.int .i64 3, .string name, .string text, .string dst]] w fun e w' => GivesK2 w.heap.size (lastV (putL (outL l name) (dst, xb, xn))).1 (.bool (lastV (putL (outL l name) (dst, xb, xn))).2) e w' ∧ Below w.heap.size w w' := by
  obtain ⟨m1, m2, m3, m4⟩ := fl_bound hx hg
  have hrl : (putL (outL l name) (dst, xb, xn)).length ≤ 1048576 := put_len _ (Nat.le_trans (List.length_filter_le _ _) hg.1)
  have hrs : ∀ x ∈ putL (outL l name) (dst, xb, xn), x.1.size ≤ 2097152 ∧ x.2.1.size ≤ 2097152 := put_size (fun x hx => ⟨by have := (hs x (List.mem_filter.1 hx).1).1; omega, by have := (hs x (List.mem_filter.1 hx).1).2; omega⟩) (by unfold NameGood at hd; simp only; omega) (by simp only; omega)
  have hlo : (outL l name).length ≤ 1048576 := Nat.le_trans (List.length_filter_le _ _) hl
  have CN2 := fun wx => sFileName_any dst wx
  rw [within_yes (by unfold NameGood at hd; omega)] at CN2
  have HCD := Lib.hid CN2
  clear CN2
  have z1 := name_ne hq
  have hst := DoSt.start w 29 67 (.slice ao l.length cap) (3, name, text, dst) _ rfl
  have R := Lib.hid (fun W hW => hr.below (C := w.heap.size) (w' := W) hW (Nat.le_refl _))
  have CD := sDiskOk_any (.agg #[.slice ao l.length cap]) l _ hl hs ⟨ao, cap, rfl, R.out _ hst.low⟩
  have ST0 := Lib.hid hst
  rw [decide_eq_true hg] at CD
  have C := Lib.hid CD
  have CN := fun wx => sFileName_any name wx
  rw [within_yes (by unfold NameGood at hn; omega)] at CN
  have HCN := Lib.hid CN
  clear CN
  clear hr hst CD
  have HG := Lib.hid hg
  clear hg
  go_enter Try.func52, Try.ntmps52
  go_wp2_with fail
  refine C.out.mono ?_
  rintro e w1 ⟨rfl, hb1⟩
  have ST1 := Lib.hid (ST0.out.below hb1)
  clear hb1 C ST0
  have c0 := Blk.cell ST1.out.box 0
  have k0 := Blk.cell ST1.out.act 0
  have k1 := Blk.cell ST1.out.act 1
  have k2 := Blk.cell ST1.out.act 2
  have k3 := Blk.cell ST1.out.act 3
  simp only [List.getElem?_cons_zero, List.getElem?_cons_succ] at c0 k0 k1 k2 k3
  go_wp2_with fail
  refine (HCN.out _).mono ?_
  rintro e w' ⟨rfl, rfl⟩
  have CA := sAt_any _ l name w1 hl ⟨ao, cap, rfl, R.out _ ST1.out.low⟩
  rw [posV_some hp] at CA
  have HCA := Lib.hid CA
  clear CA
  go_wp2_with fail
  refine HCA.out.mono ?_
  rintro e w2 ⟨rfl, hb2⟩
  have ST2 := Lib.hid (ST1.out.below hb2)
  clear hb2 HCA ST1
  clear c0 k0 k1 k2 k3
  have c0 := Blk.cell ST2.out.box 0
  have k0 := Blk.cell ST2.out.act 0
  have k1 := Blk.cell ST2.out.act 1
  have k2 := Blk.cell ST2.out.act 2
  have k3 := Blk.cell ST2.out.act 3
  simp only [List.getElem?_cons_zero, List.getElem?_cons_succ] at c0 k0 k1 k2 k3
  obtain ⟨b, o, rfl, p0, p1, p2⟩ := (R.out _ ST2.out.low).at_ k _ hx
  simp only at p0 p1 p2
  have hkl := (List.getElem?_eq_some_iff.1 hx).1
  have Hx := Lib.hid hx
  clear hx
  have i0 : (0 : Int) ≤ (k : Int) := Int.natCast_nonneg _
  have q0 : (w2.alloc (.cells #[.string name, .string ⟨#[]⟩, .int .i64 0] 49)).cell? ⟨b, o + k * 3, none⟩ = some (.string xa) := by rw [← p0]; exact ((Below.refl w2.heap.size w2).alloc (Nat.le_refl _) _).cell (World.block_lt_of_cell? _ _ p0)
  have q1 : (w2.alloc (.cells #[.string name, .string ⟨#[]⟩, .int .i64 0] 49)).cell? ⟨b, o + k * 3 + 1, none⟩ = some (.string xb) := by rw [← p1]; exact ((Below.refl w2.heap.size w2).alloc (Nat.le_refl _) _).cell (World.block_lt_of_cell? _ _ p1)
  have q2 : (w2.alloc (.cells #[.string name, .string ⟨#[]⟩, .int .i64 0] 49)).cell? ⟨b, o + k * 3 + 2, none⟩ = some (.int .i64 xn) := by rw [← p2]; exact ((Below.refl w2.heap.size w2).alloc (Nat.le_refl _) _).cell (World.block_lt_of_cell? _ _ p2)
  have c0' : (w2.alloc (.cells #[.string name, .string ⟨#[]⟩, .int .i64 0] 49)).cell? ⟨w.heap.size, 0, none⟩ = some (.slice (some ⟨b, o, none⟩) l.length cap) := by rw [← c0]; exact ((Below.refl w2.heap.size w2).alloc (Nat.le_refl _) _).cell (World.block_lt_of_cell? _ _ c0)
  go_upto_region 9 with fail
  have ST4 := Lib.hid ((ST2.out.alloc (.cells #[.string xa, .string xb, .int .i64 xn] 49)).alloc (.cells #[.slice none 0 0] 29))
  have hzz := alloc_size w2 (.cells #[.string xa, .string xb, .int .i64 xn] 49)
  have bf := (Blk.new w2 49 [.string xa, .string xb, .int .i64 xn] _ rfl).alloc (.cells #[.slice none 0 0] 29)
  have bo := Blk.new (w2.alloc (.cells #[.string xa, .string xb, .int .i64 xn] 49)) 29 [.slice none 0 0] _ rfl
  rw [hzz] at bo
  have l2 := ST2.out.size
  generalize (w2.alloc (.cells #[.string xa, .string xb, .int .i64 xn] 49)).alloc (.cells #[.slice none 0 0] 29) = W4 at *
  clear p0 p1 p2 q0 q1 q2 c0'
  clear c0 k0 k1 k2 k3
  clear hzz ST2
  have c0 := Blk.cell ST4.out.box 0
  have k0 := Blk.cell ST4.out.act 0
  have k1 := Blk.cell ST4.out.act 1
  have k2 := Blk.cell ST4.out.act 2
  have k3 := Blk.cell ST4.out.act 3
  simp only [List.getElem?_cons_zero, List.getElem?_cons_succ] at c0 k0 k1 k2 k3
  have f0 := Blk.cell bf 0
  have f1 := Blk.cell bf 1
  have f2 := Blk.cell bf 2
  have g1 := Blk.frozen bf 1
  have g2 := Blk.frozen bf 2
  have g0 := Blk.frozen bf 0
  have o0 := Blk.cell bo 0
  have o1 := Blk.frozen bo 0
  simp only [List.getElem?_cons_zero, List.getElem?_cons_succ] at f0 f1 f2 o0
  have BF := Lib.hid bf
  have BO := Lib.hid bo
  clear bf bo
  have CW := Lib.hid (fun W (h : Below w.heap.size w W) => sWithout_any (.agg #[.slice (some ⟨b, o, none⟩) l.length cap]) l name W hl ⟨_, _, rfl, R.out _ h⟩)
  have CP := Lib.hid (fun W v5 (h : RdK W v5 (outL l name)) => sPut_any v5 (outL l name) (dst, xb, xn) W hlo h)
  go_wp2_with fail
  refine (HCD.out _).mono ?_
  rintro e w' ⟨rfl, rfl⟩
  go_upto_region 21 with fail
  have ST5 := Lib.hid (ST4.out.set_ (p := ⟨w2.heap.size, 0, none⟩) l2 (.string dst))
  have bf5 := Blk.set_ BF.out 0 (.string dst)
  have bo5 := Blk.far BO.out (p := ⟨w2.heap.size, 0, none⟩) (by simp only; omega) (.string dst)
  simp only [List.set_cons_zero] at bf5
  generalize W4.setCell ⟨w2.heap.size, 0, none⟩ (.string dst) = W5 at *
  clear c0 k0 k1 k2 k3
  clear f0 f1 f2 g0 g1 g2 o0 o1 ST4 BF BO
  have c0 := Blk.cell ST5.out.box 0
  have k0 := Blk.cell ST5.out.act 0
  have k1 := Blk.cell ST5.out.act 1
  have k2 := Blk.cell ST5.out.act 2
  have k3 := Blk.cell ST5.out.act 3
  simp only [List.getElem?_cons_zero, List.getElem?_cons_succ] at c0 k0 k1 k2 k3
  have f0 := Blk.cell bf5 0
  have f1 := Blk.cell bf5 1
  have f2 := Blk.cell bf5 2
  simp only [List.getElem?_cons_zero, List.getElem?_cons_succ] at f0 f1 f2
  have BF := Lib.hid bf5
  have BO := Lib.hid bo5
  clear bf5 bo5
  have HK : Hid (∀ W, Below W5.heap.size W5 W → W.cell? ⟨w.heap.size, 0, none⟩ = some (.slice (some ⟨b, o, none⟩) l.length cap) ∧ W.cell? ⟨w.heap.size + 1, 1, none⟩ = some (.string name) ∧ W.cell? ⟨w2.heap.size, 0, none⟩ = some (.string dst) ∧ W.cell? ⟨w2.heap.size, 1, none⟩ = some (.string xb) ∧ W.cell? ⟨w2.heap.size, 2, none⟩ = some (.int .i64 xn)) := Lib.hid fun W hW => ⟨(Blk.below ST5.out.box hW ST5.out.box.lt).cell 0, (Blk.below ST5.out.act hW ST5.out.act.lt).cell 1, (Blk.below BF.out hW (Blk.lt BF.out)).cell 0, (Blk.below BF.out hW (Blk.lt BF.out)).cell 1, (Blk.below BF.out hW (Blk.lt BF.out)).cell 2⟩
  have HS : Hid (∀ W u, Below W5.heap.size W5 W → (W.setCell ⟨w2.heap.size + 1, 0, none⟩ u).cell? ⟨w.heap.size, 0, none⟩ = some (.slice (some ⟨b, o, none⟩) l.length cap) ∧ (W.setCell ⟨w2.heap.size + 1, 0, none⟩ u).cell? ⟨w.heap.size + 1, 1, none⟩ = some (.string name) ∧ (W.setCell ⟨w2.heap.size + 1, 0, none⟩ u).cell? ⟨w2.heap.size, 0, none⟩ = some (.string dst) ∧ (W.setCell ⟨w2.heap.size + 1, 0, none⟩ u).cell? ⟨w2.heap.size, 1, none⟩ = some (.string xb) ∧ (W.setCell ⟨w2.heap.size + 1, 0, none⟩ u).cell? ⟨w2.heap.size, 2, none⟩ = some (.int .i64 xn)) := Lib.hid fun W u hW => ⟨(Blk.far (Blk.below ST5.out.box hW ST5.out.box.lt) (p := ⟨w2.heap.size + 1, 0, none⟩) (by simp only; omega) u).cell 0, (Blk.far (Blk.below ST5.out.act hW ST5.out.act.lt) (p := ⟨w2.heap.size + 1, 0, none⟩) (by simp only; omega) u).cell 1, (Blk.far (Blk.below BF.out hW (Blk.lt BF.out)) (p := ⟨w2.heap.size + 1, 0, none⟩) (by simp only; omega) u).cell 0, (Blk.far (Blk.below BF.out hW (Blk.lt BF.out)) (p := ⟨w2.heap.size + 1, 0, none⟩) (by simp only; omega) u).cell 1, (Blk.far (Blk.below BF.out hW (Blk.lt BF.out)) (p := ⟨w2.heap.size + 1, 0, none⟩) (by simp only; omega) u).cell 2⟩
  have HO2 : Hid (∀ W, Below W5.heap.size W5 W → W.cell? ⟨w2.heap.size + 1, 0, none⟩ = some (.slice none 0 0) ∧ W.frozen? ⟨w2.heap.size + 1, 0, none⟩ = false) := Lib.hid fun W hW => ⟨(Blk.below BO.out hW (Blk.lt BO.out)).cell 0, (Blk.below BO.out hW (Blk.lt BO.out)).frozen 0⟩
  clear c0 k0 k1 k2 k3
  clear f0 f1 f2
  obtain ⟨c0, k1, f0, f1, f2⟩ := HK.out _ (Below.refl _ _)
  have L5 := ST5.out.size
  go_wp2_with fail
  go_region_held3 (fun W => W.cell? ⟨w.heap.size, 0, none⟩ = some (.slice (some ⟨b, o, none⟩) l.length cap) ∧ W.cell? ⟨w.heap.size + 1, 1, none⟩ = some (.string name) ∧ W.cell? ⟨w2.heap.size, 0, none⟩ = some (.string dst) ∧ W.cell? ⟨w2.heap.size, 1, none⟩ = some (.string xb) ∧ W.cell? ⟨w2.heap.size, 2, none⟩ = some (.int .i64 xn))
    (first | exact HK.out _ hk2 | exact HS.out _ _ hk2 | exact HK.out _ hk1 | go_keep)
    (first
      | (go_at_call 88; refine (CW.out _ ?_).mono ?_; (first | exact bDrewN ST5.out.low 1 | exact ST5.out.low); rintro e wa ⟨⟨va, ua, rfl, hoa⟩, hba⟩; have hk1 : Below W5.heap.size W5 wa := ⟨hba.os, hba.tape, hba.output, hba.size, hba.block⟩; have QA := Lib.hid (OwnK.rd hoa); clear hoa)
      | (go_at_call 77; refine (CP.out _ _ ?_).mono ?_; (exact QA.out); rintro e wb ⟨⟨vb, ub, rfl, hob⟩, hbb⟩; have hkb : Below wa.heap.size wa wb := ⟨hbb.os, hbb.tape, hbb.output, hbb.size, hbb.block⟩; have hk2 := hk1.trans (hkb.mono hk1.size); obtain ⟨rfl, hob⟩ := hob; obtain ⟨qu, cu, rfl⟩ := Own.shape hob; obtain ⟨y0, y1⟩ := HO2.out _ hk2))
  have hb5 := hk2
  have ho := Own.mono hob hk1.size
  clear hk1 hk2 hkb hba hbb QA hob y0 y1 c0 k1 f0 f1 f2 L5
  have L5 := ST5.out.size
  have bo5 := Blk.below BO.out hb5 (by have := Blk.lt (BO.out); exact this)
  have o5 := Blk.cell bo5 0
  have o6 := Blk.frozen bo5 0
  simp only [List.getElem?_cons_zero] at o5
  have hlo := Blk.lt (BO.out)
  have ST6 := Lib.hid ((ST5.out.below hb5).set_ (p := ⟨w2.heap.size + 1, 0, none⟩) (by simp only; omega) (.slice qu (putL (outL l name) (dst, xb, xn)).length cu))
  have BO7 := Lib.hid (Blk.set_ bo5 0 (.slice qu (putL (outL l name) (dst, xb, xn)).length cu))
  have OU := Lib.hid ((Own.setCell (a := ⟨w2.heap.size + 1, 0, none⟩) ho (by simp only; omega) (.slice qu (putL (outL l name) (dst, xb, xn)).length cu)).mono (show w.heap.size + 3 ≤ _ by omega))
  clear hb5 ho bo5 hlo L5
  have CF := fun wx h => sDiskOk_big (.agg #[.slice qu (putL (outL l name) (dst, xb, xn)).length cu]) (putL (outL l name) (dst, xb, xn)) wx hrl hrs h
  by_cases hgr : DiskGood (putL (outL l name) (dst, xb, xn))
  · have V := Lib.hid (lastR_yes hgr)
    rw [decide_eq_true hgr] at CF
    have HCF := Lib.hid CF
    clear CF hgr
    go_wp2_with fail
    refine (HCF.out _ ⟨_, _, rfl, (OwnF.rdAt OU.out)⟩).mono ?_
    rintro e w7 ⟨rfl, hb7⟩
    have ST7 := Lib.hid (ST6.out.below hb7)
    have r0 := Blk.cell ST7.out.res 0
    have r1 := Blk.frozen ST7.out.res 0
    have bo7 := Blk.below BO7.out hb7 BO7.out.lt
    have o7 := Blk.cell bo7 0
    simp only [List.getElem?_cons_zero] at r0 o7
    have OU7 := Lib.hid (Own.below OU.out hb7 (Nat.le_refl _))
    clear hb7 bo7
    have E2 := Lib.hid (Blk.set_ ST7.out.res 0 (.slice qu (putL (outL l name) (dst, xb, xn)).length cu))
    have FB := Lib.hid (ST7.out.low.setCell (p := ⟨w.heap.size + 2, 0, none⟩) (by simp only; omega) (.slice qu (putL (outL l name) (dst, xb, xn)).length cu))
    have FO := Lib.hid ((Own.setCell (a := ⟨w.heap.size + 2, 0, none⟩) OU7.out (by simp only; omega) (.slice qu (putL (outL l name) (dst, xb, xn)).length cu)).mono (show w.heap.size ≤ w.heap.size + 3 by omega))
    go_wp2_with fail
    refine bodyPost_ret (results_cell_row_tmp rfl _ _ _ (w.heap.size + 2) 29 #[.slice qu (putL (outL l name) (dst, xb, xn)).length cu] (0, 0) _ _ rfl rfl E2.out Try.underlying29 (by kernel_rfl)) rfl ?_
    rw [V.out]
    exact ⟨⟨_, _, rfl, rfl, FO.out⟩, FB.out⟩
  · have V := Lib.hid (lastR_no hgr)
    rw [decide_eq_false hgr] at CF
    have HCF := Lib.hid CF
    clear CF hgr
    go_wp2_with fail
    refine (HCF.out _ ⟨_, _, rfl, (OwnF.rdAt OU.out)⟩).mono ?_
    rintro e w7 ⟨rfl, hb7⟩
    have ST7 := Lib.hid (ST6.out.below hb7)
    have r0 := Blk.cell ST7.out.res 0
    have r1 := Blk.frozen ST7.out.res 0
    simp only [List.getElem?_cons_zero] at r0
    clear hb7
    have E2 := Lib.hid (Blk.set_ ST7.out.res 0 (.slice none 0 0))
    have FB := Lib.hid (ST7.out.low.setCell (p := ⟨w.heap.size + 2, 0, none⟩) (by simp only; omega) (.slice none 0 0))
    go_wp2_with fail
    refine bodyPost_ret (results_cell_row_tmp rfl _ _ _ (w.heap.size + 2) 29 #[.slice none 0 0] (0, 0) _ _ rfl rfl E2.out Try.underlying29 (by kernel_rfl)) rfl ?_
    rw [V.out]
    exact ⟨⟨_, _, rfl, rfl, Own.nil _ _ _⟩, FB.out⟩
end Go.Proofs.Ytdecehecjlbbiaa

/-! The reference's DoAct, told as a whole. -/
namespace Go.Proofs.Ytdecehecjlbbiaa
open Go.RowKit

theorem doV_last {l r : List Fl} {a : Ac} (h : DiskGood l) (ha : ActGood a) (hr : doTo l a = some r) : doV l a = lastV r := by
  by_cases hg : DiskGood r
  · rw [doV_some ⟨h, ha⟩ hr hg, lastR_yes hg]
  · rw [doV_over ⟨h, ha⟩ hr hg, lastR_no hg]
theorem bytes_empty {s : ByteArray} (h : s.data.toList = []) : s.toList = [] := by rw [ByteArray.toList_eq]; exact h

theorem sDoAct_any (v : Value) (l : List Fl) (a : Ac) (w : World) (hl : l.length ≤ 1048576) (hs : ∀ x ∈ l, x.1.size ≤ 1048576 ∧ x.2.1.size ≤ 1048576) (hat : a.2.2.1.size ≤ 1048576) (h : RdK w v l) :
    Calls Try.prog 52 #[v, .agg #[.int .i64 a.1, .string a.2.1, .string a.2.2.1, .string a.2.2.2]] w fun e w' => GivesK2 w.heap.size (doV l a).1 (.bool (doV l a).2) e w' ∧ Below w.heap.size w w' := by
  obtain ⟨ao, cap, rfl, hr⟩ := h
  obtain ⟨k, n, t, d⟩ := a
  simp only at hat ⊢
  by_cases hg : DiskGood l
  · by_cases ha : ActGood (k, n, t, d)
    · obtain ⟨hn, hd, ht⟩ := id ha
      simp only at hn hd ht
      cases hp : posF l n with
      | none =>
        by_cases h1 : k = 1
        · subst h1
          have hdo : doTo l (1, n, t, d) = some (putL l (n, (⟨#[]⟩ : ByteArray) ++ t, 0)) := by rw [doTo_add rfl]; simp only; rw [fileOf_none hp]
          rw [doV_last hg ha hdo]
          exact sDo_add_new ao cap l n t d w hl hs hr hg hn hat (bytes_empty (hd (by decide))) hp
        · rw [doV_none (doTo_none (a := (k, n, t, d)) h1 hp)]
          by_cases h3 : k = 3
          · subst h3
            exact sDo_none3 ao cap l n t d w hl hs hr hg hn (bytes_empty (ht (by decide))) hp
          · exact sDo_none ao cap l k n t d w hl hs hr hg hn h1 h3 (bytes_empty (hd h3)) (bytes_empty (ht h1)) hp
      | some j =>
        obtain ⟨⟨xa, xb, xn⟩, hx, hxn⟩ := posF_some hp
        simp only at hxn
        have hf := fileOf_some hp hx
        by_cases h1 : k = 1
        · subst h1
          have hdo : doTo l (1, n, t, d) = some (putL l (xa, xb ++ t, xn)) := by rw [doTo_add rfl]; simp only; rw [hf, hxn]
          rw [doV_last hg ha hdo]
          exact sDo_add_old ao cap l n t d w hl hs hr hg hn hat (bytes_empty (hd (by decide))) j xa xb xn hx hp
        · have hte := bytes_empty (ht h1)
          by_cases h2 : k = 2
          · subst h2
            have hdo : doTo l (2, n, t, d) = some (putL l (xa, xb, (xb.size : Int))) := by rw [doTo_keep (a := (2, n, t, d)) rfl hp]; simp only; rw [hf, hxn]
            rw [doV_last hg ha hdo]
            exact sDo_keep ao cap l n t d w hl hs hr hg hn (bytes_empty (hd (by decide))) hte j xa xb xn hx hp
          · by_cases h3 : k = 3
            · subst h3
              by_cases hk : xn < (xb.size : Int)
              · rw [doV_none (doTo_stay (a := (3, n, t, d)) rfl (.inl (by simp only; rw [hf]; exact hk)))]
                exact sDo_move_unkept ao cap l n t d w hl hs hr hg hn hte j xa xb xn hx hp hk
              · by_cases hq : d = n
                · rw [doV_none (doTo_stay (a := (3, n, t, d)) rfl (.inr (.inl hq)))]
                  exact sDo_move_same ao cap l n t d w hl hs hr hg hn hte j xa xb xn hx hp hk hq
                · by_cases hdn : NameGood d
                  · have hdo : doTo l (3, n, t, d) = some (putL (outL l n) (d, xb, xn)) := by
                      rw [doTo_move (a := (3, n, t, d)) rfl hp (by simp only; rw [hf]; rintro (g | g | g); exact hk g; exact hq g; exact g hdn)]
                      simp only; rw [hf]
                    rw [doV_last hg ha hdo]
                    exact sDo_move ao cap l n t d w hl hs hr hg hn hte j xa xb xn hx hp hk hq hdn
                  · rw [doV_none (doTo_stay (a := (3, n, t, d)) rfl (.inr (.inr hdn)))]
                    exact sDo_move_name ao cap l n t d w hl hs hr hg hn hte j xa xb xn hx hp hk hq hdn
            · have hde := bytes_empty (hd h3)
              by_cases h4 : k = 4
              · subst h4
                rw [doV_last hg ha (doTo_drop (a := (4, n, t, d)) rfl hp)]
                exact sDo_drop ao cap l n t d w hl hs hr hg hn hde hte j xa xb xn hx hp
              · rw [doV_none (doTo_other (a := (k, n, t, d)) (by simp only; omega))]
                exact sDo_other ao cap l k n t d w hl hs hr hg hn h1 h2 h3 h4 hde hte j xa xb xn hx hp
    · rw [doV_bad (fun h2 => ha h2.2)]
      by_cases hn : NameGood n
      · by_cases hd : k ≠ 3 ∧ d.data.toList ≠ []
        · exact sDo_to ao cap l k n t d w hl hs hr hg hn hd.1 hd.2
        · have ht : k ≠ 1 ∧ t.data.toList ≠ [] := by
            by_cases h1 : k = 1
            · exact absurd ⟨hn, fun h3 => Classical.byContradiction fun h4 => hd ⟨h3, h4⟩, fun h2 => absurd h1 h2⟩ ha
            · refine ⟨h1, fun h4 => ha ⟨hn, fun h3 => Classical.byContradiction fun h5 => hd ⟨h3, h5⟩, fun _ => h4⟩⟩
          by_cases h3 : k = 3
          · subst h3
            exact sDo_text3 ao cap l n t d w hl hs hr hg hn ht.2
          · exact sDo_text ao cap l k n t d w hl hs hr hg hn ht.1 h3 (bytes_empty (Classical.byContradiction fun h5 => hd ⟨h3, h5⟩)) ht.2
      · exact sDo_name ao cap l k n t d w hl hs hr hg hn
  · rw [doV_bad (fun h2 => hg h2.1)]
    exact sDo_bad ao cap l k n t d w hl hs hr hg

end Go.Proofs.Ytdecehecjlbbiaa

