/-
  The walk of a power failure, the reference's side.
-/
import Derived.Test.YtdecehecjlbbiaaJDisk3
namespace Go.Proofs.Ytdecehecjlbbiaa
open Go.RowKit

/-- 'append(b, x, y ..)' onto a row of the call's own, at a step of a region that draws. -/
theorem step_push_cells {P : Program} (w W : World) {ops : Array Oper} {o : Oper} {a : Act} {K : Act → World → Prop} {Q : Exit → Act → World → Prop} {E : Prop}
    (hg : o.guard = none) (s xo : Operand) (t : TypeId) (hop : o.op = Op.call { callee := Callee.builtin Builtin.append, args := #[s, xo], argTypes := #[t, t] })
    (e : TypeId) (ht : P.underlying t = some (.slice e)) (z : Value) (size bytes : Nat) (hzs : z.cells.size = size) (hinfo : (P.info? e).map (fun i => (i.zero, i.size, i.bytes)) = some (some z, size, bytes))
    (B : Nat) (v : Value) (n : Nat) (cs : List Value) (hs : a.eval s = v) (hown : Own w B size v n cs) (xs news : List Value) (hx : xs = news) (h1 : ∀ u ∈ news, u.oneCell' = true) (m c : Nat) (hm : news.length = m * size)
    (H : Nat) (hxo : a.eval xo = .slice (some ⟨H, 0, none⟩) m c) (hH : w.heap.size = H) (hb : n + m ≤ 1099511627776) (hbb : bytes ≤ 128) (hB : B ≤ w.heap.size) (hW : W = w.alloc (.cells xs.toArray e))
    (hK : ∀ v' w', Own w' B size v' (n + m) (cs ++ news) → w.grownBy w' v.ownBlock → Below B w w' → K (a.put o.dst v') w') :
    if Region.wanted o (yielded ops a.tmps) = true then Oper.wp P o a W K Q else E := by
  have hw : Region.wanted o (yielded ops a.tmps) = true := by simp [Region.wanted, hg]
  rw [if_pos hw]
  subst hW
  subst hH
  have hsz : (w.alloc (.cells xs.toArray e)).heap.size = w.heap.size + 1 := by simp
  have hbytes : (n + m) * bytes ≤ 140737488355328 := Nat.le_trans (Nat.mul_le_mul hb hbb) (by decide)
  refine wp_append_Own (P := P) _ s xo t t hop B e _ size bytes ht hinfo hzs v n cs hs (Own.alloc hown _) _ hxo m news (src_cells ht w c m news xs hm hx h1) (by unfold maxLen; omega) hbytes (by omega) ?_
  intro v' w' h1 h2 _
  have hg' : w.grownBy w' v.ownBlock := ⟨h2.os, h2.tape, h2.output, by have := h2.size; omega, fun k hk hne => (h2.block k (by omega) hne).trans (Below.heap_alloc w _ k hk)⟩
  exact hK v' w' h1 hg' ((Below.refl B w).grown hg' hB (fun k hk => (hown.block k hk).1))

set_option maxHeartbeats 8000000 in
set_option maxRecDepth 100000 in
theorem sLose_any (v : Value) (l : List Fl) (aq : Option Addr) (cq : Nat) (q : List Int) (w : World) (hl : l.length ≤ 1048576) (hs : ∀ x ∈ l, x.1.size ≤ 1048576 ∧ x.2.1.size ≤ 1048576) (h : RdK w v l) (hq : RdI w aq q) :
    Calls Try.prog 24 #[v, .slice aq q.length cq] w fun e w' => GivesK2 w.heap.size (loseV l q).1 (.bool (loseV l q).2) e w' ∧ Below w.heap.size w w' := by
  obtain ⟨ao, cap, rfl, hr⟩ := h
  have hz1 := alloc_size w (.cells #[.slice ao l.length cap] 29)
  have hz2 := alloc_size (w.alloc (.cells #[.slice ao l.length cap] 29)) (.cells #[.slice none 0 0] 29)
  have hB := ((Below.refl w.heap.size w).alloc (Nat.le_refl _) (.cells #[.slice ao l.length cap] 29)).alloc (by omega) (.cells #[.slice none 0 0] 29)
  have b1 := (Blk.new w 29 [.slice ao l.length cap] _ rfl).alloc (.cells #[.slice none 0 0] 29)
  have b2 := Blk.new (w.alloc (.cells #[.slice ao l.length cap] 29)) 29 [.slice none 0 0] _ rfl
  rw [hz1] at b2
  have hz : ((w.alloc (.cells #[.slice ao l.length cap] 29)).alloc (.cells #[.slice none 0 0] 29)).heap.size = w.heap.size + 2 := by omega
  have CD := sDiskOk_any (.agg #[.slice ao l.length cap]) l _ hl hs ⟨ao, cap, rfl, hr.below hB (Nat.le_refl _)⟩
  have R := Lib.hid (fun W hW => (hr.below hB (Nat.le_refl _)).below (C := w.heap.size + 2) (w' := W) hW (by rw [hz]; exact Nat.le_refl _))
  have RQ := Lib.hid (fun W hW => (hq.below hB (Nat.le_refl _)).below (C := w.heap.size + 2) (w' := W) hW (by rw [hz]; exact Nat.le_refl _))
  have HB := Lib.hid hB
  have HZ := Lib.hid hz
  have B1 := Lib.hid b1
  have B2 := Lib.hid b2
  have HS := Lib.hid hs
  clear hr hq hz1 hz2 hB hz b1 b2 hs
  by_cases hg : DiskGood l
  · rw [decide_eq_true hg] at CD
    have C := Lib.hid CD
    have HG := Lib.hid hg
    have HV := Lib.hid (loseV_yes (q := q) hg)
    have hl30 := hg.1
    clear CD hg
    rw [HV.out]
    go_enter Try.func24, Try.ntmps24
    go_wp2_with fail
    refine C.out.mono ?_
    rintro e w1 ⟨rfl, hb1⟩
    rw [HZ.out] at hb1
    have hbx := (Below.refl w1.heap.size w1).alloc (Nat.le_refl _) (.cells #[.slice none 0 0] 29)
    have hs1 : w.heap.size + 2 ≤ w1.heap.size := by have := hb1.size; rw [HZ.out] at this; exact this
    have D1 := (B1.out.below hb1 (by omega)).below hbx (by omega)
    have D2 := (B2.out.below hb1 (by omega)).below hbx (by omega)
    have D6 := Blk.new w1 29 [.slice none 0 0] _ rfl
    have G1 := hb1.trans (hbx.mono hs1)
    have hz6 := alloc_size w1 (.cells #[.slice none 0 0] 29)
    have E1 := Lib.hid D1
    have E2 := Lib.hid D2
    have E6 := Lib.hid D6
    have EG := Lib.hid G1
    have EZ := Lib.hid hz6
    have L1 := Lib.hid hs1
    clear hb1 hbx hs1 D1 D2 D6 G1 hz6 C
    go_wp2_with fail
    generalize (w.alloc (.cells #[.slice ao l.length cap] 29)).alloc (.cells #[.slice none 0 0] 29) = W0 at *
    have hE1 := E1.out
    have hE2 := E2.out
    have hE6 := E6.out
    have hEG := EG.out
    have hEL : w1.heap.size + 1 ≤ (w1.alloc (.cells #[.slice none 0 0] 29)).heap.size := by rw [EZ.out]; exact Nat.le_refl _
    go_loopw [7] (fun i wr => ∃ (k : Nat) (v : Value), k ≤ l.length ∧ i = .int .i64 k ∧ Own wr (w1.heap.size + 1) 3 v k (fileC (loseTo l q k)) ∧ Blk wr w1.heap.size 29 [v] ∧ Blk wr w.heap.size 29 [.slice ao l.length cap] ∧ Blk wr (w.heap.size + 1) 29 [.slice none 0 0] ∧ Below (w.heap.size + 2) W0 wr ∧ w1.heap.size + 1 ≤ wr.heap.size) (fun i _ => l.length - (intOf i).toNat)
    case atStart => exact ⟨0, _, Nat.zero_le _, rfl, Own.nil _ _ _, hE6, hE1, hE2, hEG, hEL⟩
    case round =>
      clear hE1 hE2 hE6 hEG hEL
      obtain ⟨k, v, hk, rfl, hown, hb6, hb1, hb2, hb, hLr⟩ := hrel
      obtain ⟨qv, cv, rfl⟩ := Own.shape hown
      have c1 := Blk.cell hb1 0
      simp only [List.getElem?_cons_zero] at c1
      by_cases hlt : k < l.length
      · obtain ⟨x, hx⟩ : ∃ x, l[k]? = some x := ⟨_, List.getElem?_eq_getElem hlt⟩
        obtain ⟨b, o, rfl, p0, p1, p2⟩ := (R.out _ hb).at_ k x hx
        have hfile := (HG.out.2.1 x (List.mem_of_getElem? hx)).2
        have hxs := HS.out x (List.mem_of_getElem? hx)
        have Hx := Lib.hid hx
        obtain ⟨xa, xb, xn⟩ := x
        simp only at p0 p1 p2 hfile hxs
        obtain ⟨ht, hk0, hk1⟩ := hfile
        have hbx := (Below.refl wr.heap.size wr).alloc (Nat.le_refl _) (.cells #[.string xa, .string xb, .int .i64 xn] 49)
        have Ho := Lib.hid (Own.alloc hown (.cells #[.string xa, .string xb, .int .i64 xn] 49))
        have B6 := Lib.hid (Blk.alloc hb6 (.cells #[.string xa, .string xb, .int .i64 xn] 49))
        have BF := Lib.hid (And.intro (Blk.alloc hb1 (.cells #[.string xa, .string xb, .int .i64 xn] 49)) (And.intro (Blk.alloc hb2 (.cells #[.string xa, .string xb, .int .i64 xn] 49)) (hb.trans (hbx.mono (by have := L1.out; omega)))))
        have HL2 : Hid (w1.heap.size + 1 ≤ (wr.alloc (.cells #[.string xa, .string xb, .int .i64 xn] 49)).heap.size) := Lib.hid (Nat.le_trans hLr hbx.size)
        have d6 := Blk.cell B6.out 0
        simp only [List.getElem?_cons_zero] at d6
        have d8 : (wr.alloc (.cells #[.string xa, .string xb, .int .i64 xn] 49)).cell? ⟨wr.heap.size, 0, none⟩ = some (.string xa) := by simp
        have d9 : (wr.alloc (.cells #[.string xa, .string xb, .int .i64 xn] 49)).cell? ⟨wr.heap.size, 1, none⟩ = some (.string xb) := by simp
        have d10 : (wr.alloc (.cells #[.string xa, .string xb, .int .i64 xn] 49)).cell? ⟨wr.heap.size, 2, none⟩ = some (.int .i64 xn) := by simp
        have hkl : k ≤ 1048576 := by omega
        have hrq := (RQ.out _ hb)
        have HRQ := Lib.hid hrq
        have hb6l := hb6.lt
        have hne6 : ¬ w1.heap.size = wr.heap.size := by omega
        clear hown hx hb6 hb1 hb2 hb hbx hLr hrq
        have i0 : (0 : Int) ≤ (k : Int) := Int.natCast_nonneg _
        by_cases hq : k < q.length
        · obtain ⟨m, hm⟩ : ∃ m, q[k]? = some m := ⟨_, List.getElem?_eq_getElem hq⟩
          obtain ⟨b', o', rfl, hcm⟩ := HRQ.out.at_ k m hm
          have hgd : q.getD k 0 = m := by rw [List.getD_eq_getElem?_getD, hm]; rfl
          have hcm2 : (wr.alloc (.cells #[.string xa, .string xb, .int .i64 xn] 49)).cell? ⟨b', o' + k, none⟩ = some (.int .i64 m) := by have hlt := World.block_lt_of_cell? _ _ hcm; simp only at hlt; rw [← hcm]; exact (((Below.refl wr.heap.size wr).alloc (Nat.le_refl _) _).cell (p := ⟨b', o' + k, none⟩) hlt)
          have Hgd := Lib.hid hgd
          have i1 : (k : Int) < (q.length : Int) := by omega
          clear hm hgd
          by_cases hm1 : (xb.size : Int) < m
          · have j2 : ¬ (xb.size : Int) < xn := by omega
            have hN : 0 ≤ ((xb.size : Int)) ∧ ((xb.size : Int)) ≤ (xb.size : Int) := by omega
            have hcut := fun wx => cut_to (P := Try.prog) Try.underlying9 xb ((xb.size : Int)) ((xb.size : Int)).toNat (by omega) (by omega) wx
            have HVAL : Hid (fileC (loseTo l q (k + 1)) = fileC (loseTo l q k) ++ [.string xa, .string xb, .int .i64 ((xb.size : Int))]) := Lib.hid (by
              rw [loseTo_next Hx.out, fileC_append]
              have e : loseN (xa, xb, xn) (q.getD k 0) = (xb.size : Int) := by rw [Hgd.out]; unfold loseN; simp only; omega
              unfold loseF
              rw [e]
              rw [show ((xa, xb, xn) : Fl).2.1.extract 0 ((xb.size : Int)).toNat = xb from by simp]; rfl)
            clear hN
            go_wp2_with fail
            generalize wr.alloc (.cells #[.string xa, .string xb, .int .i64 xn] 49) = W2 at *
            have a6 : ∀ o, (W2.alloc o).cell? ⟨w1.heap.size, 0, none⟩ = some (.slice qv k cv) := fun o => (((Below.refl W2.heap.size W2).alloc (Nat.le_refl _) o).cell (p := ⟨w1.heap.size, 0, none⟩) (World.block_lt_of_cell? _ _ d6)).trans d6
            have a8 : ∀ o, (W2.alloc o).cell? ⟨wr.heap.size, 0, none⟩ = some (.string xa) := fun o => (((Below.refl W2.heap.size W2).alloc (Nat.le_refl _) o).cell (p := ⟨wr.heap.size, 0, none⟩) (World.block_lt_of_cell? _ _ d8)).trans d8
            have a9 : ∀ o, (W2.alloc o).cell? ⟨wr.heap.size, 1, none⟩ = some (.string xb) := fun o => (((Below.refl W2.heap.size W2).alloc (Nat.le_refl _) o).cell (p := ⟨wr.heap.size, 1, none⟩) (World.block_lt_of_cell? _ _ d9)).trans d9
            go_region_law (first
              | (refine step_push_cells W2.drew _ (by rfl) _ _ 27 (by rfl) 49 Try.underlying27 _ 3 40 rfl Try.infoFile (w1.heap.size + 1) _ k (fileC (loseTo l q k)) (by rfl) Ho.out.drew _ [.string xa, .string xb, .int .i64 ((xb.size : Int))] (by rfl) (by intro u hu; simp at hu; rcases hu with rfl | rfl | rfl <;> rfl) 1 1 (by rfl) _ (by rfl) (by rfl) (by omega) (by decide) HL2.out (by rfl) ?_; intro v3 w3 hown3 hg3 hb3; have D6 := Blk.kept (Blk.drew B6.out) hg3 (fun e => by have := (Own.block Ho.out _ e.symm).1; omega); have k0 := Blk.cell D6 0; have k1 := Blk.frozen D6 0; simp only [List.getElem?_cons_zero] at k0; obtain ⟨q3, c3, rfl⟩ := Own.shape hown3))
            all_goals
              have F6 := Blk.set_ D6 0 (.slice q3 (k + 1) c3)
              have F1 := (Blk.kept (Blk.drew BF.out.1) hg3 (fun e => by have := (Own.block Ho.out _ e.symm).1; have := L1.out; omega)).far (p := ⟨w1.heap.size, 0, none⟩) (by have := L1.out; simp only; omega) (.slice q3 (k + 1) c3)
              have F2 := (Blk.kept (Blk.drew BF.out.2.1) hg3 (fun e => by have := (Own.block Ho.out _ e.symm).1; have := L1.out; omega)).far (p := ⟨w1.heap.size, 0, none⟩) (by have := L1.out; simp only; omega) (.slice q3 (k + 1) c3)
              have FB := (BF.out.2.2.drew.trans (hb3.mono (by have := L1.out; omega))).setCell (p := ⟨w1.heap.size, 0, none⟩) (by have := L1.out; simp only; omega) (.slice q3 (k + 1) c3)
              have FO := Own.setCell (a := ⟨w1.heap.size, 0, none⟩) hown3 (by simp only; omega) (.slice q3 (k + 1) c3)
              have FL : w1.heap.size + 1 ≤ (w3.setCell ⟨w1.heap.size, 0, none⟩ (.slice q3 (k + 1) c3)).heap.size := by have := hg3.size; have := HL2.out; simp only [World.setCell, Array.size_modify]; exact Nat.le_trans HL2.out hg3.size
              have FA := Lib.hid (And.intro F6 (And.intro F1 (And.intro F2 (And.intro FB (And.intro FO FL)))))
              clear D6 k0 k1 hown3 hg3 hb3 F6 F1 F2 FB FO FL
              go_wp2_with fail
              exact ⟨⟨k + 1, _, by omega, by go_num, by rw [HVAL.out]; exact FA.out.2.2.2.2.1, FA.out.1, FA.out.2.1, FA.out.2.2.1, FA.out.2.2.2.1, FA.out.2.2.2.2.2⟩, by simp [intOf]; omega⟩
          · by_cases hm2 : m < xn
            · skip
              have hN : 0 ≤ (xn) ∧ (xn) ≤ (xb.size : Int) := by omega
              have hcut := fun wx => cut_to (P := Try.prog) Try.underlying9 xb (xn) (xn).toNat (by omega) (by omega) wx
              have HVAL : Hid (fileC (loseTo l q (k + 1)) = fileC (loseTo l q k) ++ [.string xa, .string (xb.extract 0 (xn).toNat), .int .i64 (xn)]) := Lib.hid (by
                rw [loseTo_next Hx.out, fileC_append]
                have e : loseN (xa, xb, xn) (q.getD k 0) = xn := by rw [Hgd.out]; unfold loseN; simp only; omega
                unfold loseF
                rw [e]
                rfl)
              clear hN
              go_wp2_with fail
              generalize wr.alloc (.cells #[.string xa, .string xb, .int .i64 xn] 49) = W2 at *
              have a6 : ∀ o, (W2.alloc o).cell? ⟨w1.heap.size, 0, none⟩ = some (.slice qv k cv) := fun o => (((Below.refl W2.heap.size W2).alloc (Nat.le_refl _) o).cell (p := ⟨w1.heap.size, 0, none⟩) (World.block_lt_of_cell? _ _ d6)).trans d6
              have a8 : ∀ o, (W2.alloc o).cell? ⟨wr.heap.size, 0, none⟩ = some (.string xa) := fun o => (((Below.refl W2.heap.size W2).alloc (Nat.le_refl _) o).cell (p := ⟨wr.heap.size, 0, none⟩) (World.block_lt_of_cell? _ _ d8)).trans d8
              have a9 : ∀ o, (W2.alloc o).cell? ⟨wr.heap.size, 1, none⟩ = some (.string xb) := fun o => (((Below.refl W2.heap.size W2).alloc (Nat.le_refl _) o).cell (p := ⟨wr.heap.size, 1, none⟩) (World.block_lt_of_cell? _ _ d9)).trans d9
              go_region_law (first
                | (refine step_push_cells W2.drew _ (by rfl) _ _ 27 (by rfl) 49 Try.underlying27 _ 3 40 rfl Try.infoFile (w1.heap.size + 1) _ k (fileC (loseTo l q k)) (by rfl) Ho.out.drew _ [.string xa, .string (xb.extract 0 (xn).toNat), .int .i64 (xn)] (by rfl) (by intro u hu; simp at hu; rcases hu with rfl | rfl | rfl <;> rfl) 1 1 (by rfl) _ (by rfl) (by rfl) (by omega) (by decide) HL2.out (by rfl) ?_; intro v3 w3 hown3 hg3 hb3; have D6 := Blk.kept (Blk.drew B6.out) hg3 (fun e => by have := (Own.block Ho.out _ e.symm).1; omega); have k0 := Blk.cell D6 0; have k1 := Blk.frozen D6 0; simp only [List.getElem?_cons_zero] at k0; obtain ⟨q3, c3, rfl⟩ := Own.shape hown3))
              all_goals
                have F6 := Blk.set_ D6 0 (.slice q3 (k + 1) c3)
                have F1 := (Blk.kept (Blk.drew BF.out.1) hg3 (fun e => by have := (Own.block Ho.out _ e.symm).1; have := L1.out; omega)).far (p := ⟨w1.heap.size, 0, none⟩) (by have := L1.out; simp only; omega) (.slice q3 (k + 1) c3)
                have F2 := (Blk.kept (Blk.drew BF.out.2.1) hg3 (fun e => by have := (Own.block Ho.out _ e.symm).1; have := L1.out; omega)).far (p := ⟨w1.heap.size, 0, none⟩) (by have := L1.out; simp only; omega) (.slice q3 (k + 1) c3)
                have FB := (BF.out.2.2.drew.trans (hb3.mono (by have := L1.out; omega))).setCell (p := ⟨w1.heap.size, 0, none⟩) (by have := L1.out; simp only; omega) (.slice q3 (k + 1) c3)
                have FO := Own.setCell (a := ⟨w1.heap.size, 0, none⟩) hown3 (by simp only; omega) (.slice q3 (k + 1) c3)
                have FL : w1.heap.size + 1 ≤ (w3.setCell ⟨w1.heap.size, 0, none⟩ (.slice q3 (k + 1) c3)).heap.size := by have := hg3.size; have := HL2.out; simp only [World.setCell, Array.size_modify]; exact Nat.le_trans HL2.out hg3.size
                have FA := Lib.hid (And.intro F6 (And.intro F1 (And.intro F2 (And.intro FB (And.intro FO FL)))))
                clear D6 k0 k1 hown3 hg3 hb3 F6 F1 F2 FB FO FL
                go_wp2_with fail
                exact ⟨⟨k + 1, _, by omega, by go_num, by rw [HVAL.out]; exact FA.out.2.2.2.2.1, FA.out.1, FA.out.2.1, FA.out.2.2.1, FA.out.2.2.2.1, FA.out.2.2.2.2.2⟩, by simp [intOf]; omega⟩
            · skip
              have hN : 0 ≤ (m) ∧ (m) ≤ (xb.size : Int) := by omega
              have hcut := fun wx => cut_to (P := Try.prog) Try.underlying9 xb (m) (m).toNat (by omega) (by omega) wx
              have HVAL : Hid (fileC (loseTo l q (k + 1)) = fileC (loseTo l q k) ++ [.string xa, .string (xb.extract 0 (m).toNat), .int .i64 (m)]) := Lib.hid (by
                rw [loseTo_next Hx.out, fileC_append]
                have e : loseN (xa, xb, xn) (q.getD k 0) = m := by rw [Hgd.out]; unfold loseN; simp only; omega
                unfold loseF
                rw [e]
                rfl)
              clear hN
              go_wp2_with fail
              generalize wr.alloc (.cells #[.string xa, .string xb, .int .i64 xn] 49) = W2 at *
              have a6 : ∀ o, (W2.alloc o).cell? ⟨w1.heap.size, 0, none⟩ = some (.slice qv k cv) := fun o => (((Below.refl W2.heap.size W2).alloc (Nat.le_refl _) o).cell (p := ⟨w1.heap.size, 0, none⟩) (World.block_lt_of_cell? _ _ d6)).trans d6
              have a8 : ∀ o, (W2.alloc o).cell? ⟨wr.heap.size, 0, none⟩ = some (.string xa) := fun o => (((Below.refl W2.heap.size W2).alloc (Nat.le_refl _) o).cell (p := ⟨wr.heap.size, 0, none⟩) (World.block_lt_of_cell? _ _ d8)).trans d8
              have a9 : ∀ o, (W2.alloc o).cell? ⟨wr.heap.size, 1, none⟩ = some (.string xb) := fun o => (((Below.refl W2.heap.size W2).alloc (Nat.le_refl _) o).cell (p := ⟨wr.heap.size, 1, none⟩) (World.block_lt_of_cell? _ _ d9)).trans d9
              go_region_law (first
                | (refine step_push_cells W2.drew _ (by rfl) _ _ 27 (by rfl) 49 Try.underlying27 _ 3 40 rfl Try.infoFile (w1.heap.size + 1) _ k (fileC (loseTo l q k)) (by rfl) Ho.out.drew _ [.string xa, .string (xb.extract 0 (m).toNat), .int .i64 (m)] (by rfl) (by intro u hu; simp at hu; rcases hu with rfl | rfl | rfl <;> rfl) 1 1 (by rfl) _ (by rfl) (by rfl) (by omega) (by decide) HL2.out (by rfl) ?_; intro v3 w3 hown3 hg3 hb3; have D6 := Blk.kept (Blk.drew B6.out) hg3 (fun e => by have := (Own.block Ho.out _ e.symm).1; omega); have k0 := Blk.cell D6 0; have k1 := Blk.frozen D6 0; simp only [List.getElem?_cons_zero] at k0; obtain ⟨q3, c3, rfl⟩ := Own.shape hown3))
              all_goals
                have F6 := Blk.set_ D6 0 (.slice q3 (k + 1) c3)
                have F1 := (Blk.kept (Blk.drew BF.out.1) hg3 (fun e => by have := (Own.block Ho.out _ e.symm).1; have := L1.out; omega)).far (p := ⟨w1.heap.size, 0, none⟩) (by have := L1.out; simp only; omega) (.slice q3 (k + 1) c3)
                have F2 := (Blk.kept (Blk.drew BF.out.2.1) hg3 (fun e => by have := (Own.block Ho.out _ e.symm).1; have := L1.out; omega)).far (p := ⟨w1.heap.size, 0, none⟩) (by have := L1.out; simp only; omega) (.slice q3 (k + 1) c3)
                have FB := (BF.out.2.2.drew.trans (hb3.mono (by have := L1.out; omega))).setCell (p := ⟨w1.heap.size, 0, none⟩) (by have := L1.out; simp only; omega) (.slice q3 (k + 1) c3)
                have FO := Own.setCell (a := ⟨w1.heap.size, 0, none⟩) hown3 (by simp only; omega) (.slice q3 (k + 1) c3)
                have FL : w1.heap.size + 1 ≤ (w3.setCell ⟨w1.heap.size, 0, none⟩ (.slice q3 (k + 1) c3)).heap.size := by have := hg3.size; have := HL2.out; simp only [World.setCell, Array.size_modify]; exact Nat.le_trans HL2.out hg3.size
                have FA := Lib.hid (And.intro F6 (And.intro F1 (And.intro F2 (And.intro FB (And.intro FO FL)))))
                clear D6 k0 k1 hown3 hg3 hb3 F6 F1 F2 FB FO FL
                go_wp2_with fail
                exact ⟨⟨k + 1, _, by omega, by go_num, by rw [HVAL.out]; exact FA.out.2.2.2.2.1, FA.out.1, FA.out.2.1, FA.out.2.2.1, FA.out.2.2.2.1, FA.out.2.2.2.2.2⟩, by simp [intOf]; omega⟩
        · have hgd : q.getD k 0 = 0 := by rw [List.getD_eq_getElem?_getD, List.getElem?_eq_none (by omega)]; rfl
          have Hgd := Lib.hid hgd
          have i1 : ¬ ((k : Int) < (q.length : Int)) := by omega
          have i2 : ¬ ((xb.size : Int) < 0) := by omega
          clear hgd
          by_cases hm2 : 0 < xn
          · skip
            have hN : 0 ≤ (xn) ∧ (xn) ≤ (xb.size : Int) := by omega
            have hcut := fun wx => cut_to (P := Try.prog) Try.underlying9 xb (xn) (xn).toNat (by omega) (by omega) wx
            have HVAL : Hid (fileC (loseTo l q (k + 1)) = fileC (loseTo l q k) ++ [.string xa, .string (xb.extract 0 (xn).toNat), .int .i64 (xn)]) := Lib.hid (by
              rw [loseTo_next Hx.out, fileC_append]
              have e : loseN (xa, xb, xn) (q.getD k 0) = xn := by rw [Hgd.out]; unfold loseN; simp only; omega
              unfold loseF
              rw [e]
              rfl)
            clear hN
            go_wp2_with fail
            generalize wr.alloc (.cells #[.string xa, .string xb, .int .i64 xn] 49) = W2 at *
            have a6 : ∀ o, (W2.alloc o).cell? ⟨w1.heap.size, 0, none⟩ = some (.slice qv k cv) := fun o => (((Below.refl W2.heap.size W2).alloc (Nat.le_refl _) o).cell (p := ⟨w1.heap.size, 0, none⟩) (World.block_lt_of_cell? _ _ d6)).trans d6
            have a8 : ∀ o, (W2.alloc o).cell? ⟨wr.heap.size, 0, none⟩ = some (.string xa) := fun o => (((Below.refl W2.heap.size W2).alloc (Nat.le_refl _) o).cell (p := ⟨wr.heap.size, 0, none⟩) (World.block_lt_of_cell? _ _ d8)).trans d8
            have a9 : ∀ o, (W2.alloc o).cell? ⟨wr.heap.size, 1, none⟩ = some (.string xb) := fun o => (((Below.refl W2.heap.size W2).alloc (Nat.le_refl _) o).cell (p := ⟨wr.heap.size, 1, none⟩) (World.block_lt_of_cell? _ _ d9)).trans d9
            go_region_law (first
              | (refine step_push_cells W2.drew _ (by rfl) _ _ 27 (by rfl) 49 Try.underlying27 _ 3 40 rfl Try.infoFile (w1.heap.size + 1) _ k (fileC (loseTo l q k)) (by rfl) Ho.out.drew _ [.string xa, .string (xb.extract 0 (xn).toNat), .int .i64 (xn)] (by rfl) (by intro u hu; simp at hu; rcases hu with rfl | rfl | rfl <;> rfl) 1 1 (by rfl) _ (by rfl) (by rfl) (by omega) (by decide) HL2.out (by rfl) ?_; intro v3 w3 hown3 hg3 hb3; have D6 := Blk.kept (Blk.drew B6.out) hg3 (fun e => by have := (Own.block Ho.out _ e.symm).1; omega); have k0 := Blk.cell D6 0; have k1 := Blk.frozen D6 0; simp only [List.getElem?_cons_zero] at k0; obtain ⟨q3, c3, rfl⟩ := Own.shape hown3))
            all_goals
              have F6 := Blk.set_ D6 0 (.slice q3 (k + 1) c3)
              have F1 := (Blk.kept (Blk.drew BF.out.1) hg3 (fun e => by have := (Own.block Ho.out _ e.symm).1; have := L1.out; omega)).far (p := ⟨w1.heap.size, 0, none⟩) (by have := L1.out; simp only; omega) (.slice q3 (k + 1) c3)
              have F2 := (Blk.kept (Blk.drew BF.out.2.1) hg3 (fun e => by have := (Own.block Ho.out _ e.symm).1; have := L1.out; omega)).far (p := ⟨w1.heap.size, 0, none⟩) (by have := L1.out; simp only; omega) (.slice q3 (k + 1) c3)
              have FB := (BF.out.2.2.drew.trans (hb3.mono (by have := L1.out; omega))).setCell (p := ⟨w1.heap.size, 0, none⟩) (by have := L1.out; simp only; omega) (.slice q3 (k + 1) c3)
              have FO := Own.setCell (a := ⟨w1.heap.size, 0, none⟩) hown3 (by simp only; omega) (.slice q3 (k + 1) c3)
              have FL : w1.heap.size + 1 ≤ (w3.setCell ⟨w1.heap.size, 0, none⟩ (.slice q3 (k + 1) c3)).heap.size := by have := hg3.size; have := HL2.out; simp only [World.setCell, Array.size_modify]; exact Nat.le_trans HL2.out hg3.size
              have FA := Lib.hid (And.intro F6 (And.intro F1 (And.intro F2 (And.intro FB (And.intro FO FL)))))
              clear D6 k0 k1 hown3 hg3 hb3 F6 F1 F2 FB FO FL
              go_wp2_with fail
              exact ⟨⟨k + 1, _, by omega, by go_num, by rw [HVAL.out]; exact FA.out.2.2.2.2.1, FA.out.1, FA.out.2.1, FA.out.2.2.1, FA.out.2.2.2.1, FA.out.2.2.2.2.2⟩, by simp [intOf]; omega⟩
          · skip
            have hN : 0 ≤ ((0 : Int)) ∧ ((0 : Int)) ≤ (xb.size : Int) := by omega
            have hcut := fun wx => cut_to (P := Try.prog) Try.underlying9 xb ((0 : Int)) ((0 : Int)).toNat (by omega) (by omega) wx
            have HVAL : Hid (fileC (loseTo l q (k + 1)) = fileC (loseTo l q k) ++ [.string xa, .string ByteArray.empty, .int .i64 ((0 : Int))]) := Lib.hid (by
              rw [loseTo_next Hx.out, fileC_append]
              have e : loseN (xa, xb, xn) (q.getD k 0) = (0 : Int) := by rw [Hgd.out]; unfold loseN; simp only; omega
              unfold loseF
              rw [e]
              rw [show ((xa, xb, xn) : Fl).2.1.extract 0 ((0 : Int)).toNat = ByteArray.empty from by simp]; rfl)
            clear hN
            go_wp2_with fail
            generalize wr.alloc (.cells #[.string xa, .string xb, .int .i64 xn] 49) = W2 at *
            have a6 : ∀ o, (W2.alloc o).cell? ⟨w1.heap.size, 0, none⟩ = some (.slice qv k cv) := fun o => (((Below.refl W2.heap.size W2).alloc (Nat.le_refl _) o).cell (p := ⟨w1.heap.size, 0, none⟩) (World.block_lt_of_cell? _ _ d6)).trans d6
            have a8 : ∀ o, (W2.alloc o).cell? ⟨wr.heap.size, 0, none⟩ = some (.string xa) := fun o => (((Below.refl W2.heap.size W2).alloc (Nat.le_refl _) o).cell (p := ⟨wr.heap.size, 0, none⟩) (World.block_lt_of_cell? _ _ d8)).trans d8
            have a9 : ∀ o, (W2.alloc o).cell? ⟨wr.heap.size, 1, none⟩ = some (.string xb) := fun o => (((Below.refl W2.heap.size W2).alloc (Nat.le_refl _) o).cell (p := ⟨wr.heap.size, 1, none⟩) (World.block_lt_of_cell? _ _ d9)).trans d9
            go_region_law (first
              | (refine step_push_cells W2.drew _ (by rfl) _ _ 27 (by rfl) 49 Try.underlying27 _ 3 40 rfl Try.infoFile (w1.heap.size + 1) _ k (fileC (loseTo l q k)) (by rfl) Ho.out.drew _ [.string xa, .string ByteArray.empty, .int .i64 ((0 : Int))] (by rfl) (by intro u hu; simp at hu; rcases hu with rfl | rfl | rfl <;> rfl) 1 1 (by rfl) _ (by rfl) (by rfl) (by omega) (by decide) HL2.out (by rfl) ?_; intro v3 w3 hown3 hg3 hb3; have D6 := Blk.kept (Blk.drew B6.out) hg3 (fun e => by have := (Own.block Ho.out _ e.symm).1; omega); have k0 := Blk.cell D6 0; have k1 := Blk.frozen D6 0; simp only [List.getElem?_cons_zero] at k0; obtain ⟨q3, c3, rfl⟩ := Own.shape hown3))
            all_goals
              have F6 := Blk.set_ D6 0 (.slice q3 (k + 1) c3)
              have F1 := (Blk.kept (Blk.drew BF.out.1) hg3 (fun e => by have := (Own.block Ho.out _ e.symm).1; have := L1.out; omega)).far (p := ⟨w1.heap.size, 0, none⟩) (by have := L1.out; simp only; omega) (.slice q3 (k + 1) c3)
              have F2 := (Blk.kept (Blk.drew BF.out.2.1) hg3 (fun e => by have := (Own.block Ho.out _ e.symm).1; have := L1.out; omega)).far (p := ⟨w1.heap.size, 0, none⟩) (by have := L1.out; simp only; omega) (.slice q3 (k + 1) c3)
              have FB := (BF.out.2.2.drew.trans (hb3.mono (by have := L1.out; omega))).setCell (p := ⟨w1.heap.size, 0, none⟩) (by have := L1.out; simp only; omega) (.slice q3 (k + 1) c3)
              have FO := Own.setCell (a := ⟨w1.heap.size, 0, none⟩) hown3 (by simp only; omega) (.slice q3 (k + 1) c3)
              have FL : w1.heap.size + 1 ≤ (w3.setCell ⟨w1.heap.size, 0, none⟩ (.slice q3 (k + 1) c3)).heap.size := by have := hg3.size; have := HL2.out; simp only [World.setCell, Array.size_modify]; exact Nat.le_trans HL2.out hg3.size
              have FA := Lib.hid (And.intro F6 (And.intro F1 (And.intro F2 (And.intro FB (And.intro FO FL)))))
              clear D6 k0 k1 hown3 hg3 hb3 F6 F1 F2 FB FO FL
              go_wp2_with fail
              exact ⟨⟨k + 1, _, by omega, by go_num, by rw [HVAL.out]; exact FA.out.2.2.2.2.1, FA.out.1, FA.out.2.1, FA.out.2.2.1, FA.out.2.2.2.1, FA.out.2.2.2.2.2⟩, by simp [intOf]; omega⟩
      · obtain rfl : k = l.length := by omega
        have e1 := Blk.cell hb2 0
        have e2 := Blk.frozen hb2 0
        have c6 := Blk.cell hb6 0
        simp only [List.getElem?_cons_zero] at e1 c6
        have E2' := Lib.hid (Blk.set_ hb2 0 (.slice qv l.length cv))
        have HO := Lib.hid ((Own.setCell (a := ⟨w.heap.size + 1, 0, none⟩) hown (by have := L1.out; simp only; omega) (.slice qv l.length cv)).mono (by have := L1.out; omega : w.heap.size ≤ w1.heap.size + 1))
        have HF := Lib.hid ((HB.out.trans (hb.mono (by omega))).setCell (p := ⟨w.heap.size + 1, 0, none⟩) (by simp only; omega) (.slice qv l.length cv))
        have HLl : Hid ((loseL l q).length = l.length) := Lib.hid (loseTo_len _ _ _)
        clear hown hb6 hb1 hb2 hb hLr
        go_wp2_with fail
        refine bodyPost_ret (results_cell_row_tmp rfl _ _ _ (w.heap.size + 1) 29 #[.slice qv l.length cv] (0, 0) _ _ rfl rfl E2'.out Try.underlying29 (by kernel_rfl)) rfl ?_
        exact ⟨⟨_, _, rfl, rfl, by unfold OwnF; rw [HLl.out]; exact HO.out⟩, HF.out⟩
  · rw [decide_eq_false hg] at CD
    have C := Lib.hid CD
    have HV := Lib.hid (loseV_no (q := q) hg)
    clear CD hg
    rw [HV.out]
    go_enter Try.func24, Try.ntmps24
    go_wp2_with fail
    refine C.out.mono ?_
    rintro e w1 ⟨rfl, hb1⟩
    rw [HZ.out] at hb1
    have D2 := B2.out.below hb1 (by omega)
    have k0 := Blk.cell D2 0
    have k1 := Blk.frozen D2 0
    simp only [List.getElem?_cons_zero] at k0
    have E2 := Lib.hid (Blk.set_ D2 0 (.slice none 0 0))
    have HF := Lib.hid ((HB.out.trans (hb1.mono (by omega))).setCell (p := ⟨w.heap.size + 1, 0, none⟩) (by simp only; omega) (.slice none 0 0))
    clear hb1 D2 C
    go_wp2_with fail
    refine bodyPost_ret (results_cell_row_tmp rfl _ _ _ (w.heap.size + 1) 29 #[.slice none 0 0] (0, 0) _ _ rfl rfl E2.out Try.underlying29 (by kernel_rfl)) rfl ?_
    exact ⟨⟨_, _, rfl, rfl, Own.nil _ _ _⟩, HF.out⟩

end Go.Proofs.Ytdecehecjlbbiaa
