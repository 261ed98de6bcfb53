/-
  The walk of the draw of an operation.
-/
import Derived.Test.YtdecehecjlbbiaaJKeep1
import Derived.Test.YtdecehecjlbbiaaBase8
import Derived.Test.YtdecehecjlbbiaaJDraw3
import Derived.Test.YtdecehecjlbbiaaJDisk3
namespace Go.Proofs.Ytdecehecjlbbiaa
open Go.RowKit

/-- An operation is handed back. -/
def DrawnAc (T : TypeId) (w0 : World) (n g : Nat) (w : World) (e : Ending) (w' : World) : Prop := (∃ x : Ac, e = .returned (.agg #[.int .i64 x.1, .string x.2.1, .string x.2.2.1, .string x.2.2.2]) ∧ AcSmall x 100) ∧ Cur T w0 n w' g ∧ w.grownBy w' (some g)
def longNameL : List ByteArray := [⟨#[]⟩, ⟨#[49, 50, 51, 52, 53, 54, 55, 56, 57]⟩, ⟨#[110, 101, 119]⟩]
theorem no_size : (⟨#[]⟩ : ByteArray).size ≤ 100 := by decide
theorem x_size : (⟨#[120]⟩ : ByteArray).size ≤ 100 := by decide
theorem longNameL_ok : ∀ s ∈ longNameL, s.size ≤ 100 := by decide +kernel

set_option maxHeartbeats 8000000 in
set_option maxRecDepth 100000 in
theorem l06Act_any (w0 : World) (n g : Nat) (w : World) (h : Cur 114 w0 n w g) (h0 : w0.heap.size ≤ w.heap.size) :
    Calls Try.prog 117 #[.pointer (some ⟨g, 0, none⟩)] w (DrawnAc 114 w0 n g w) := by
  have hgl := h.lt
  have b1 := Blk.new w 67 [.int .i64 0, .string ⟨#[]⟩, .string ⟨#[]⟩, .string ⟨#[]⟩] _ rfl
  have hz := alloc_size w (.cells #[.int .i64 0, .string ⟨#[]⟩, .string ⟨#[]⟩, .string ⟨#[]⟩] 67)
  have C := Lib.hid (l01Below_any w0 n g 4 (by omega) (by omega) _ (Cur.alloc h (.cells #[.int .i64 0, .string ⟨#[]⟩, .string ⟨#[]⟩, .string ⟨#[]⟩] 67)))
  have hg0 := Lib.hid (grownBy_alloc' (World.grownBy.refl w (some g)) (.cells #[.int .i64 0, .string ⟨#[]⟩, .string ⟨#[]⟩, .string ⟨#[]⟩] 67))
  have B1 := Lib.hid b1
  have HZ := Lib.hid hz
  clear h b1 hz
  go_enter Try.func117, Try.ntmps117
  go_wp2_with fail
  generalize w.alloc (.cells #[.int .i64 0, .string ⟨#[]⟩, .string ⟨#[]⟩, .string ⟨#[]⟩] 67) = wA at *
  refine C.out.mono ?_
  rintro e w1 ⟨⟨x, x0, x1, rfl⟩, hc1, hg1⟩
  have B1 := Lib.hid (B1.out.kept hg1 (fun e => by have := Option.some.inj e; omega))
  have Hg1 := Lib.hid (grownBy_trans hg0.out hg1)
  have C := Lib.hid (l06Named_any w0 n g w1 hc1)
  have hs1 := hg1.size
  clear hc1 hg1 hg0
  go_wp2_with fail
  refine C.out.mono ?_
  rintro e w2 ⟨⟨nm, hnm, rfl⟩, hc2, hg2⟩
  have hz0 := HZ.out
  have hs2 := hg2.size
  have hgl2 := hc2.lt
  rcases (show x = 0 ∨ x = 2 ∨ (x ≠ 0 ∧ x ≠ 2) by omega) with rfl | rfl | ⟨hx0, hx2⟩
  · skip
    have st : ActSt w w0 114 67 n g w2.heap.size w.heap.size (1, nm, ⟨#[]⟩, ⟨#[]⟩) (w2.alloc (.cells #[.int .i64 (1), .string nm, .string ⟨#[]⟩, .string ⟨#[]⟩] 67)) :=
      ⟨Cur.alloc hc2 _, Blk.new w2 _ _ _ rfl, (B1.out.kept hg2 (fun e => by have := Option.some.inj e; omega)).alloc _, grownBy_alloc' (grownBy_trans Hg1.out hg2) _, by omega, by omega, by omega, by omega, Nat.le_refl _, by omega⟩
    have hsz : AcSmall (1, nm, ⟨#[]⟩, ⟨#[]⟩) 100 := ⟨by simp only; omega, no_size, no_size⟩
    have St := Lib.hid st
    have HSZ := Lib.hid hsz
    clear st hsz hc2 hg2 hnm C B1 Hg1
    obtain ⟨c0, c1, c2, c3⟩ := St.out.cells
    simp only at c0 c1 c2 c3
    have C := Lib.hid (l01Below_any w0 n g 6 (by omega) (by omega) _ St.out.cur)
    go_wp2_with fail
    generalize w2.alloc (.cells #[.int .i64 (1), .string nm, .string ⟨#[]⟩, .string ⟨#[]⟩] 67) = w3 at *
    refine C.out.mono ?_
    rintro e w4 ⟨⟨z, z0, z1, rfl⟩, hc, hg⟩
    obtain ⟨q, rfl⟩ := Int.eq_ofNat_of_zero_le z0
    have St := Lib.hid (St.out.drawn hc hg)
    have C := Lib.hid (l01Text_any w0 n g q (by omega) w4 hc)
    clear hc hg c0 c1 c2 c3
    go_wp2_with fail
    refine C.out.mono ?_
    rintro e w5 ⟨⟨t, ht, rfl⟩, hc, hg⟩
    have hts : t.size ≤ 100 := by have : t.size = q := ht; omega
    have St := Lib.hid (St.out.drawn hc hg)
    clear hc hg C ht
    obtain ⟨c0, c1, c2, c3⟩ := St.out.cells
    simp only at c0 c1 c2 c3
    have f2 := Blk.frozen St.out.box 2
    have St2 := Lib.hid (St.out.set_ 2 (.string t) (1, nm, t, ⟨#[]⟩) rfl)
    have HSZ2 : Hid (AcSmall (1, nm, t, ⟨#[]⟩) 100) := Lib.hid ⟨HSZ.out.1, hts, HSZ.out.2.2⟩
    clear St HSZ
    have St := St2
    have HSZ := HSZ2
    clear St2 HSZ2
    have C := Lib.hid (l01Below_any w0 n g 40 (by omega) (by omega) _ St.out.cur)
    obtain ⟨c0, c1, c2, c3⟩ := St.out.cells
    simp only at c0 c1 c2 c3
    go_wp2_with fail
    refine C.out.mono ?_
    rintro e w8 ⟨⟨y, y0, y1, rfl⟩, hc, hg⟩
    have St := Lib.hid (St.out.drawn hc hg)
    clear hc hg C c0 c1 c2 c3
    rcases (show y = 0 ∨ y = 1 ∨ y = 2 ∨ y = 3 ∨ 4 ≤ y by omega) with rfl | rfl | rfl | rfl | hy
    · have hgl8 := St.out.cur.lt
      have C := Lib.hid (l01PickInt_any w0 n g (some ⟨w8.heap.size, 0, none⟩) 2 [0, 5] (by decide) (by decide) _ (Cur.alloc St.out.cur _) (rdC_new w8 (intC [0, 5]) _ rfl 3) (fun b off e => by cases e; omega))
      have St1 := Lib.hid (St.out.below ((Below.refl _ _).alloc (Nat.le_refl _) (.cells #[.int .i64 0, .int .i64 5] 3)))
      clear St
      go_wp2_with fail
      refine C.out.mono ?_
      rintro e w9 ⟨⟨z, hz, rfl⟩, hc, hg⟩
      have St := Lib.hid (St1.out.drawn hc hg)
      clear hc hg C hz St1
      obtain ⟨c0, c1, c2, c3⟩ := St.out.cells
      simp only at c0 c1 c2 c3
      have f0 := Blk.frozen St.out.box 0
      have St2 := Lib.hid (St.out.set_ 0 (.int .i64 z) (z, nm, t, ⟨#[]⟩) rfl)
      have HSZ2 : Hid (AcSmall (z, nm, t, ⟨#[]⟩) 100) := Lib.hid HSZ.out
      clear St HSZ
      have St := St2
      have HSZ := HSZ2
      clear St2 HSZ2
      obtain ⟨e0, e1, e2, e3⟩ := St.out.cells
      simp only at e0 e1 e2 e3
      have d0 := Blk.cell St.out.res 0
      have g0 := Blk.frozen St.out.res 0
      have d1 := Blk.cell St.out.res 1
      have g1 := Blk.frozen St.out.res 1
      have d2 := Blk.cell St.out.res 2
      have g2 := Blk.frozen St.out.res 2
      have d3 := Blk.cell St.out.res 3
      have g3 := Blk.frozen St.out.res 3
      simp only [List.getElem?_cons_zero, List.getElem?_cons_succ] at d0 d1 d2 d3
      have Done := Lib.hid (St.out.done h0)
      clear St
      go_wp2_with fail
      refine bodyPost_ret (results_cell_row rfl _ _ w.heap.size 67 #[.int .i64 (z), .string nm, .string t, .string ⟨#[]⟩] (0, 0) _ rfl Done.out.1 Try.underlying67 rfl (by kernel_rfl)) rfl ?_
      exact ⟨⟨(z, nm, t, ⟨#[]⟩), rfl, HSZ.out⟩, Done.out.2.1, Done.out.2.2⟩
    · have hgl8 := St.out.cur.lt
      have C := Lib.hid (l01Pick_any w0 n g (some ⟨w8.heap.size, 0, none⟩) 3 longNameL (by decide) (by decide) _ (Cur.alloc St.out.cur _) (rdC_new w8 (strC longNameL) _ rfl 9) (fun b off e => by cases e; omega))
      have St1 := Lib.hid (St.out.below ((Below.refl _ _).alloc (Nat.le_refl _) (.cells (strC longNameL).toArray 9)))
      clear St
      go_wp2_with fail
      refine C.out.mono ?_
      rintro e w9 ⟨⟨z, hz, rfl⟩, hc, hg⟩
      have St := Lib.hid (St1.out.drawn hc hg)
      have hzs := longNameL_ok z hz
      clear hc hg C hz St1
      obtain ⟨c0, c1, c2, c3⟩ := St.out.cells
      simp only at c0 c1 c2 c3
      have f1 := Blk.frozen St.out.box 1
      have St2 := Lib.hid (St.out.set_ 1 (.string z) (1, z, t, ⟨#[]⟩) rfl)
      have HSZ2 : Hid (AcSmall (1, z, t, ⟨#[]⟩) 100) := Lib.hid ⟨hzs, HSZ.out.2.1, HSZ.out.2.2⟩
      clear St HSZ
      have St := St2
      have HSZ := HSZ2
      clear St2 HSZ2
      obtain ⟨e0, e1, e2, e3⟩ := St.out.cells
      simp only at e0 e1 e2 e3
      have d0 := Blk.cell St.out.res 0
      have g0 := Blk.frozen St.out.res 0
      have d1 := Blk.cell St.out.res 1
      have g1 := Blk.frozen St.out.res 1
      have d2 := Blk.cell St.out.res 2
      have g2 := Blk.frozen St.out.res 2
      have d3 := Blk.cell St.out.res 3
      have g3 := Blk.frozen St.out.res 3
      simp only [List.getElem?_cons_zero, List.getElem?_cons_succ] at d0 d1 d2 d3
      have Done := Lib.hid (St.out.done h0)
      clear St
      go_wp2_with fail
      refine bodyPost_ret (results_cell_row rfl _ _ w.heap.size 67 #[.int .i64 (1), .string z, .string t, .string ⟨#[]⟩] (0, 0) _ rfl Done.out.1 Try.underlying67 rfl (by kernel_rfl)) rfl ?_
      exact ⟨⟨(1, z, t, ⟨#[]⟩), rfl, HSZ.out⟩, Done.out.2.1, Done.out.2.2⟩
    · skip
      obtain ⟨c0, c1, c2, c3⟩ := St.out.cells
      simp only at c0 c1 c2 c3
      have f3 := Blk.frozen St.out.box 3
      have St2 := Lib.hid (St.out.set_ 3 (.string ⟨#[120]⟩) (1, nm, t, ⟨#[120]⟩) rfl)
      have HSZ2 : Hid (AcSmall (1, nm, t, ⟨#[120]⟩) 100) := Lib.hid ⟨HSZ.out.1, HSZ.out.2.1, x_size⟩
      clear St HSZ
      have St := St2
      have HSZ := HSZ2
      clear St2 HSZ2
      obtain ⟨e0, e1, e2, e3⟩ := St.out.cells
      simp only at e0 e1 e2 e3
      have d0 := Blk.cell St.out.res 0
      have g0 := Blk.frozen St.out.res 0
      have d1 := Blk.cell St.out.res 1
      have g1 := Blk.frozen St.out.res 1
      have d2 := Blk.cell St.out.res 2
      have g2 := Blk.frozen St.out.res 2
      have d3 := Blk.cell St.out.res 3
      have g3 := Blk.frozen St.out.res 3
      simp only [List.getElem?_cons_zero, List.getElem?_cons_succ] at d0 d1 d2 d3
      have Done := Lib.hid (St.out.done h0)
      clear St
      go_wp2_with fail
      refine bodyPost_ret (results_cell_row rfl _ _ w.heap.size 67 #[.int .i64 (1), .string nm, .string t, .string ⟨#[120]⟩] (0, 0) _ rfl Done.out.1 Try.underlying67 rfl (by kernel_rfl)) rfl ?_
      exact ⟨⟨(1, nm, t, ⟨#[120]⟩), rfl, HSZ.out⟩, Done.out.2.1, Done.out.2.2⟩
    · skip
      obtain ⟨c0, c1, c2, c3⟩ := St.out.cells
      simp only at c0 c1 c2 c3
      have f2 := Blk.frozen St.out.box 2
      have St2 := Lib.hid (St.out.set_ 2 (.string ⟨#[120]⟩) (1, nm, ⟨#[120]⟩, ⟨#[]⟩) rfl)
      have HSZ2 : Hid (AcSmall (1, nm, ⟨#[120]⟩, ⟨#[]⟩) 100) := Lib.hid ⟨HSZ.out.1, x_size, HSZ.out.2.2⟩
      clear St HSZ
      have St := St2
      have HSZ := HSZ2
      clear St2 HSZ2
      obtain ⟨e0, e1, e2, e3⟩ := St.out.cells
      simp only at e0 e1 e2 e3
      have d0 := Blk.cell St.out.res 0
      have g0 := Blk.frozen St.out.res 0
      have d1 := Blk.cell St.out.res 1
      have g1 := Blk.frozen St.out.res 1
      have d2 := Blk.cell St.out.res 2
      have g2 := Blk.frozen St.out.res 2
      have d3 := Blk.cell St.out.res 3
      have g3 := Blk.frozen St.out.res 3
      simp only [List.getElem?_cons_zero, List.getElem?_cons_succ] at d0 d1 d2 d3
      have Done := Lib.hid (St.out.done h0)
      clear St
      go_wp2_with fail
      refine bodyPost_ret (results_cell_row rfl _ _ w.heap.size 67 #[.int .i64 (1), .string nm, .string ⟨#[120]⟩, .string ⟨#[]⟩] (0, 0) _ rfl Done.out.1 Try.underlying67 rfl (by kernel_rfl)) rfl ?_
      exact ⟨⟨(1, nm, ⟨#[120]⟩, ⟨#[]⟩), rfl, HSZ.out⟩, Done.out.2.1, Done.out.2.2⟩
    · have y0' : (y == 0) = false := by rw [beq_eq_false_iff_ne]; omega
      have y1' : (y == 1) = false := by rw [beq_eq_false_iff_ne]; omega
      have y2' : (y == 2) = false := by rw [beq_eq_false_iff_ne]; omega
      have y3' : (y == 3) = false := by rw [beq_eq_false_iff_ne]; omega
      obtain ⟨c0, c1, c2, c3⟩ := St.out.cells
      simp only at c0 c1 c2 c3
      have d0 := Blk.cell St.out.res 0
      have g0 := Blk.frozen St.out.res 0
      have d1 := Blk.cell St.out.res 1
      have g1 := Blk.frozen St.out.res 1
      have d2 := Blk.cell St.out.res 2
      have g2 := Blk.frozen St.out.res 2
      have d3 := Blk.cell St.out.res 3
      have g3 := Blk.frozen St.out.res 3
      simp only [List.getElem?_cons_zero, List.getElem?_cons_succ] at d0 d1 d2 d3
      have Done := Lib.hid (St.out.done h0)
      clear St
      go_wp2_with fail
      refine bodyPost_ret (results_cell_row rfl _ _ w.heap.size 67 #[.int .i64 (1), .string nm, .string t, .string ⟨#[]⟩] (0, 0) _ rfl Done.out.1 Try.underlying67 rfl (by kernel_rfl)) rfl ?_
      exact ⟨⟨(1, nm, t, ⟨#[]⟩), rfl, HSZ.out⟩, Done.out.2.1, Done.out.2.2⟩
  · skip
    have st : ActSt w w0 114 67 n g w2.heap.size w.heap.size (3, nm, ⟨#[]⟩, ⟨#[]⟩) (w2.alloc (.cells #[.int .i64 (3), .string nm, .string ⟨#[]⟩, .string ⟨#[]⟩] 67)) :=
      ⟨Cur.alloc hc2 _, Blk.new w2 _ _ _ rfl, (B1.out.kept hg2 (fun e => by have := Option.some.inj e; omega)).alloc _, grownBy_alloc' (grownBy_trans Hg1.out hg2) _, by omega, by omega, by omega, by omega, Nat.le_refl _, by omega⟩
    have hsz : AcSmall (3, nm, ⟨#[]⟩, ⟨#[]⟩) 100 := ⟨by simp only; omega, no_size, no_size⟩
    have St := Lib.hid st
    have HSZ := Lib.hid hsz
    clear st hsz hc2 hg2 hnm C B1 Hg1
    obtain ⟨c0, c1, c2, c3⟩ := St.out.cells
    simp only at c0 c1 c2 c3
    have C := Lib.hid (l06Named_any w0 n g _ St.out.cur)
    go_wp2_with fail
    generalize w2.alloc (.cells #[.int .i64 (3), .string nm, .string ⟨#[]⟩, .string ⟨#[]⟩] 67) = w3 at *
    refine C.out.mono ?_
    rintro e w4 ⟨⟨t, ht, rfl⟩, hc, hg⟩
    have hts : t.size ≤ 100 := by omega
    have St := Lib.hid (St.out.drawn hc hg)
    clear hc hg C ht c0 c1 c2 c3
    obtain ⟨c0, c1, c2, c3⟩ := St.out.cells
    simp only at c0 c1 c2 c3
    have f3 := Blk.frozen St.out.box 3
    have St2 := Lib.hid (St.out.set_ 3 (.string t) (3, nm, ⟨#[]⟩, t) rfl)
    have HSZ2 : Hid (AcSmall (3, nm, ⟨#[]⟩, t) 100) := Lib.hid ⟨HSZ.out.1, HSZ.out.2.1, hts⟩
    clear St HSZ
    have St := St2
    have HSZ := HSZ2
    clear St2 HSZ2
    have C := Lib.hid (l01Below_any w0 n g 40 (by omega) (by omega) _ St.out.cur)
    obtain ⟨c0, c1, c2, c3⟩ := St.out.cells
    simp only at c0 c1 c2 c3
    go_wp2_with fail
    refine C.out.mono ?_
    rintro e w8 ⟨⟨y, y0, y1, rfl⟩, hc, hg⟩
    have St := Lib.hid (St.out.drawn hc hg)
    clear hc hg C c0 c1 c2 c3
    rcases (show y = 0 ∨ y = 1 ∨ y = 2 ∨ y = 3 ∨ 4 ≤ y by omega) with rfl | rfl | rfl | rfl | hy
    · have hgl8 := St.out.cur.lt
      have C := Lib.hid (l01PickInt_any w0 n g (some ⟨w8.heap.size, 0, none⟩) 2 [0, 5] (by decide) (by decide) _ (Cur.alloc St.out.cur _) (rdC_new w8 (intC [0, 5]) _ rfl 3) (fun b off e => by cases e; omega))
      have St1 := Lib.hid (St.out.below ((Below.refl _ _).alloc (Nat.le_refl _) (.cells #[.int .i64 0, .int .i64 5] 3)))
      clear St
      go_wp2_with fail
      refine C.out.mono ?_
      rintro e w9 ⟨⟨z, hz, rfl⟩, hc, hg⟩
      have St := Lib.hid (St1.out.drawn hc hg)
      clear hc hg C hz St1
      obtain ⟨c0, c1, c2, c3⟩ := St.out.cells
      simp only at c0 c1 c2 c3
      have f0 := Blk.frozen St.out.box 0
      have St2 := Lib.hid (St.out.set_ 0 (.int .i64 z) (z, nm, ⟨#[]⟩, t) rfl)
      have HSZ2 : Hid (AcSmall (z, nm, ⟨#[]⟩, t) 100) := Lib.hid HSZ.out
      clear St HSZ
      have St := St2
      have HSZ := HSZ2
      clear St2 HSZ2
      obtain ⟨e0, e1, e2, e3⟩ := St.out.cells
      simp only at e0 e1 e2 e3
      have d0 := Blk.cell St.out.res 0
      have g0 := Blk.frozen St.out.res 0
      have d1 := Blk.cell St.out.res 1
      have g1 := Blk.frozen St.out.res 1
      have d2 := Blk.cell St.out.res 2
      have g2 := Blk.frozen St.out.res 2
      have d3 := Blk.cell St.out.res 3
      have g3 := Blk.frozen St.out.res 3
      simp only [List.getElem?_cons_zero, List.getElem?_cons_succ] at d0 d1 d2 d3
      have Done := Lib.hid (St.out.done h0)
      clear St
      go_wp2_with fail
      refine bodyPost_ret (results_cell_row rfl _ _ w.heap.size 67 #[.int .i64 (z), .string nm, .string ⟨#[]⟩, .string t] (0, 0) _ rfl Done.out.1 Try.underlying67 rfl (by kernel_rfl)) rfl ?_
      exact ⟨⟨(z, nm, ⟨#[]⟩, t), rfl, HSZ.out⟩, Done.out.2.1, Done.out.2.2⟩
    · have hgl8 := St.out.cur.lt
      have C := Lib.hid (l01Pick_any w0 n g (some ⟨w8.heap.size, 0, none⟩) 3 longNameL (by decide) (by decide) _ (Cur.alloc St.out.cur _) (rdC_new w8 (strC longNameL) _ rfl 9) (fun b off e => by cases e; omega))
      have St1 := Lib.hid (St.out.below ((Below.refl _ _).alloc (Nat.le_refl _) (.cells (strC longNameL).toArray 9)))
      clear St
      go_wp2_with fail
      refine C.out.mono ?_
      rintro e w9 ⟨⟨z, hz, rfl⟩, hc, hg⟩
      have St := Lib.hid (St1.out.drawn hc hg)
      have hzs := longNameL_ok z hz
      clear hc hg C hz St1
      obtain ⟨c0, c1, c2, c3⟩ := St.out.cells
      simp only at c0 c1 c2 c3
      have f1 := Blk.frozen St.out.box 1
      have St2 := Lib.hid (St.out.set_ 1 (.string z) (3, z, ⟨#[]⟩, t) rfl)
      have HSZ2 : Hid (AcSmall (3, z, ⟨#[]⟩, t) 100) := Lib.hid ⟨hzs, HSZ.out.2.1, HSZ.out.2.2⟩
      clear St HSZ
      have St := St2
      have HSZ := HSZ2
      clear St2 HSZ2
      obtain ⟨e0, e1, e2, e3⟩ := St.out.cells
      simp only at e0 e1 e2 e3
      have d0 := Blk.cell St.out.res 0
      have g0 := Blk.frozen St.out.res 0
      have d1 := Blk.cell St.out.res 1
      have g1 := Blk.frozen St.out.res 1
      have d2 := Blk.cell St.out.res 2
      have g2 := Blk.frozen St.out.res 2
      have d3 := Blk.cell St.out.res 3
      have g3 := Blk.frozen St.out.res 3
      simp only [List.getElem?_cons_zero, List.getElem?_cons_succ] at d0 d1 d2 d3
      have Done := Lib.hid (St.out.done h0)
      clear St
      go_wp2_with fail
      refine bodyPost_ret (results_cell_row rfl _ _ w.heap.size 67 #[.int .i64 (3), .string z, .string ⟨#[]⟩, .string t] (0, 0) _ rfl Done.out.1 Try.underlying67 rfl (by kernel_rfl)) rfl ?_
      exact ⟨⟨(3, z, ⟨#[]⟩, t), rfl, HSZ.out⟩, Done.out.2.1, Done.out.2.2⟩
    · skip
      obtain ⟨c0, c1, c2, c3⟩ := St.out.cells
      simp only at c0 c1 c2 c3
      have f3 := Blk.frozen St.out.box 3
      have St2 := Lib.hid (St.out.set_ 3 (.string ⟨#[120]⟩) (3, nm, ⟨#[]⟩, ⟨#[120]⟩) rfl)
      have HSZ2 : Hid (AcSmall (3, nm, ⟨#[]⟩, ⟨#[120]⟩) 100) := Lib.hid ⟨HSZ.out.1, HSZ.out.2.1, x_size⟩
      clear St HSZ
      have St := St2
      have HSZ := HSZ2
      clear St2 HSZ2
      obtain ⟨e0, e1, e2, e3⟩ := St.out.cells
      simp only at e0 e1 e2 e3
      have d0 := Blk.cell St.out.res 0
      have g0 := Blk.frozen St.out.res 0
      have d1 := Blk.cell St.out.res 1
      have g1 := Blk.frozen St.out.res 1
      have d2 := Blk.cell St.out.res 2
      have g2 := Blk.frozen St.out.res 2
      have d3 := Blk.cell St.out.res 3
      have g3 := Blk.frozen St.out.res 3
      simp only [List.getElem?_cons_zero, List.getElem?_cons_succ] at d0 d1 d2 d3
      have Done := Lib.hid (St.out.done h0)
      clear St
      go_wp2_with fail
      refine bodyPost_ret (results_cell_row rfl _ _ w.heap.size 67 #[.int .i64 (3), .string nm, .string ⟨#[]⟩, .string ⟨#[120]⟩] (0, 0) _ rfl Done.out.1 Try.underlying67 rfl (by kernel_rfl)) rfl ?_
      exact ⟨⟨(3, nm, ⟨#[]⟩, ⟨#[120]⟩), rfl, HSZ.out⟩, Done.out.2.1, Done.out.2.2⟩
    · skip
      obtain ⟨c0, c1, c2, c3⟩ := St.out.cells
      simp only at c0 c1 c2 c3
      have f2 := Blk.frozen St.out.box 2
      have St2 := Lib.hid (St.out.set_ 2 (.string ⟨#[120]⟩) (3, nm, ⟨#[120]⟩, t) rfl)
      have HSZ2 : Hid (AcSmall (3, nm, ⟨#[120]⟩, t) 100) := Lib.hid ⟨HSZ.out.1, x_size, HSZ.out.2.2⟩
      clear St HSZ
      have St := St2
      have HSZ := HSZ2
      clear St2 HSZ2
      obtain ⟨e0, e1, e2, e3⟩ := St.out.cells
      simp only at e0 e1 e2 e3
      have d0 := Blk.cell St.out.res 0
      have g0 := Blk.frozen St.out.res 0
      have d1 := Blk.cell St.out.res 1
      have g1 := Blk.frozen St.out.res 1
      have d2 := Blk.cell St.out.res 2
      have g2 := Blk.frozen St.out.res 2
      have d3 := Blk.cell St.out.res 3
      have g3 := Blk.frozen St.out.res 3
      simp only [List.getElem?_cons_zero, List.getElem?_cons_succ] at d0 d1 d2 d3
      have Done := Lib.hid (St.out.done h0)
      clear St
      go_wp2_with fail
      refine bodyPost_ret (results_cell_row rfl _ _ w.heap.size 67 #[.int .i64 (3), .string nm, .string ⟨#[120]⟩, .string t] (0, 0) _ rfl Done.out.1 Try.underlying67 rfl (by kernel_rfl)) rfl ?_
      exact ⟨⟨(3, nm, ⟨#[120]⟩, t), rfl, HSZ.out⟩, Done.out.2.1, Done.out.2.2⟩
    · have y0' : (y == 0) = false := by rw [beq_eq_false_iff_ne]; omega
      have y1' : (y == 1) = false := by rw [beq_eq_false_iff_ne]; omega
      have y2' : (y == 2) = false := by rw [beq_eq_false_iff_ne]; omega
      have y3' : (y == 3) = false := by rw [beq_eq_false_iff_ne]; omega
      obtain ⟨c0, c1, c2, c3⟩ := St.out.cells
      simp only at c0 c1 c2 c3
      have d0 := Blk.cell St.out.res 0
      have g0 := Blk.frozen St.out.res 0
      have d1 := Blk.cell St.out.res 1
      have g1 := Blk.frozen St.out.res 1
      have d2 := Blk.cell St.out.res 2
      have g2 := Blk.frozen St.out.res 2
      have d3 := Blk.cell St.out.res 3
      have g3 := Blk.frozen St.out.res 3
      simp only [List.getElem?_cons_zero, List.getElem?_cons_succ] at d0 d1 d2 d3
      have Done := Lib.hid (St.out.done h0)
      clear St
      go_wp2_with fail
      refine bodyPost_ret (results_cell_row rfl _ _ w.heap.size 67 #[.int .i64 (3), .string nm, .string ⟨#[]⟩, .string t] (0, 0) _ rfl Done.out.1 Try.underlying67 rfl (by kernel_rfl)) rfl ?_
      exact ⟨⟨(3, nm, ⟨#[]⟩, t), rfl, HSZ.out⟩, Done.out.2.1, Done.out.2.2⟩
  · have k1 : (1 + x == 1) = false := by rw [beq_eq_false_iff_ne]; omega
    have k3 : (1 + x == 3) = false := by rw [beq_eq_false_iff_ne]; omega
    have st : ActSt w w0 114 67 n g w2.heap.size w.heap.size (1 + x, nm, ⟨#[]⟩, ⟨#[]⟩) (w2.alloc (.cells #[.int .i64 (1 + x), .string nm, .string ⟨#[]⟩, .string ⟨#[]⟩] 67)) :=
      ⟨Cur.alloc hc2 _, Blk.new w2 _ _ _ rfl, (B1.out.kept hg2 (fun e => by have := Option.some.inj e; omega)).alloc _, grownBy_alloc' (grownBy_trans Hg1.out hg2) _, by omega, by omega, by omega, by omega, Nat.le_refl _, by omega⟩
    have hsz : AcSmall (1 + x, nm, ⟨#[]⟩, ⟨#[]⟩) 100 := ⟨by simp only; omega, no_size, no_size⟩
    have St := Lib.hid st
    have HSZ := Lib.hid hsz
    clear st hsz hc2 hg2 hnm C B1 Hg1
    obtain ⟨c0, c1, c2, c3⟩ := St.out.cells
    simp only at c0 c1 c2 c3
    have C := Lib.hid (l01Below_any w0 n g 40 (by omega) (by omega) _ St.out.cur)
    obtain ⟨c0, c1, c2, c3⟩ := St.out.cells
    simp only at c0 c1 c2 c3
    go_wp2_with fail
    refine C.out.mono ?_
    rintro e w8 ⟨⟨y, y0, y1, rfl⟩, hc, hg⟩
    have St := Lib.hid (St.out.drawn hc hg)
    clear hc hg C c0 c1 c2 c3
    rcases (show y = 0 ∨ y = 1 ∨ y = 2 ∨ y = 3 ∨ 4 ≤ y by omega) with rfl | rfl | rfl | rfl | hy
    · have hgl8 := St.out.cur.lt
      have C := Lib.hid (l01PickInt_any w0 n g (some ⟨w8.heap.size, 0, none⟩) 2 [0, 5] (by decide) (by decide) _ (Cur.alloc St.out.cur _) (rdC_new w8 (intC [0, 5]) _ rfl 3) (fun b off e => by cases e; omega))
      have St1 := Lib.hid (St.out.below ((Below.refl _ _).alloc (Nat.le_refl _) (.cells #[.int .i64 0, .int .i64 5] 3)))
      clear St
      go_wp2_with fail
      refine C.out.mono ?_
      rintro e w9 ⟨⟨z, hz, rfl⟩, hc, hg⟩
      have St := Lib.hid (St1.out.drawn hc hg)
      clear hc hg C hz St1
      obtain ⟨c0, c1, c2, c3⟩ := St.out.cells
      simp only at c0 c1 c2 c3
      have f0 := Blk.frozen St.out.box 0
      have St2 := Lib.hid (St.out.set_ 0 (.int .i64 z) (z, nm, ⟨#[]⟩, ⟨#[]⟩) rfl)
      have HSZ2 : Hid (AcSmall (z, nm, ⟨#[]⟩, ⟨#[]⟩) 100) := Lib.hid HSZ.out
      clear St HSZ
      have St := St2
      have HSZ := HSZ2
      clear St2 HSZ2
      obtain ⟨e0, e1, e2, e3⟩ := St.out.cells
      simp only at e0 e1 e2 e3
      have d0 := Blk.cell St.out.res 0
      have g0 := Blk.frozen St.out.res 0
      have d1 := Blk.cell St.out.res 1
      have g1 := Blk.frozen St.out.res 1
      have d2 := Blk.cell St.out.res 2
      have g2 := Blk.frozen St.out.res 2
      have d3 := Blk.cell St.out.res 3
      have g3 := Blk.frozen St.out.res 3
      simp only [List.getElem?_cons_zero, List.getElem?_cons_succ] at d0 d1 d2 d3
      have Done := Lib.hid (St.out.done h0)
      clear St
      go_wp2_with fail
      refine bodyPost_ret (results_cell_row rfl _ _ w.heap.size 67 #[.int .i64 (z), .string nm, .string ⟨#[]⟩, .string ⟨#[]⟩] (0, 0) _ rfl Done.out.1 Try.underlying67 rfl (by kernel_rfl)) rfl ?_
      exact ⟨⟨(z, nm, ⟨#[]⟩, ⟨#[]⟩), rfl, HSZ.out⟩, Done.out.2.1, Done.out.2.2⟩
    · have hgl8 := St.out.cur.lt
      have C := Lib.hid (l01Pick_any w0 n g (some ⟨w8.heap.size, 0, none⟩) 3 longNameL (by decide) (by decide) _ (Cur.alloc St.out.cur _) (rdC_new w8 (strC longNameL) _ rfl 9) (fun b off e => by cases e; omega))
      have St1 := Lib.hid (St.out.below ((Below.refl _ _).alloc (Nat.le_refl _) (.cells (strC longNameL).toArray 9)))
      clear St
      go_wp2_with fail
      refine C.out.mono ?_
      rintro e w9 ⟨⟨z, hz, rfl⟩, hc, hg⟩
      have St := Lib.hid (St1.out.drawn hc hg)
      have hzs := longNameL_ok z hz
      clear hc hg C hz St1
      obtain ⟨c0, c1, c2, c3⟩ := St.out.cells
      simp only at c0 c1 c2 c3
      have f1 := Blk.frozen St.out.box 1
      have St2 := Lib.hid (St.out.set_ 1 (.string z) (1 + x, z, ⟨#[]⟩, ⟨#[]⟩) rfl)
      have HSZ2 : Hid (AcSmall (1 + x, z, ⟨#[]⟩, ⟨#[]⟩) 100) := Lib.hid ⟨hzs, HSZ.out.2.1, HSZ.out.2.2⟩
      clear St HSZ
      have St := St2
      have HSZ := HSZ2
      clear St2 HSZ2
      obtain ⟨e0, e1, e2, e3⟩ := St.out.cells
      simp only at e0 e1 e2 e3
      have d0 := Blk.cell St.out.res 0
      have g0 := Blk.frozen St.out.res 0
      have d1 := Blk.cell St.out.res 1
      have g1 := Blk.frozen St.out.res 1
      have d2 := Blk.cell St.out.res 2
      have g2 := Blk.frozen St.out.res 2
      have d3 := Blk.cell St.out.res 3
      have g3 := Blk.frozen St.out.res 3
      simp only [List.getElem?_cons_zero, List.getElem?_cons_succ] at d0 d1 d2 d3
      have Done := Lib.hid (St.out.done h0)
      clear St
      go_wp2_with fail
      refine bodyPost_ret (results_cell_row rfl _ _ w.heap.size 67 #[.int .i64 (1 + x), .string z, .string ⟨#[]⟩, .string ⟨#[]⟩] (0, 0) _ rfl Done.out.1 Try.underlying67 rfl (by kernel_rfl)) rfl ?_
      exact ⟨⟨(1 + x, z, ⟨#[]⟩, ⟨#[]⟩), rfl, HSZ.out⟩, Done.out.2.1, Done.out.2.2⟩
    · skip
      obtain ⟨c0, c1, c2, c3⟩ := St.out.cells
      simp only at c0 c1 c2 c3
      have f3 := Blk.frozen St.out.box 3
      have St2 := Lib.hid (St.out.set_ 3 (.string ⟨#[120]⟩) (1 + x, nm, ⟨#[]⟩, ⟨#[120]⟩) rfl)
      have HSZ2 : Hid (AcSmall (1 + x, nm, ⟨#[]⟩, ⟨#[120]⟩) 100) := Lib.hid ⟨HSZ.out.1, HSZ.out.2.1, x_size⟩
      clear St HSZ
      have St := St2
      have HSZ := HSZ2
      clear St2 HSZ2
      obtain ⟨e0, e1, e2, e3⟩ := St.out.cells
      simp only at e0 e1 e2 e3
      have d0 := Blk.cell St.out.res 0
      have g0 := Blk.frozen St.out.res 0
      have d1 := Blk.cell St.out.res 1
      have g1 := Blk.frozen St.out.res 1
      have d2 := Blk.cell St.out.res 2
      have g2 := Blk.frozen St.out.res 2
      have d3 := Blk.cell St.out.res 3
      have g3 := Blk.frozen St.out.res 3
      simp only [List.getElem?_cons_zero, List.getElem?_cons_succ] at d0 d1 d2 d3
      have Done := Lib.hid (St.out.done h0)
      clear St
      go_wp2_with fail
      refine bodyPost_ret (results_cell_row rfl _ _ w.heap.size 67 #[.int .i64 (1 + x), .string nm, .string ⟨#[]⟩, .string ⟨#[120]⟩] (0, 0) _ rfl Done.out.1 Try.underlying67 rfl (by kernel_rfl)) rfl ?_
      exact ⟨⟨(1 + x, nm, ⟨#[]⟩, ⟨#[120]⟩), rfl, HSZ.out⟩, Done.out.2.1, Done.out.2.2⟩
    · skip
      obtain ⟨c0, c1, c2, c3⟩ := St.out.cells
      simp only at c0 c1 c2 c3
      have f2 := Blk.frozen St.out.box 2
      have St2 := Lib.hid (St.out.set_ 2 (.string ⟨#[120]⟩) (1 + x, nm, ⟨#[120]⟩, ⟨#[]⟩) rfl)
      have HSZ2 : Hid (AcSmall (1 + x, nm, ⟨#[120]⟩, ⟨#[]⟩) 100) := Lib.hid ⟨HSZ.out.1, x_size, HSZ.out.2.2⟩
      clear St HSZ
      have St := St2
      have HSZ := HSZ2
      clear St2 HSZ2
      obtain ⟨e0, e1, e2, e3⟩ := St.out.cells
      simp only at e0 e1 e2 e3
      have d0 := Blk.cell St.out.res 0
      have g0 := Blk.frozen St.out.res 0
      have d1 := Blk.cell St.out.res 1
      have g1 := Blk.frozen St.out.res 1
      have d2 := Blk.cell St.out.res 2
      have g2 := Blk.frozen St.out.res 2
      have d3 := Blk.cell St.out.res 3
      have g3 := Blk.frozen St.out.res 3
      simp only [List.getElem?_cons_zero, List.getElem?_cons_succ] at d0 d1 d2 d3
      have Done := Lib.hid (St.out.done h0)
      clear St
      go_wp2_with fail
      refine bodyPost_ret (results_cell_row rfl _ _ w.heap.size 67 #[.int .i64 (1 + x), .string nm, .string ⟨#[120]⟩, .string ⟨#[]⟩] (0, 0) _ rfl Done.out.1 Try.underlying67 rfl (by kernel_rfl)) rfl ?_
      exact ⟨⟨(1 + x, nm, ⟨#[120]⟩, ⟨#[]⟩), rfl, HSZ.out⟩, Done.out.2.1, Done.out.2.2⟩
    · have y0' : (y == 0) = false := by rw [beq_eq_false_iff_ne]; omega
      have y1' : (y == 1) = false := by rw [beq_eq_false_iff_ne]; omega
      have y2' : (y == 2) = false := by rw [beq_eq_false_iff_ne]; omega
      have y3' : (y == 3) = false := by rw [beq_eq_false_iff_ne]; omega
      obtain ⟨c0, c1, c2, c3⟩ := St.out.cells
      simp only at c0 c1 c2 c3
      have d0 := Blk.cell St.out.res 0
      have g0 := Blk.frozen St.out.res 0
      have d1 := Blk.cell St.out.res 1
      have g1 := Blk.frozen St.out.res 1
      have d2 := Blk.cell St.out.res 2
      have g2 := Blk.frozen St.out.res 2
      have d3 := Blk.cell St.out.res 3
      have g3 := Blk.frozen St.out.res 3
      simp only [List.getElem?_cons_zero, List.getElem?_cons_succ] at d0 d1 d2 d3
      have Done := Lib.hid (St.out.done h0)
      clear St
      go_wp2_with fail
      refine bodyPost_ret (results_cell_row rfl _ _ w.heap.size 67 #[.int .i64 (1 + x), .string nm, .string ⟨#[]⟩, .string ⟨#[]⟩] (0, 0) _ rfl Done.out.1 Try.underlying67 rfl (by kernel_rfl)) rfl ?_
      exact ⟨⟨(1 + x, nm, ⟨#[]⟩, ⟨#[]⟩), rfl, HSZ.out⟩, Done.out.2.1, Done.out.2.2⟩

end Go.Proofs.Ytdecehecjlbbiaa
