/-
  The walks of a signature's reading, the reference's side.
-/
import Derived.Test.YtnlddjlbioelnaaRead2
namespace Go.Proofs.Ytnlddjlbioelnaa
open Go.RowKit

theorem Blk.within {w w' : World} {g : Nat} {t : TypeId} {cs : List Value} {lo hi : Nat} (h : Blk w g t cs) (hw : Within lo hi w w') (hn : ¬ (lo ≤ g ∧ g < hi)) : Blk w' g t cs := (hw.block g h.lt hn).trans h

set_option maxHeartbeats 1000000 in
theorem cut5_any (t : ByteArray) (a k : Nat) (w : World) (hk : k ≤ 8) (ht : t.size ≤ 1048576) (hr : a + k * 16 ≤ t.size) :
    Calls Try.prog 42 #[.string t, .int .i64 a, .int .i64 k] w fun e w' => (∃ v, e = .returned v ∧ OwnS w' w.heap.size v (cutsL t a k)) ∧ Below w.heap.size w w' := by
  have ha : (a : Int) ≤ 1048576 := by omega
  have ha0 : (0 : Int) ≤ (a : Int) := by omega
  have HR := Lib.hid hr
  clear hr
  go_enter Try.func42, Try.ntmps42
  go_wp2_with fail
  go_loopw [7, 8] (fun v i wr => ∃ j : Nat, j ≤ k ∧ i = .int .i64 j ∧ OwnS wr w.heap.size v (cutsL t a j) ∧ Below w.heap.size w wr) (fun _ i _ => k - (intOf i).toNat)
  case atStart => exact ⟨0, Nat.zero_le _, rfl, OwnS.empty _ _ _ (Nat.le_refl _), (Below.refl _ _).alloc (Nat.le_refl _) _⟩
  case round =>
    obtain ⟨j, hj, rfl, hown, hb⟩ := hrel
    have hbs := hb.size
    by_cases hlt : j < k
    · have hcut := fun wx => cut_str (P := Try.prog) Try.underlying9 t ((a : Int) + (j : Int) * 16) ((a : Int) + ((j : Int) + 1) * 16) (a + j * 16) (a + (j + 1) * 16) (by push_cast; omega) (by push_cast; omega) (by omega) (by have := HR.out; omega) wx
      have hl := cutsL_len t a j
      have hl' : (cutsL t a j).length ≤ 8 := by omega
      have HN := Lib.hid (cutsL_next t a j)
      have hj8 : (j : Int) ≤ 8 := by omega
      have hj0 : (0 : Int) ≤ (j : Int) := by omega
      clear hl
      generalize cutsL t a j = l0 at *
      go_wp2_with (at_builtin; refine wpList_push_strs _ _ rfl _ _ 39 rfl 9 Try.underlying39 Try.infoStr _ _ l0 rfl hown _ [t.extract (a + j * 16) (a + (j + 1) * 16)] rfl 1 1 rfl _ rfl rfl (by omega) hbs rfl ?_; intro v2 w2 own2 hg2 hb2)
      exact ⟨⟨j + 1, by omega, by go_num, by rw [HN.out]; exact own2, hb.trans hb2⟩, by simp [intOf]; omega⟩
    · obtain rfl : j = k := by omega
      have Ho := Lib.hid hown
      clear hown
      go_wp2_with fail
      go_ret
      exact ⟨⟨_, rfl, Ho.out⟩, hb⟩

set_option maxHeartbeats 4000000 in
set_option maxRecDepth 100000 in
theorem sReadSig_any (t : ByteArray) (ht : t.size ≤ 1048576) (p : Int) (o s d : List ByteArray) (b : Bool) (hr : readV t = (p, o, s, d, b)) (w : World) :
    Calls Try.prog 24 #[.string t] w fun e w' => (∃ v, e = .returned (.tuple #[v, .bool b]) ∧ RdSig w' v p o s d) ∧ Below w.heap.size w w' := by
  have hz1 := alloc_size w (.cells #[.int .i64 0, .slice none 0 0, .slice none 0 0, .slice none 0 0] 44)
  have hB := (Below.refl w.heap.size w).alloc (Nat.le_refl _) (.cells #[.int .i64 0, .slice none 0 0, .slice none 0 0, .slice none 0 0] 44)
  have b1 := Blk.new w 44 [.int .i64 0, .slice none 0 0, .slice none 0 0, .slice none 0 0] _ rfl
  by_cases h321 : t.size = 321
  · have h0 : 0 < t.size := by omega
    have hh : headB t = (t[0].toNat : Int) := by unfold headB; rw [dif_pos h0]
    have e255 : (t[0].toNat : Int) ≤ 255 := by have := t[0].toNat_lt; omega
    have e0 : (0 : Int) ≤ (t[0].toNat : Int) := by omega
    have e1 : ((t.size : Int) != 321) = false := by rw [bne_eq_false_iff_eq]; omega
    by_cases h15 : headB t ≤ 15
    · rw [readV_yes ⟨h321, h15⟩] at hr
      injection hr with hr1 hr
      injection hr with hr2 hr
      injection hr with hr3 hr
      injection hr with hr4 hr5
      have lo := cutsL_len t 1 8
      have ls := cutsL_len t 129 8
      have ld := cutsL_len t 257 4
      have C1 := fun W => cut5_any t 1 8 W (by omega) ht (by omega)
      have C2 := fun W => cut5_any t 129 8 W (by omega) ht (by omega)
      have C3 := fun W => cut5_any t 257 4 W (by omega) ht (by omega)
      rw [hr2] at lo C1
      rw [hr3] at ls C2
      rw [hr4] at ld C3
      subst hr5
      have hp : p = (t[0].toNat : Int) := by rw [← hr1, hh]
      rw [hh] at h15
      generalize hx : (t[0].toNat : Int) = x at *
      have hz2 := alloc_size (w.alloc (.cells #[.int .i64 0, .slice none 0 0, .slice none 0 0, .slice none 0 0] 44)) (.cells #[.int .i64 x, .slice none 0 0, .slice none 0 0, .slice none 0 0] 44)
      have hB2 := hB.alloc (by omega) (.cells #[.int .i64 x, .slice none 0 0, .slice none 0 0, .slice none 0 0] 44)
      have b2 := Blk.new (w.alloc (.cells #[.int .i64 0, .slice none 0 0, .slice none 0 0, .slice none 0 0] 44)) 44 [.int .i64 x, .slice none 0 0, .slice none 0 0, .slice none 0 0] _ rfl
      rw [hz1] at b2
      have HP := Lib.hid hp
      have C1 := Lib.hid C1
      have C2 := Lib.hid C2
      have C3 := Lib.hid C3
      have HB := Lib.hid hB2
      have B1 := Lib.hid (b1.alloc (.cells #[.int .i64 x, .slice none 0 0, .slice none 0 0, .slice none 0 0] 44))
      have B2 := Lib.hid b2
      have HZ : Hid (((w.alloc (.cells #[.int .i64 0, .slice none 0 0, .slice none 0 0, .slice none 0 0] 44)).alloc (.cells #[.int .i64 x, .slice none 0 0, .slice none 0 0, .slice none 0 0] 44)).heap.size = w.heap.size + 2) := Lib.hid (by omega)
      have HX := Lib.hid hx
      have hd16 : decide ((16 : Int) ≤ x) = false := decide_eq_false (by omega)
      have LO := Lib.hid (And.intro lo (And.intro ls ld))
      subst hx
      clear hr1 hr2 hr3 hr4 hh hp h321 hB b1 hz1 hz2 hB2 b2 lo ls ld
      go_enter Try.func24, Try.ntmps24
      go_wp2_with fail
      refine (C1.out _).mono ?_
      rintro e w1 ⟨⟨v1, rfl, ho1⟩, hb1⟩
      obtain ⟨q1, m1, rfl⟩ := Own.shape ho1
      rw [HZ.out] at hb1 ho1
      have D1 := B1.out.below hb1 (by omega)
      have D2 := B2.out.below hb1 (by omega)
      have g1 : w1.cell? ⟨w.heap.size + 1, 1, none⟩ = some (.slice none 0 0) := D2.cell 1
      have g2 := D2.frozen 1
      have X1 := Lib.hid (D1.far (p := ⟨w.heap.size + 1, 1, none⟩) (by simp only; omega) (.slice q1 o.length m1))
      have X2 := Lib.hid (D2.set_ 1 (.slice q1 o.length m1))
      have O1 := Lib.hid (Own.setCell (a := ⟨w.heap.size + 1, 1, none⟩) ho1 (by simp only; omega) (.slice q1 o.length m1))
      have S1 : Hid (w.heap.size + 2 ≤ (w1.setCell ⟨w.heap.size + 1, 1, none⟩ (.slice q1 o.length m1)).heap.size) := Lib.hid (by have := hb1.size; rw [HZ.out] at this; rw [size_setC]; exact this)
      have HB1 := Lib.hid ((HB.out.trans (hb1.mono (by omega))).setCell (p := ⟨w.heap.size + 1, 1, none⟩) (by simp only; omega) (.slice q1 o.length m1))
      clear D1 D2 ho1 hb1 C1
      go_wp2_with fail
      refine (C2.out _).mono ?_
      rintro e w2 ⟨⟨v2, rfl, ho2⟩, hb2⟩
      obtain ⟨q2, m2, rfl⟩ := Own.shape ho2
      have hs1 := S1.out
      have D1 := X1.out.below hb2 (by omega)
      have D2 := X2.out.below hb2 (by omega)
      have g3 : w2.cell? ⟨w.heap.size + 1, 2, none⟩ = some (.slice none 0 0) := D2.cell 2
      have g4 := D2.frozen 2
      have P1 := O1.out.below hb2 (Nat.le_refl _)
      have Y1 := Lib.hid (D1.far (p := ⟨w.heap.size + 1, 2, none⟩) (by simp only; omega) (.slice q2 s.length m2))
      have Y2 := Lib.hid (D2.set_ 2 (.slice q2 s.length m2))
      have O1' := Lib.hid (Own.setCell (a := ⟨w.heap.size + 1, 2, none⟩) P1 (by simp only; omega) (.slice q2 s.length m2))
      have O2 := Lib.hid (Own.setCell (a := ⟨w.heap.size + 1, 2, none⟩) (Own.mono ho2 hs1) (by simp only; omega) (.slice q2 s.length m2))
      have S2 : Hid (w.heap.size + 2 ≤ (w2.setCell ⟨w.heap.size + 1, 2, none⟩ (.slice q2 s.length m2)).heap.size) := Lib.hid (by have := hb2.size; rw [size_setC]; omega)
      have HB2 := Lib.hid ((HB1.out.trans (hb2.mono (by omega))).setCell (p := ⟨w.heap.size + 1, 2, none⟩) (by simp only; omega) (.slice q2 s.length m2))
      clear D1 D2 ho2 hb2 C2 P1 hs1 g1 g2
      go_wp2_with fail
      refine (C3.out _).mono ?_
      rintro e w3 ⟨⟨v3, rfl, ho3⟩, hb3⟩
      obtain ⟨q3, m3, rfl⟩ := Own.shape ho3
      have hs2 := S2.out
      have D1 := Y1.out.below hb3 (by omega)
      have D2 := Y2.out.below hb3 (by omega)
      clear g3 g4
      have j0 : w3.cell? ⟨w.heap.size + 1, 0, none⟩ = some (.int .i64 (t[0].toNat : Int)) := D2.cell 0
      have j1 : w3.cell? ⟨w.heap.size + 1, 1, none⟩ = some (.slice q1 o.length m1) := D2.cell 1
      have j2 : w3.cell? ⟨w.heap.size + 1, 2, none⟩ = some (.slice q2 s.length m2) := D2.cell 2
      have j3 : w3.cell? ⟨w.heap.size + 1, 3, none⟩ = some (.slice none 0 0) := D2.cell 3
      have j4 := D2.frozen 3
      have k0 : w3.cell? ⟨w.heap.size, 0, none⟩ = some (.int .i64 0) := D1.cell 0
      have k1 : w3.cell? ⟨w.heap.size, 1, none⟩ = some (.slice none 0 0) := D1.cell 1
      have k2 : w3.cell? ⟨w.heap.size, 2, none⟩ = some (.slice none 0 0) := D1.cell 2
      have k3 : w3.cell? ⟨w.heap.size, 3, none⟩ = some (.slice none 0 0) := D1.cell 3
      have k4 := D1.frozen 0
      have k5 := D1.frozen 1
      have k6 := D1.frozen 2
      have k7 := D1.frozen 3
      have P1 := Lib.hid (O1'.out.below hb3 (Nat.le_refl _))
      have P2 := Lib.hid (O2.out.below hb3 (Nat.le_refl _))
      have P3 := Lib.hid (Own.mono ho3 hs2)
      have HB3 := Lib.hid (HB2.out.trans (hb3.mono (by omega)))
      have E1 := Lib.hid (((((D1.far (p := ⟨w.heap.size + 1, 3, none⟩) (by simp only; omega) (.slice q3 d.length m3)).set_ 0 (.int .i64 (t[0].toNat : Int))).set_ 1 (.slice q1 o.length m1)).set_ 2 (.slice q2 s.length m2)).set_ 3 (.slice q3 d.length m3))
      clear D1 D2 ho3 hb3 C3 hs2
      go_wp2_with fail
      have hst : ∀ (v : Value) (l : List ByteArray), OwnS w3 (w.heap.size + 2) v l → OwnS (((((w3.setCell ⟨w.heap.size + 1, 3, none⟩ (.slice q3 d.length m3)).setCell ⟨w.heap.size, 0, none⟩ (.int .i64 (t[0].toNat : Int))).setCell ⟨w.heap.size, 1, none⟩ (.slice q1 o.length m1)).setCell ⟨w.heap.size, 2, none⟩ (.slice q2 s.length m2)).setCell ⟨w.heap.size, 3, none⟩ (.slice q3 d.length m3)) w.heap.size v l := fun v l h =>
        (((((h.setCell (a := ⟨w.heap.size + 1, 3, none⟩) (by simp only; omega) _).setCell (a := ⟨w.heap.size, 0, none⟩) (by simp only; omega) _).setCell (a := ⟨w.heap.size, 1, none⟩) (by simp only; omega) _).setCell (a := ⟨w.heap.size, 2, none⟩) (by simp only; omega) _).setCell (a := ⟨w.heap.size, 3, none⟩) (by simp only; omega) _).mono (by omega)
      obtain ⟨_, _, e1', R1⟩ := (hst _ _ P1.out).rd
      cases e1'
      obtain ⟨_, _, e2', R2⟩ := (hst _ _ P2.out).rd
      cases e2'
      obtain ⟨_, _, e3', R3⟩ := (hst _ _ P3.out).rd
      cases e3'
      have HF := ((((HB3.out.setCell (p := ⟨w.heap.size + 1, 3, none⟩) (by simp only; omega) (.slice q3 d.length m3)).setCell (p := ⟨w.heap.size, 0, none⟩) (by simp only; omega) (.int .i64 (t[0].toNat : Int))).setCell (p := ⟨w.heap.size, 1, none⟩) (by simp only; omega) (.slice q1 o.length m1)).setCell (p := ⟨w.heap.size, 2, none⟩) (by simp only; omega) (.slice q2 s.length m2)).setCell (p := ⟨w.heap.size, 3, none⟩) (by simp only; omega) (.slice q3 d.length m3)
      refine bodyPost_ret (results_cell_row_tmp rfl _ _ _ w.heap.size 44 #[.int .i64 (t[0].toNat : Int), .slice q1 o.length m1, .slice q2 s.length m2, .slice q3 d.length m3] (0, 0) _ _ rfl rfl E1.out Try.underlying44 (by kernel_rfl)) rfl ?_
      exact ⟨⟨_, rfl, ⟨_, _, _, _, _, _, by rw [HP.out], R1, R2, R3⟩⟩, HF⟩
    · rw [readV_no (fun h => h15 h.2)] at hr
      injection hr with hr1 hr
      injection hr with hr2 hr
      injection hr with hr3 hr
      injection hr with hr4 hr5
      subst hr1
      subst hr2
      subst hr3
      subst hr4
      subst hr5
      rw [hh] at h15
      have hd16 : decide ((16 : Int) ≤ (t[0].toNat : Int)) = true := decide_eq_true (by omega)
      have HB := Lib.hid hB
      have B1 := Lib.hid b1
      have ht0 : 0 < t.size := h0
      clear hh h321 hB b1 hz1 h15
      go_enter Try.func24, Try.ntmps24
      go_wp2_with fail
      refine bodyPost_ret (results_cell_row_tmp rfl _ _ _ w.heap.size 44 #[.int .i64 0, .slice none 0 0, .slice none 0 0, .slice none 0 0] (0, 0) _ _ rfl rfl B1.out Try.underlying44 (by kernel_rfl)) rfl ?_
      exact ⟨⟨_, rfl, ⟨none, 0, none, 0, none, 0, rfl, RdS.nil _ _, RdS.nil _ _, RdS.nil _ _⟩⟩, HB.out⟩
  · rw [readV_no (fun h => h321 h.1)] at hr
    injection hr with hr1 hr
    injection hr with hr2 hr
    injection hr with hr3 hr
    injection hr with hr4 hr5
    subst hr1
    subst hr2
    subst hr3
    subst hr4
    subst hr5
    have e1 : ((t.size : Int) != 321) = true := by rw [bne_iff_ne]; omega
    have HB := Lib.hid hB
    have B1 := Lib.hid b1
    clear h321 hB b1 hz1
    go_enter Try.func24, Try.ntmps24
    go_wp2_with fail
    refine bodyPost_ret (results_cell_row_tmp rfl _ _ _ w.heap.size 44 #[.int .i64 0, .slice none 0 0, .slice none 0 0, .slice none 0 0] (0, 0) _ _ rfl rfl B1.out Try.underlying44 (by kernel_rfl)) rfl ?_
    exact ⟨⟨_, rfl, ⟨none, 0, none, 0, none, 0, rfl, RdS.nil _ _, RdS.nil _ _, RdS.nil _ _⟩⟩, HB.out⟩

end Go.Proofs.Ytnlddjlbioelnaa
