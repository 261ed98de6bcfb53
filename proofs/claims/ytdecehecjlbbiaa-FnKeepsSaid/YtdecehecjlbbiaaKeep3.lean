/-
  The walk of the draw of a right disk.
-/
import Derived.Test.YtdecehecjlbbiaaKeep1
import Derived.Test.YtdecehecjlbbiaaPuDrawD
namespace Go.Proofs.Ytdecehecjlbbiaa
open Go.RowKit

set_option maxHeartbeats 4000000 in
set_option maxRecDepth 100000 in
theorem drawRightDisk_any (ao : Option Addr) (cap n : Nat) (w : World) (hn : n ≤ 1048576) (h : Bytes w ao n) :
    Calls Try.prog 32 #[.slice ao n cap] w fun e w' => (∃ l, DiskGood l ∧ GivesK w.heap.size l e w') ∧ Below w.heap.size w w' := by
  have hz := alloc_size w (.cells #[.slice none 0 0] 29)
  have hB := (Below.refl w.heap.size w).alloc (Nat.le_refl _) (.cells #[.slice none 0 0] 29)
  have b2 := Blk.new w 29 [.slice none 0 0] _ rfl
  have C := Lib.hid (l01New_any ao cap n _ hn (h.below hB (Nat.le_refl _)))
  have HB := Lib.hid hB
  have HZ := Lib.hid hz
  have B2 := Lib.hid b2
  clear h hz hB b2
  go_enter Try.func32, Try.ntmps32
  go_wp2_with fail
  generalize w.alloc (.cells #[.slice none 0 0] 29) = wA at *
  refine C.out.mono ?_
  rintro e w1 ⟨⟨g, rfl, hc1⟩, hb1⟩
  have hge := hc1.ge
  have hgl := hc1.lt
  have hzA := HZ.out
  have hs1 := hb1.size
  have st : DiskSt w wA 114 29 n g w1.heap.size w.heap.size (w1.heap.size + 1) [] (.slice none 0 0) (w1.alloc (.cells #[.slice none 0 0] 29)) :=
    ⟨Cur.alloc hc1 _, Own.nil _ _ _, Blk.new w1 _ _ _ rfl, (B2.out.below hb1 (by omega)).alloc _, by rw [alloc_size]; exact Nat.le_refl _, grownBy_below (HB.out.trans ((hb1.mono (by omega)).alloc (by omega) _)) (Nat.le_refl _) _, by omega, by omega, by omega, by omega, by omega, by omega, by omega, by omega, by omega, by omega⟩
  clear hc1 hb1 C
  go_wp2_with fail
  generalize w1.alloc (.cells #[.slice none 0 0] 29) = w2 at *
  go_loopw [5] (fun i wr => ∃ (k : Nat) (l : List Fl) (u : Value), k ≤ 6 ∧ i = .int .i64 k ∧ l.length ≤ k ∧ Hid (DiskGood l) ∧ DiskSt w wA 114 29 n g w1.heap.size w.heap.size (w1.heap.size + 1) l u wr) (fun i _ => 6 - (intOf i).toNat)
  case atStart => exact ⟨0, [], _, Nat.zero_le _, rfl, Nat.le_refl _, Lib.hid (by decide), st⟩
  case round =>
    clear st
    obtain ⟨k, l, u, hk, rfl, hlk, HG, st⟩ := hrel
    have C := Lib.hid (l01Below_any wA n g 6 (by omega) (by omega) wr st.cur)
    have St := Lib.hid st
    clear st
    go_wp2_with fail
    refine C.out.mono ?_
    rintro e w3 ⟨⟨x, x0, x1, rfl⟩, hc, hg⟩
    have St3 := Lib.hid (St.out.drawn hc hg)
    clear hc hg St C
    by_cases hlt : (k : Int) < x
    · have C := Lib.hid (l01Below_any wA n g 30 (by omega) (by omega) w3 St3.out.cur)
      go_wp2_with fail
      refine C.out.mono ?_
      rintro e w4 ⟨⟨y, y0, y1, rfl⟩, hc, hg⟩
      have St4 := Lib.hid (St3.out.drawn hc hg)
      obtain ⟨m, rfl⟩ := Int.eq_ofNat_of_zero_le y0
      have C := Lib.hid (l01Text_any wA n g m (by omega) w4 St4.out.cur)
      clear hc hg St3
      go_wp2_with fail
      refine C.out.mono ?_
      rintro e w5 ⟨⟨t, ht, rfl⟩, hc, hg⟩
      have St5 := Lib.hid (St4.out.drawn hc hg)
      have ht' : t.size ≤ 29 := by have : t.size = m := ht; omega
      obtain ⟨q, c, rfl⟩ := Own.shape St5.out.own
      clear hc hg St4 C ht
      have c0 := St5.out.cell
      have N1 := Lib.hid (l06Named_any wA n g w5.drew (St5.out.drewN 1).cur)
      have hnl : l.length ≤ 5 := by omega
      have hwr : IntKind.i64.wrap ((t.size : Int) + 1) = (t.size : Int) + 1 := IntWalk.i64_in _ ⟨by omega, by omega⟩
      go_wp2_with fail
      go_region_with (first
          | (go_at_call 78; (with_reducible refine N1.out.mono ?_); rintro e w6 ⟨⟨s, hs, rfl⟩, hc6, hg6⟩; have St6 := Lib.hid ((St5.out.drewN 1).drawn hc6 hg6); have Hs := Lib.hid hs; have e6 := St6.out.cell; have N2 := Lib.hid (l01Below_any wA n g ((t.size : Int) + 1) (by omega) (by omega) w6 hc6))
          | (go_at_call 75; (with_reducible refine N2.out.mono ?_); rintro e w7 ⟨⟨z, z0, z1, rfl⟩, hc7, hg7⟩; have St7 := Lib.hid (St6.out.drawn hc7 hg7); have e7 := St7.out.cell)
          | (go_at_call 77; (with_reducible refine (sPut_any _ l (s, t, z) w7 (by omega) St7.out.rd).mono ?_); rintro e w8 ⟨⟨v8, u8, rfl, ho8⟩, hb8⟩; obtain ⟨rfl, ho8⟩ := ho8; obtain ⟨q8, k8, rfl⟩ := Own.shape ho8; have St8 := Lib.hid (St7.out.below hb8); have HO8 := Lib.hid ho8; have d8 := Blk.cell St8.out.box 0; have f8 := Blk.frozen St8.out.box 0; simp only [List.getElem?_cons_zero] at d8))
      all_goals
        have hpl := putL_len' l (s, t, z)
        have hs7 := St7.out.size
        have HG2 := Lib.hid (putL_good (f := (s, t, z)) HG.out (by omega) (by unfold FileGood; have := Hs.out; simp only; omega))
        have StF := Lib.hid (St8.out.put HO8.out hs7)
        clear St5 St6 St7 St8 HO8 d8 f8 e6 e7 c0 N1 N2 HG
        go_wp2_with fail
        exact ⟨⟨k + 1, _, _, by omega, by go_num, by omega, HG2, StF.out⟩, by simp [intOf]; omega⟩
    · obtain ⟨q, c, rfl⟩ := Own.shape St3.out.own
      have c0 := St3.out.cell
      have d2 := Blk.cell St3.out.res 0
      have f2 := Blk.frozen St3.out.res 0
      simp only [List.getElem?_cons_zero] at d2
      have E2 := Lib.hid (Blk.set_ St3.out.res 0 (.slice q l.length c))
      have FO := Lib.hid ((Own.setCell (a := ⟨w.heap.size, 0, none⟩) St3.out.own (by simp only; omega) (.slice q l.length c)).mono (by omega : w.heap.size ≤ _))
      have FG := Lib.hid ((below_only St3.out.low (by omega) (Nat.le_refl _)).setCell (p := ⟨w.heap.size, 0, none⟩) (Nat.le_refl _) (.slice q l.length c))
      clear St3
      go_wp2_with fail
      refine bodyPost_ret (results_cell_row rfl _ _ w.heap.size 29 #[.slice q l.length c] (0, 0) _ rfl E2.out Try.underlying29 rfl (by kernel_rfl)) rfl ?_
      exact ⟨⟨l, HG.out, _, _, rfl, rfl, FO.out⟩, FG.out⟩

end Go.Proofs.Ytdecehecjlbbiaa
