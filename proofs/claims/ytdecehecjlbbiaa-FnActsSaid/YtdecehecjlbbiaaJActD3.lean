/-
  The walk of the draw of a disk.
-/
import Derived.Test.YtdecehecjlbbiaaJKeep1
import Derived.Test.YtdecehecjlbbiaaBase10
import Derived.Test.YtdecehecjlbbiaaJDraw3
import Derived.Test.YtdecehecjlbbiaaJLong1
import Derived.Test.YtdecehecjlbbiaaJDec1
namespace Go.Proofs.Ytdecehecjlbbiaa
open Go.RowKit

def badNameL : List ByteArray := [⟨#[]⟩, ⟨#[49, 50, 51, 52, 53, 54, 55, 56]⟩, ⟨#[49, 50, 51, 52, 53, 54, 55, 56, 57]⟩]
theorem badNameL_ok : ∀ s ∈ badNameL, s.size ≤ 100 := by decide +kernel

theorem Try.infoFileD : (Try.prog.info? 49).map (fun i => (i.zero, i.size, i.bytes)) = some (some (.agg #[.string ⟨#[]⟩, .string ⟨#[]⟩, .int .i64 0]), 3, 40) := by kernel_rfl

set_option maxHeartbeats 16000000 in
set_option maxRecDepth 100000 in
theorem l06Disk_any (w0 : World) (n g : Nat) (w : World) (h : Cur 114 w0 n w g) (h0 : w0.heap.size ≤ w.heap.size) :
    Calls Try.prog 93 #[.pointer (some ⟨g, 0, none⟩)] w (DrawnDk 114 w0 n g w) := by
  have hgl := h.lt
  have hz := alloc_size w (.cells #[.slice none 0 0] 29)
  have hz2 := alloc_size (w.alloc (.cells #[.slice none 0 0] 29)) (.cells #[.slice none 0 0] 29)
  have hB := ((Below.refl w.heap.size w).alloc (Nat.le_refl _) (.cells #[.slice none 0 0] 29)).alloc (by omega) (.cells #[.slice none 0 0] 29)
  have b2 := Blk.new (w.alloc (.cells #[.slice none 0 0] 29)) 29 [.slice none 0 0] _ rfl
  rw [hz] at b2
  have st : DiskSt w w0 114 29 n g (w.heap.size + 1) w.heap.size (w.heap.size + 2) [] (.slice none 0 0) ((w.alloc (.cells #[.slice none 0 0] 29)).alloc (.cells #[.slice none 0 0] 29)) :=
    ⟨Cur.alloc (Cur.alloc h _) _, Own.nil _ _ _, b2, (Blk.new w 29 [.slice none 0 0] _ rfl).alloc _, by omega, grownBy_below hB (Nat.le_refl _) _, by omega, by omega, by omega, by omega, by omega, by omega, by omega, by omega, by omega, by omega⟩
  clear h hB b2 hz2
  have HZ := Lib.hid hz
  clear hz
  go_enter Try.func93, Try.ntmps93
  have hz' := HZ.out
  go_wp2_with fail
  clear hz'
  generalize (w.alloc (.cells #[.slice none 0 0] 29)).alloc (.cells #[.slice none 0 0] 29) = wA at *
  go_loopw [4] (fun i wr => ∃ (k : Nat) (l : List Fl) (u : Value), k ≤ 6 ∧ i = .int .i64 k ∧ l.length ≤ k ∧ Hid (DiskGood l) ∧ DiskSt w w0 114 29 n g (w.heap.size + 1) w.heap.size (w.heap.size + 2) l u wr) (fun i _ => 6 - (intOf i).toNat)
  case atStart => exact ⟨0, [], _, Nat.zero_le _, rfl, Nat.le_refl _, Lib.hid (by decide), st⟩
  case round =>
    clear st
    obtain ⟨k, l, u, hk, rfl, hlk, HG, st⟩ := hrel
    have C := Lib.hid (l01Below_any w0 n g 6 (by omega) (by omega) wr st.cur)
    have St := Lib.hid st
    clear st
    go_wp2_with fail
    refine C.out.mono ?_
    rintro e w3 ⟨⟨x, x0, x1, rfl⟩, hc, hg⟩
    have St3 := Lib.hid (St.out.drawn hc hg)
    clear hc hg St C
    by_cases hlt : (k : Int) < x
    · have C := Lib.hid (l01Below_any w0 n g 9 (by omega) (by omega) w3 St3.out.cur)
      go_wp2_with fail
      refine C.out.mono ?_
      rintro e w4 ⟨⟨y, y0, y1, rfl⟩, hc, hg⟩
      have St4 := Lib.hid (St3.out.drawn hc hg)
      obtain ⟨m, rfl⟩ := Int.eq_ofNat_of_zero_le y0
      have C := Lib.hid (l01Text_any w0 n g m (by omega) w4 St4.out.cur)
      clear hc hg St3
      go_wp2_with fail
      refine C.out.mono ?_
      rintro e w5 ⟨⟨t, ht, rfl⟩, hc, hg⟩
      have St5 := Lib.hid (St4.out.drawn hc hg)
      have ht' : t.size ≤ 29 := by have : t.size = m := ht; omega
      obtain ⟨q, c, rfl⟩ := Own.shape St5.out.own
      clear hc hg St4 C ht
      have c0 := St5.out.cell
      have N1 := Lib.hid (l06Named_any w0 n g w5.drew (St5.out.drewN 1).cur)
      have hnl : l.length ≤ 5 := by omega
      have hwr : IntKind.i64.wrap ((t.size : Int) + 1) = (t.size : Int) + 1 := IntWalk.i64_in _ ⟨by omega, by omega⟩
      go_wp2_with fail
      go_region_with (first
          | (go_at_call 78; (with_reducible refine N1.out.mono ?_); rintro e w6 ⟨⟨s, hs, rfl⟩, hc6, hg6⟩; have St6 := Lib.hid ((St5.out.drewN 1).drawn hc6 hg6); have Hs := Lib.hid hs; have e6 := St6.out.cell; have N2 := Lib.hid (l01Below_any w0 n g ((t.size : Int) + 1) (by omega) (by omega) w6 hc6))
          | (go_at_call 75; (with_reducible refine N2.out.mono ?_); rintro e w7 ⟨⟨z, z0, z1, rfl⟩, hc7, hg7⟩; have St7 := Lib.hid (St6.out.drawn hc7 hg7); have e7 := St7.out.cell)
          | (go_at_call 77; (with_reducible refine (sPut_any _ l (s, t, z) w7 (by omega) St7.out.rd).mono ?_); rintro e w8 ⟨⟨v8, u8, rfl, ho8⟩, hb8⟩; obtain ⟨rfl, ho8⟩ := ho8; obtain ⟨q8, k8, rfl⟩ := Own.shape ho8; have St8 := Lib.hid (St7.out.below hb8); have HO8 := Lib.hid ho8; have d8 := Blk.cell St8.out.box 0; have f8 := Blk.frozen St8.out.box 0; simp only [List.getElem?_cons_zero] at d8))
      all_goals
        have hpl := putL_len' l (s, t, z)
        have hs7 := St7.out.size
        have HG2 := Lib.hid (putL_good (f := (s, t, z)) HG.out (by omega) (by unfold FileGood; have := Hs.out; simp only; omega))
        have StF := Lib.hid (St8.out.put HO8.out hs7)
        clear St5 St6 St7 St8 HO8 d8 f8 e6 e7 c0 N1 N2 HG
        go_wp2_with fail
        exact ⟨⟨k + 1, _, _, by omega, by go_num, by omega, HG2, StF.out⟩, by simp [intOf]; omega⟩
    · have hl6 : l.length ≤ 6 := by omega
      have HF := Lib.hid (good_small HG.out)
      by_cases hnil : l = []
      · subst hnil
        obtain ⟨q, c, rfl⟩ := Own.shape St3.out.own
        have d3 := St3.out.cell
        have d2 := Blk.cell St3.out.res 0
        have f2 := Blk.frozen St3.out.res 0
        simp only [List.getElem?_cons_zero] at d2
        have E2 := Lib.hid (St3.out.done h0)
        go_wp2_with fail
        refine bodyPost_ret (results_cell_row rfl _ _ w.heap.size 29 #[.slice q 0 c] (0, 0) _ rfl E2.out.1 Try.underlying29 rfl (by kernel_rfl)) rfl ?_
        exact ⟨⟨[], HF.out, _, _, rfl, rfl, E2.out.2.1⟩, E2.out.2.2.1, E2.out.2.2.2⟩
      · have hpos : 0 < l.length := List.length_pos_iff.2 hnil
        obtain ⟨q, c, rfl, hqB⟩ := Own.someRow St3.out.own hnil
        have c0 := St3.out.cell
        have hne0 : ((l.length : Int) == 0) = false := by rw [beq_eq_false_iff_ne]; omega
        have C := Lib.hid (l01Below_any w0 n g (l.length : Int) (by omega) (by omega) w3 St3.out.cur)
        go_wp2_with fail
        refine C.out.mono ?_
        rintro e w4 ⟨⟨y, y0, y1, rfl⟩, hc, hg⟩
        have St4 := Lib.hid (St3.out.drawn hc hg)
        obtain ⟨kk, rfl⟩ := Int.eq_ofNat_of_zero_le y0
        have hkk : kk < l.length := by omega
        obtain ⟨⟨xn, xt, xk⟩, hx⟩ : ∃ x, l[kk]? = some x := ⟨_, List.getElem?_eq_getElem hkk⟩
        have HX := Lib.hid hx
        have hxs := HF.out.2 _ (List.mem_of_getElem? hx)
        have C := Lib.hid (l01Below_any w0 n g 40 (by omega) (by omega) w4 St4.out.cur)
        clear hc hg St3 c0 hx
        go_wp2_with fail
        refine C.out.mono ?_
        rintro e w5 ⟨⟨y, yy0, yy1, rfl⟩, hc, hg⟩
        have St5 := Lib.hid (St4.out.drawn hc hg)
        clear hc hg St4 C
        have c0 := St5.out.cell
        obtain ⟨⟨r0, r1, r2⟩, z0, z1, z2⟩ := Own.fileAt St5.out.own HX.out
        simp only at r0 r1 r2
        have hk64 : ((kk : Nat) : Int) < (l.length : Int) := by omega
        have hk0 : (0 : Int) ≤ ((kk : Nat) : Int) := Int.natCast_nonneg _
        rcases (show y = 0 ∨ y = 1 ∨ y = 2 ∨ y = 3 ∨ y = 4 ∨ 5 ≤ y by omega) with rfl | rfl | rfl | rfl | rfl | hy
        · have hwr : IntKind.i64.wrap ((xt.size : Int) + 1) = (xt.size : Int) + 1 := IntWalk.i64_in _ ⟨by omega, by omega⟩
          have ha := (Below.refl w5.heap.size w5).alloc (Nat.le_refl _) (.cells #[.int .i64 (-1), .int .i64 ((xt.size : Int) + 1)] 3)
          have St5a := Lib.hid ((St5.out.below ha).drewN 1)
          have N1 := Lib.hid (l01PickInt_any w0 n g (some ⟨w5.heap.size, 0, none⟩) 2 [-1, (xt.size : Int) + 1] (by simp) (by simp) (w5.alloc (.cells #[.int .i64 (-1), .int .i64 ((xt.size : Int) + 1)] 3)).drew St5a.out.cur (rdC_new w5 (intC [-1, (xt.size : Int) + 1]) _ rfl 3) (fun b off e => by cases e; have := St5.out.cur.lt; omega))
          have a6 : ∀ o, (w5.alloc o).cell? ⟨w.heap.size + 1, 0, none⟩ = some (.slice (some ⟨q, 0, none⟩) l.length c) := fun o => (((Below.refl w5.heap.size w5).alloc (Nat.le_refl _) o).cell (p := ⟨w.heap.size + 1, 0, none⟩) St5.out.box.lt).trans c0
          clear ha
          go_wp2_with fail
          go_region_with (first
              | (go_at_call 114; go_loud (refine N1.out.mono ?_; rintro e w6 ⟨⟨z, -, rfl⟩, hc6, hg6⟩; have St6 := Lib.hid (St5a.out.drawn hc6 hg6); have e6 := St6.out.cell; obtain ⟨⟨p0, p1, p2⟩, q0, q1, q2⟩ := Own.fileAt St6.out.own HX.out; simp only at p0 p1 p2)))
          all_goals
            have StF := Lib.hid (St6.out.rowSet (l' := l.set kk (xn, xt, z)) hqB (kk * 3 + 2) (by omega) (.int .i64 z) (by rw [List.length_set]) (fileC_kept HX.out z))
            have HS := Lib.hid (small_set HF.out kk (xn, xt, z) hxs.1 hxs.2)
            clear e6 p0 p1 p2 q0 q1 q2 St6 St5a N1 a6 c0 r0 r1 r2 z0 z1 z2
            have d3 := StF.out.cell
            have d2 := Blk.cell StF.out.res 0
            have f2 := Blk.frozen StF.out.res 0
            simp only [List.getElem?_cons_zero] at d2
            have E2 := Lib.hid (StF.out.done h0)
            go_wp2_with fail
            refine bodyPost_ret (results_cell_row rfl _ _ w.heap.size 29 #[.slice (some ⟨q, 0, none⟩) l.length c] (0, 0) _ rfl E2.out.1 Try.underlying29 rfl (by kernel_rfl)) rfl ?_
            exact ⟨⟨l.set kk (xn, xt, z), HS.out, _, _, rfl, rfl, E2.out.2.1⟩, E2.out.2.2.1, E2.out.2.2.2⟩
        · have a6 : ∀ o, (w5.alloc o).cell? ⟨w.heap.size + 1, 0, none⟩ = some (.slice (some ⟨q, 0, none⟩) l.length c) := fun o => (((Below.refl w5.heap.size w5).alloc (Nat.le_refl _) o).cell (p := ⟨w.heap.size + 1, 0, none⟩) St5.out.box.lt).trans c0
          go_wp2_with fail
          go_region_law (first
              | (refine step_push_cells w5.drew _ (by rfl) _ _ 27 (by rfl) 49 Try.underlying27 _ 3 40 rfl Try.infoFileD (w.heap.size + 2) _ l.length (fileC l) (by rfl) (Own.drew St5.out.own) _ (fileC [(xn, xt, xk)]) (by rfl) (fileC_one _) 1 1 (by rfl) _ (by rfl) (by rfl) (by omega) (by decide) St5.out.size (by rfl) ?_; intro v3 w3 hown3 hg3 hb3; obtain ⟨q3, c3, rfl⟩ := Own.shape hown3; have h3 : Own w3 (w.heap.size + 2) 3 (.slice q3 (l.length + 1) c3) (l ++ [(xn, xt, xk)]).length (fileC (l ++ [(xn, xt, xk)])) := (by rw [fileC_append, List.length_append]; exact hown3); have D6 := Blk.kept (Blk.drew St5.out.box) hg3 (fun e => by have := (Own.block St5.out.own _ e.symm).1; omega); have k0 := Blk.cell D6 0; have k1 := Blk.frozen D6 0; simp only [List.getElem?_cons_zero] at k0; have StF := Lib.hid (DiskSt.push (St5.out.drewN 1) hg3 h3); clear hown3 hg3 hb3 h3 D6))
          all_goals
            have HS := Lib.hid (small_push HF.out (by omega) (xn, xt, xk) hxs.1 hxs.2)
            clear k0 k1 a6 c0 r0 r1 r2 z0 z1 z2
            have d3 := StF.out.cell
            have d2 := Blk.cell StF.out.res 0
            have f2 := Blk.frozen StF.out.res 0
            simp only [List.getElem?_cons_zero] at d2
            have E2 := Lib.hid (StF.out.done h0)
            go_wp2_with fail
            refine bodyPost_ret (results_cell_row rfl _ _ w.heap.size 29 #[.slice q3 (l.length + 1) c3] (0, 0) _ rfl E2.out.1 Try.underlying29 rfl (by kernel_rfl)) rfl ?_
            exact ⟨⟨l ++ [(xn, xt, xk)], HS.out, _, _, rfl, rfl, E2.out.2.1⟩, E2.out.2.2.1, E2.out.2.2.2⟩
        · have ha := (Below.refl w5.heap.size w5).alloc (Nat.le_refl _) (.cells #[.string ⟨#[]⟩, .string ⟨#[49, 50, 51, 52, 53, 54, 55, 56]⟩, .string ⟨#[49, 50, 51, 52, 53, 54, 55, 56, 57]⟩] 9)
          have St5a := Lib.hid ((St5.out.below ha).drewN 1)
          have N1 := Lib.hid (l01Pick_any w0 n g (some ⟨w5.heap.size, 0, none⟩) 3 badNameL (by decide) (by decide) (w5.alloc (.cells #[.string ⟨#[]⟩, .string ⟨#[49, 50, 51, 52, 53, 54, 55, 56]⟩, .string ⟨#[49, 50, 51, 52, 53, 54, 55, 56, 57]⟩] 9)).drew St5a.out.cur (rdC_new w5 (strC badNameL) _ rfl 9) (fun b off e => by cases e; have := St5.out.cur.lt; omega))
          have a6 : ∀ o, (w5.alloc o).cell? ⟨w.heap.size + 1, 0, none⟩ = some (.slice (some ⟨q, 0, none⟩) l.length c) := fun o => (((Below.refl w5.heap.size w5).alloc (Nat.le_refl _) o).cell (p := ⟨w.heap.size + 1, 0, none⟩) St5.out.box.lt).trans c0
          clear ha
          go_wp2_with fail
          go_region_with (first
              | (go_at_call 100; go_loud (refine N1.out.mono ?_; rintro e w6 ⟨⟨z, hz, rfl⟩, hc6, hg6⟩; have St6 := Lib.hid (St5a.out.drawn hc6 hg6); have hz1 := badNameL_ok z hz; have e6 := St6.out.cell; obtain ⟨⟨p0, p1, p2⟩, q0, q1, q2⟩ := Own.fileAt St6.out.own HX.out; simp only at p0 p1 p2)))
          all_goals
            have StF := Lib.hid (St6.out.rowSet (l' := l.set kk (z, xt, xk)) hqB (kk * 3) (by omega) (.string z) (by rw [List.length_set]) (fileC_name HX.out z))
            have HS := Lib.hid (small_set HF.out kk (z, xt, xk) (by simp only; omega) hxs.2)
            clear e6 p0 p1 p2 q0 q1 q2 St6 St5a N1 a6 c0 r0 r1 r2 z0 z1 z2
            have d3 := StF.out.cell
            have d2 := Blk.cell StF.out.res 0
            have f2 := Blk.frozen StF.out.res 0
            simp only [List.getElem?_cons_zero] at d2
            have E2 := Lib.hid (StF.out.done h0)
            go_wp2_with fail
            refine bodyPost_ret (results_cell_row rfl _ _ w.heap.size 29 #[.slice (some ⟨q, 0, none⟩) l.length c] (0, 0) _ rfl E2.out.1 Try.underlying29 rfl (by kernel_rfl)) rfl ?_
            exact ⟨⟨l.set kk (z, xt, xk), HS.out, _, _, rfl, rfl, E2.out.2.1⟩, E2.out.2.2.1, E2.out.2.2.2⟩
        · have ha := (Below.refl w5.heap.size w5).alloc (Nat.le_refl _) (.cells #[] 49)
          have he := Own.empty w5 (w.heap.size + 2) 3 49 St5.out.size
          have St6 := Lib.hid ((St5.out.below ha).put (l' := []) he (Nat.le_refl _))
          have e6 := Blk.cell (St5.out.below ha).box 0
          have f6 := Blk.frozen (St5.out.below ha).box 0
          simp only [List.getElem?_cons_zero] at e6
          clear ha he c0 r0 r1 r2 z0 z1 z2
          go_wp2_with fail
          clear e6 f6
          generalize hwC : (w5.alloc (.cells #[] 49)).setCell ⟨w.heap.size + 1, 0, none⟩ (.slice (some ⟨w5.heap.size, 0, none⟩) 0 0) = wC at *
          clear hwC
          go_loopw [7] (fun i wr => ∃ (k : Nat) (m : List Fl) (u : Value), k ≤ 31 ∧ i = .int .i64 k ∧ m.length ≤ k ∧ Hid (FlSmall m) ∧ DiskSt w w0 114 29 n g (w.heap.size + 1) w.heap.size (w.heap.size + 2) m u wr) (fun i _ => 31 - (intOf i).toNat)
          case atStart => exact ⟨0, [], _, Nat.zero_le _, rfl, Nat.le_refl _, Lib.hid ⟨Nat.zero_le _, fun x hx => by simp at hx⟩, St6.out⟩
          case round =>
            clear St6 St5
            obtain ⟨j, m, u, hj, rfl, hm, HM, st⟩ := hrel
            have C := Lib.hid (l01Below_any w0 n g 2 (by omega) (by omega) wr st.cur)
            have St := Lib.hid st
            clear st
            go_wp2_with fail
            refine C.out.mono ?_
            rintro e w7 ⟨⟨z, zz0, zz1, rfl⟩, hc, hg⟩
            have St7 := Lib.hid (St.out.drawn hc hg)
            clear hc hg St C
            obtain ⟨qm, cm, rfl⟩ := Own.shape St7.out.own
            have c7 := St7.out.cell
            have hw3 : IntKind.i64.wrap (30 + z) = 30 + z := IntWalk.i64_in _ ⟨by omega, by omega⟩
            have hw4 : IntKind.i64.wrap (100 + (j : Int)) = 100 + (j : Int) := IntWalk.i64_in _ ⟨by omega, by omega⟩
            by_cases hlt : (j : Int) < 30 + z
            · have DEC : ∀ W, Calls Try.prog 115 #[.int .i64 (100 + (j : Int))] W fun e w' => (∃ s : ByteArray, s.size ≤ 100 ∧ e = .returned (.string s)) ∧ Below W.heap.size W w' :=
                fun W => (sDecimal_any _ (by omega) (by omega) W).mono (fun e w' h => ⟨⟨_, itoa_size _ (by omega) (by omega), h.1⟩, h.2⟩)
              have DE := Lib.hid DEC
              clear DEC
              go_wp2_with fail
              go_region_law (first
                  | (refine step_push_cells w8 _ (by rfl) _ _ 27 (by rfl) 49 Try.underlying27 _ 3 40 rfl Try.infoFileD (w.heap.size + 2) _ m.length (fileC m) (by rfl) St8.out.own _ (fileC [((⟨#[102]⟩ : ByteArray) ++ s, (⟨#[]⟩ : ByteArray), (0 : Int))]) (by rfl) (fileC_one _) 1 1 (by rfl) _ (by rfl) (by rfl) (by omega) (by decide) St8.out.size (by rfl) ?_; intro v3 w3 hown3 hg3 hb3; obtain ⟨q3, c3, rfl⟩ := Own.shape hown3; have h3 : Own w3 (w.heap.size + 2) 3 (.slice q3 (m.length + 1) c3) (m ++ [((⟨#[102]⟩ : ByteArray) ++ s, (⟨#[]⟩ : ByteArray), (0 : Int))]).length (fileC (m ++ [((⟨#[102]⟩ : ByteArray) ++ s, (⟨#[]⟩ : ByteArray), (0 : Int))])) := (by rw [fileC_append, List.length_append]; exact hown3); have D6 := Blk.kept St8.out.box hg3 (fun e => by have := (Own.block St8.out.own _ e.symm).1; omega); have k0 := Blk.cell D6 0; have k1 := Blk.frozen D6 0; simp only [List.getElem?_cons_zero] at k0; have StF := Lib.hid (DiskSt.push St8.out hg3 h3); clear hown3 hg3 hb3 h3 D6)
                  | (go_simp; go_at_call 115; refine (DE.out _).mono ?_; rintro e w8 ⟨⟨s, hs, rfl⟩, hb8⟩; have hcat : ¬ (9223372036854775807 < 1 + s.size) := (by omega); have St8 := Lib.hid ((St7.out.drewN 1).below hb8); have e8 := St8.out.cell; have a8 : ∀ o, (w8.alloc o).cell? ⟨w.heap.size + 1, 0, none⟩ = some (.slice qm m.length cm) := (fun o => (((Below.refl w8.heap.size w8).alloc (Nat.le_refl _) o).cell (p := ⟨w.heap.size + 1, 0, none⟩) St8.out.box.lt).trans e8)))
              all_goals
                have HS := Lib.hid (small_push HM.out (by omega) ((⟨#[102]⟩ : ByteArray) ++ s, (⟨#[]⟩ : ByteArray), (0 : Int)) (by simp only; rw [ByteArray.size_append]; have e1 : (⟨#[102]⟩ : ByteArray).size = 1 := rfl; omega) (Nat.zero_le _))
                clear k0 k1 e8 a8 c7 St8 St7
                go_wp2_with fail
                exact ⟨⟨j + 1, _, _, by omega, by go_num, by simp; omega, HS, StF.out⟩, by simp [intOf]; omega⟩
            · skip
              have d3 := St7.out.cell
              have d2 := Blk.cell St7.out.res 0
              have f2 := Blk.frozen St7.out.res 0
              simp only [List.getElem?_cons_zero] at d2
              have E2 := Lib.hid (St7.out.done h0)
              go_wp2_with fail
              refine bodyPost_ret (results_cell_row rfl _ _ w.heap.size 29 #[.slice qm m.length cm] (0, 0) _ rfl E2.out.1 Try.underlying29 rfl (by kernel_rfl)) rfl ?_
              exact ⟨⟨m, HM.out, _, _, rfl, rfl, E2.out.2.1⟩, E2.out.2.2.1, E2.out.2.2.2⟩
        · have hk3 : ∀ z : Int, 0 ≤ z → z ≤ 3 - 1 → IntKind.i64.wrap (19999 + z) = 19999 + z := fun z h1 h2 => IntWalk.i64_in _ ⟨by omega, by omega⟩
          have N1 := Lib.hid (l01Below_any w0 n g 3 (by omega) (by omega) w5.drew (St5.out.drewN 1).cur)
          have LONG : ∀ (z : Int) (W : World), 0 ≤ z → z ≤ 3 - 1 → Calls Try.prog 116 #[.int .i64 (19999 + z), .int .u8 65] W fun e w' => (∃ s : ByteArray, s.size = 19999 + z.toNat ∧ e = .returned (.string s)) ∧ Below W.heap.size W w' := by
            intro z W h1 h2
            have := l01Long_any (19999 + z.toNat) 65 (by omega) (by decide) W
            rw [show ((19999 + z.toNat : Nat) : Int) = 19999 + z by omega] at this
            exact this
          have LO := Lib.hid LONG
          clear LONG
          go_wp2_with fail
          go_region_with (first
              | (go_at_call 75; refine N1.out.mono ?_; rintro e w6 ⟨⟨z, zz0, zz1, rfl⟩, hc6, hg6⟩; have St6 := Lib.hid ((St5.out.drewN 1).drawn hc6 hg6); have e6 := St6.out.cell; have ez := hk3 z zz0 zz1)
              | (go_at_call 116; refine (LO.out z w6 zz0 zz1).mono ?_; rintro e w7 ⟨⟨s, hs, rfl⟩, hb7⟩; have St7 := Lib.hid (St6.out.below hb7); have e7 := St7.out.cell; obtain ⟨⟨p0, p1, p2⟩, q0, q1, q2⟩ := Own.fileAt St7.out.own HX.out; simp only at p0 p1 p2))
          all_goals
            have StF := Lib.hid (St7.out.rowSet (l' := l.set kk (xn, s, xk)) hqB (kk * 3 + 1) (by omega) (.string s) (by rw [List.length_set]) (fileC_text HX.out s))
            have HS := Lib.hid (small_set HF.out kk (xn, s, xk) hxs.1 (by simp only; omega))
            clear e6 e7 p0 p1 p2 q0 q1 q2 St6 St7 N1 c0 r0 r1 r2 z0 z1 z2 ez hk3
            have d3 := StF.out.cell
            have d2 := Blk.cell StF.out.res 0
            have f2 := Blk.frozen StF.out.res 0
            simp only [List.getElem?_cons_zero] at d2
            have E2 := Lib.hid (StF.out.done h0)
            go_wp2_with fail
            refine bodyPost_ret (results_cell_row rfl _ _ w.heap.size 29 #[.slice (some ⟨q, 0, none⟩) l.length c] (0, 0) _ rfl E2.out.1 Try.underlying29 rfl (by kernel_rfl)) rfl ?_
            exact ⟨⟨l.set kk (xn, s, xk), HS.out, _, _, rfl, rfl, E2.out.2.1⟩, E2.out.2.2.1, E2.out.2.2.2⟩
        · have e0 : (y == 0) = false := by rw [beq_eq_false_iff_ne]; omega
          have e1 : (y == 1) = false := by rw [beq_eq_false_iff_ne]; omega
          have e2 : (y == 2) = false := by rw [beq_eq_false_iff_ne]; omega
          have e3 : (y == 3) = false := by rw [beq_eq_false_iff_ne]; omega
          have e4 : (y == 4) = false := by rw [beq_eq_false_iff_ne]; omega
          have d3 := St5.out.cell
          have d2 := Blk.cell St5.out.res 0
          have f2 := Blk.frozen St5.out.res 0
          simp only [List.getElem?_cons_zero] at d2
          have E2 := Lib.hid (St5.out.done h0)
          go_wp2_with fail
          refine bodyPost_ret (results_cell_row rfl _ _ w.heap.size 29 #[.slice (some ⟨q, 0, none⟩) l.length c] (0, 0) _ rfl E2.out.1 Try.underlying29 rfl (by kernel_rfl)) rfl ?_
          exact ⟨⟨l, HF.out, _, _, rfl, rfl, E2.out.2.1⟩, E2.out.2.2.1, E2.out.2.2.2⟩
end Go.Proofs.Ytdecehecjlbbiaa
