/-
  For every draw of at most 2^20 bytes (a longer one is passed by) a power failure keeps the durable bytes of a right disk, leaves a beginning of each file, and a second one loses nothing more: 'FnKeeps' returns true. No conditions.
-/
import Derived.Test.YtdecehecjlbbiaaFrameB
import Derived.Test.YtdecehecjlbbiaaKeep2
import Derived.Test.YtdecehecjlbbiaaKeep3
import Derived.Test.YtdecehecjlbbiaaPuActs
namespace Go.Proofs.Ytdecehecjlbbiaa.fnKeeps
open Go.ChangeShapes Go.WideShapes Go.ChangeAt Go.RowKit
open Go.ChangeMaps (open_string shut_string)
set_option linter.unusedVariables false

set_option maxHeartbeats 4000000 in
set_option maxRecDepth 100000 in
theorem walk (a0 : Option Addr) (len0 cap0 : Nat) (z0 : List Int) (w : World) (w0 : IsRow .u8 w a0 len0 cap0 z0) :
    Calls Try.prog 7 #[.slice a0 len0 cap0] w fun e w' => e = .returned (.bool true) ∧ Below w.heap.size w w' := by
  obtain ⟨hmax, hB⟩ := bytes_of_row w0
  unfold maxLen at hmax
  clear w0
  by_cases hs : len0 ≤ 1048576
  · have C := Lib.hid (drawRightDisk_any a0 cap0 len0 w hs hB)
    have D := Lib.hid (fun wx (hb : Below w.heap.size w wx) => drawPlaces_any a0 cap0 len0 wx hs (hB.below hb (Nat.le_refl _)))
    clear hB hmax
    go_enter Try.func7, Try.ntmps7
    go_wp2_with (go_at_call 31; refine (big_no _ _ _ _ hs).mono ?_; rintro e w' ⟨rfl, rfl⟩)
    refine C.out.mono ?_
    rintro e w1 ⟨⟨l, hg, v1, u1, rfl, ho1⟩, hb1⟩
    obtain ⟨rfl, ho1⟩ := ho1
    obtain ⟨q1, k1, rfl⟩ := Own.shape ho1
    have hl30 : l.length ≤ 30 := hg.1
    have B1 := Lib.hid (Blk.new w1 29 [.slice q1 l.length k1] _ rfl)
    have L1 := Lib.hid ((OwnK.rd ⟨rfl, ho1⟩ : RdK w1 (.agg #[.slice q1 l.length k1]) l).below ((Below.refl _ _).alloc (Nat.le_refl _) (.cells #[.slice q1 l.length k1] 29)) (Nat.le_refl _))
    have HB1 := Lib.hid (hb1.alloc hb1.size (.cells #[.slice q1 l.length k1] 29))
    have G := Lib.hid hg
    clear hb1 ho1 C hg
    go_wp2_with fail
    generalize w1.alloc (.cells #[.slice q1 l.length k1] 29) = w2 at *
    refine (D.out w2 HB1.out).mono ?_
    rintro e w3 ⟨⟨v3, lp, rfl, ho3, hlp, hxp⟩, hb3⟩
    have B1 := Lib.hid (B1.out.below hb3 B1.out.lt)
    have L1 := Lib.hid (L1.out.below hb3 (Nat.le_refl _))
    have HB3 := Lib.hid (HB1.out.trans (hb3.mono HB1.out.size))
    obtain ⟨q3, k3, rfl, hr3⟩ := ho3.rd
    have E := Lib.hid (lefts_any q3 k3 lp (by omega) hxp w3 hr3)
    clear HB1 hb3 ho3 hlp hxp hr3 D
    go_wp2_with fail
    refine E.out.mono ?_
    rintro e w4 ⟨⟨v4, q, rfl, ho4, hq⟩, hb4⟩
    have B1 := Lib.hid (B1.out.below hb4 B1.out.lt)
    have L1 := Lib.hid (L1.out.below hb4 (Nat.le_refl _))
    have HB4 := Lib.hid (HB3.out.trans (hb4.mono HB3.out.size))
    obtain ⟨q4, k4, rfl, hr4⟩ := ho4.rd
    have c1 := B1.out.cell 0
    simp only [List.getElem?_cons_zero] at c1
    have sm := good_small G.out
    have F := Lib.hid (iLose_any _ l q4 k4 q w4 sm.1 sm.2 L1.out hr4)
    rw [loseV_yes G.out] at F
    clear HB3 hb4 ho4 hr4 E
    go_wp2_with fail
    refine F.out.mono ?_
    rintro e w5 ⟨⟨v5, u5, rfl, ho5⟩, hb5⟩
    obtain ⟨rfl, ho5⟩ := ho5
    have hll : (loseL l q).length = l.length := loseL_len l q
    have hek := loseL_kept q G.out
    have hag := loseL_again q [] G.out
    obtain ⟨q5, k5, rfl⟩ := Own.shape ho5
    have hbx5 := (Below.refl w5.heap.size w5).alloc (Nat.le_refl _) (.cells #[.slice q5 (loseL l q).length k5] 29)
    have B1 := Lib.hid ((B1.out.below hb5 B1.out.lt).alloc (.cells #[.slice q5 (loseL l q).length k5] 29))
    have B2 := Lib.hid (Blk.new w5 29 [.slice q5 (loseL l q).length k5] _ rfl)
    have L1 := Lib.hid ((L1.out.below hb5 (Nat.le_refl _)).below hbx5 (Nat.le_refl _))
    have L2 := Lib.hid ((OwnK.rd ⟨rfl, ho5⟩ : RdK w5 (.agg #[.slice q5 (loseL l q).length k5]) (loseL l q)).below hbx5 (Nat.le_refl _))
    have HB5 := Lib.hid ((HB4.out.trans (hb5.mono HB4.out.size)).alloc (Nat.le_trans HB4.out.size hb5.size) (.cells #[.slice q5 (loseL l q).length k5] 29))
    have PR : Hid (∀ k x, l[k]? = some x → ∃ y : Fl, (loseL l q)[k]? = some y ∧ y.1 = x.1 ∧ Begins y.2.1 x.2.1 ∧ Begins (x.2.1.extract 0 x.2.2.toNat) y.2.1 ∧ FileGood x) := Lib.hid (fun k x hx => by
      have hf := G.out.2.1 x (List.mem_of_getElem? hx)
      have hb := loseN_bound hf.2.2 (q.getD k 0)
      refine ⟨_, loseL_at hx, rfl, ?_, ?_, hf⟩
      · unfold loseF; exact begins_whole _ (by omega)
      · unfold loseF; exact begins_cut _ (by omega) (by omega))
    have HEK := Lib.hid hek
    have HAG := Lib.hid hag
    clear HB4 hb5 ho5 F hbx5 hek hag c1
    generalize loseL l q = le at *
    obtain ⟨w6, hw6⟩ : ∃ w6, w5.alloc (.cells #[.slice q5 le.length k5] 29) = w6 := ⟨_, rfl⟩
    rw [hw6] at B1 B2 L1 L2 HB5
    rw [hll] at hw6 B2 L2
    have hs6 := HB5.out.size
    have hbe := (Below.refl w6.heap.size w6).alloc (Nat.le_refl _) (.cells #[] 3)
    have sm2 := good_small HEK.out.1
    have F0 := iLose_any _ le (some ⟨w6.heap.size, 0, none⟩) 0 [] (w6.alloc (.cells #[] 3)) sm2.1 sm2.2 (L2.out.below hbe (Nat.le_refl _)) (fun j u h => by simp [intC] at h)
    rw [loseV_yes HEK.out.1, HAG.out] at F0
    have F := Lib.hid F0
    have B1 := Lib.hid (B1.out.below hbe B1.out.lt)
    have B2 := Lib.hid (B2.out.below hbe B2.out.lt)
    have L1 := Lib.hid (L1.out.below hbe (Nat.le_refl _))
    have L2 := Lib.hid (L2.out.below hbe (Nat.le_refl _))
    have HB6 := Lib.hid (HB5.out.alloc hs6 (.cells #[] 3))
    have c5 := B2.out.cell 0
    simp only [List.getElem?_cons_zero] at c5
    have c50 : w6.cell? ⟨w5.heap.size, 0, none⟩ = some (.slice q5 l.length k5) := by have h := B2.out.cell 0; rw [← hbe.cell (p := ⟨w5.heap.size, 0, none⟩) (by rw [← hw6, alloc_size]; exact Nat.lt_succ_self _)]; simpa using h
    clear hbe F0 HB5
    go_wp2_with fail
    clear hw6
    refine F.out.mono ?_
    rintro e w7 ⟨⟨v7, u7, rfl, ho7⟩, hb7⟩
    obtain ⟨rfl, ho7⟩ := ho7
    obtain ⟨q7, k7, rfl⟩ := Own.shape ho7
    rw [hll] at ho7
    have hbx7 := (Below.refl w7.heap.size w7).alloc (Nat.le_refl _) (.cells #[.slice q7 l.length k7] 29)
    have B1 := Lib.hid ((B1.out.below hb7 B1.out.lt).alloc (.cells #[.slice q7 l.length k7] 29))
    have B2 := Lib.hid ((B2.out.below hb7 B2.out.lt).alloc (.cells #[.slice q7 l.length k7] 29))
    have B3 := Lib.hid (Blk.new w7 29 [.slice q7 l.length k7] _ rfl)
    have L1 := Lib.hid ((L1.out.below hb7 (Nat.le_refl _)).below hbx7 (Nat.le_refl _))
    have L2 := Lib.hid ((L2.out.below hb7 (Nat.le_refl _)).below hbx7 (Nat.le_refl _))
    have L3 := Lib.hid ((OwnK.rd ⟨rfl, ho7⟩ : RdK w7 (.agg #[.slice q7 l.length k7]) le).below hbx7 (Nat.le_refl _))
    have HB7 := Lib.hid ((HB6.out.trans (hb7.mono HB6.out.size)).alloc (Nat.le_trans HB6.out.size hb7.size) (.cells #[.slice q7 l.length k7] 29))
    clear HB6 hb7 ho7 F hbx7 c5 c50
    have S1 := Lib.hid (fun W h1 h2 => sameDisk_any (.agg #[.slice q5 l.length k5]) (.agg #[.slice q7 l.length k7]) le W sm2.1 h1 h2)
    have A1' := fun W h => iAllKept_any (.agg #[.slice q5 l.length k5]) le W sm2.1 sm2.2 h
    rw [decide_eq_true HEK.out] at A1'
    have A1 := Lib.hid A1'
    have O1' := fun W h => iDiskOk_any (.agg #[.slice q1 l.length k1]) l W sm.1 sm.2 h
    rw [decide_eq_true G.out] at O1'
    have O1 := Lib.hid O1'
    have d1 := B1.out.cell 0
    have d2 := B2.out.cell 0
    have d3 := B3.out.cell 0
    simp only [List.getElem?_cons_zero] at d1 d2 d3
    have hne : ((l.length : Int) != (l.length : Int)) = false := by simp
    clear A1' O1' sm sm2
    go_wp2_with fail
    refine (S1.out _ L2.out L3.out).mono ?_
    rintro e w8 ⟨rfl, hb8⟩
    have B1 := Lib.hid (B1.out.below hb8 B1.out.lt)
    have B2 := Lib.hid (B2.out.below hb8 B2.out.lt)
    have L1 := Lib.hid (L1.out.below hb8 (Nat.le_refl _))
    have L2 := Lib.hid (L2.out.below hb8 (Nat.le_refl _))
    have HB8 := Lib.hid (HB7.out.trans (hb8.mono HB7.out.size))
    have d1 := B1.out.cell 0
    have d2 := B2.out.cell 0
    simp only [List.getElem?_cons_zero] at d1 d2
    clear hb8 L3 B3 d3 HB7 S1
    go_wp2_with fail
    refine (A1.out _ L2.out).mono ?_
    rintro e w9 ⟨rfl, hb9⟩
    have B1 := Lib.hid (B1.out.below hb9 B1.out.lt)
    have B2 := Lib.hid (B2.out.below hb9 B2.out.lt)
    have L1 := Lib.hid (L1.out.below hb9 (Nat.le_refl _))
    have L2 := Lib.hid (L2.out.below hb9 (Nat.le_refl _))
    have HB9 := Lib.hid (HB8.out.trans (hb9.mono HB8.out.size))
    have d1 := B1.out.cell 0
    have d2 := B2.out.cell 0
    simp only [List.getElem?_cons_zero] at d1 d2
    clear hb9 HB8 A1
    go_wp2_with fail
    refine (O1.out _ L1.out).mono ?_
    rintro e w10 ⟨rfl, hb10⟩
    have B1 := Lib.hid (B1.out.below hb10 B1.out.lt)
    have B2 := Lib.hid (B2.out.below hb10 B2.out.lt)
    have L1 := Lib.hid (L1.out.below hb10 (Nat.le_refl _))
    have L2 := Lib.hid (L2.out.below hb10 (Nat.le_refl _))
    have HB10 := Lib.hid (HB9.out.trans (hb10.mono HB9.out.size))
    have d1 := B1.out.cell 0
    have d2 := B2.out.cell 0
    simp only [List.getElem?_cons_zero] at d1 d2
    clear hb10 HB9 O1
    go_wp2_with fail
    go_loopw [9] (fun i wr => ∃ k : Nat, k ≤ l.length ∧ i = .int .i64 k ∧ Below w10.heap.size w10 wr) (fun i _ => l.length - (intOf i).toNat)
    case atStart => exact ⟨0, Nat.zero_le _, rfl, Below.refl _ _⟩
    case round =>
      obtain ⟨k, hk, rfl, hb⟩ := hrel
      have d1 := (Blk.below B1.out hb B1.out.lt).cell 0
      have d2 := (Blk.below B2.out hb B2.out.lt).cell 0
      simp only [List.getElem?_cons_zero] at d1 d2
      have hbs := hb.size
      by_cases hlt : k < l.length
      · obtain ⟨x, hx⟩ : ∃ x, l[k]? = some x := ⟨_, List.getElem?_eq_getElem hlt⟩
        obtain ⟨y, hy, hyx, hyb, hxb, hfg⟩ := PR.out k x hx
        obtain ⟨_, _, e1, r1⟩ := L1.out.below hb (Nat.le_refl _)
        obtain ⟨_, _, e2, r2⟩ := L2.out.below hb (Nat.le_refl _)
        cases e1
        rw [hll] at e2
        cases e2
        obtain ⟨b, o, rfl, p0, p1, p2⟩ := r1.at_ k x hx
        obtain ⟨b', o', rfl, s0, s1, s2⟩ := r2.at_ k y hy
        obtain ⟨xa, xb, xn⟩ := x
        obtain ⟨ya, yb, yn⟩ := y
        simp only at p0 p1 p2 s0 s1 s2 hyx hyb hxb hfg
        subst hyx
        have hf2 := hfg.2.2
        simp only at hf2
        obtain ⟨f0, f1⟩ := hf2
        have hfs : xb.size ≤ 20000 := hfg.2.1
        have hys : yb.size ≤ 20000 := by have h := hyb.1; omega
        have i0 : (0 : Int) ≤ (k : Int) := Int.natCast_nonneg _
        have i1 : (k : Int) < (l.length : Int) := by omega
        have hzx := alloc_size wr (.cells #[.string ya, .string xb, .int .i64 xn] 49)
        have hb1a := (Below.refl wr.heap.size wr).alloc (Nat.le_refl _) (.cells #[.string ya, .string xb, .int .i64 xn] 49)
        have hb2 := hb.alloc hbs (.cells #[.string ya, .string xb, .int .i64 xn] 49)
        have d2a := (hb1a.cell (p := ⟨w5.heap.size, 0, none⟩) (World.block_lt_of_cell? _ _ d2)).trans d2
        have hsl := World.block_lt_of_cell? _ _ s0
        simp only at hsl
        have s0a := (hb1a.cell (p := ⟨b', o' + k * 3, none⟩) hsl).trans s0
        have s1a := (hb1a.cell (p := ⟨b', o' + k * 3 + 1, none⟩) hsl).trans s1
        have s2a := (hb1a.cell (p := ⟨b', o' + k * 3 + 2, none⟩) hsl).trans s2
        have bx1 := Blk.new wr 49 [.string ya, .string xb, .int .i64 xn] _ rfl
        have hb3 := hb2.alloc hb2.size (.cells #[.string ya, .string yb, .int .i64 yn] 49)
        have bx2 := Blk.new (wr.alloc (.cells #[.string ya, .string xb, .int .i64 xn] 49)) 49 [.string ya, .string yb, .int .i64 yn] _ rfl
        rw [hzx] at bx2
        have bx1' := bx1.alloc (.cells #[.string ya, .string yb, .int .i64 yn] 49)
        have x0 := bx1'.cell 0
        have x1 := bx1'.cell 1
        have x2 := bx1'.cell 2
        have y0 := bx2.cell 0
        have y1 := bx2.cell 1
        simp only [List.getElem?_cons_zero, List.getElem?_cons_succ] at x0 x1 x2 y0 y1
        clear bx1 bx1' bx2 hb1a hb2 hzx hsl
        have en : (ya.toList == ya.toList) = true := beq_self_eq_true _
        have C1 := Lib.hid (fun wx => begins_any yb xb hyb wx)
        have C2 := Lib.hid (fun wx => begins_any (xb.extract 0 xn.toNat) yb hxb wx)
        have hcut := fun wx => cut_to (P := Try.prog) Try.underlying9 xb xn xn.toNat (by omega) (by omega) wx
        have HB11 := Lib.hid hb3
        clear hx hy hyb hxb hfg r1 r2 L1 L2 PR
        go_wp2_with fail
        go_quiet ((first | (go_at_call 36; with_reducible exact quiet_eq (C1.out _)) | (go_at_call 36; with_reducible exact quiet_eq (C2.out _))))
        go_wp2_with fail
        exact ⟨⟨k + 1, by omega, by go_num, bDrewN HB11.out _⟩, by simp [intOf]; omega⟩
      · obtain rfl : k = l.length := by omega
        have HF := Lib.hid (HB10.out.trans (hb.mono HB10.out.size))
        clear hb
        go_wp2_with fail
        go_ret
        exact ⟨rfl, HF.out⟩
  · clear hB
    go_enter Try.func7, Try.ntmps7
    go_wp2_with (go_at_call 31; refine (big_yes _ _ _ _ (by omega) (by omega)).mono ?_; rintro e w' ⟨rfl, rfl⟩)
    go_ret
    exact ⟨rfl, Below.refl _ _⟩

theorem own : ownKnob Try.prog.godebug = none := by kernel_rfl
theorem laidOut : laidOutB Try.prog = true := by kernel_rfl

set_option maxRecDepth 100000 in
theorem lifted (os : Os) (started : os.Started) (H : Type) (enc : TypeId × Value → H) :
    ReturnsInHanded {} Try.checked os 7 .any (Rows.fnKeepsSpec.pre6 enc Try.prog Try.f7 Rows.fnKeepsRow.domain false) (Rows.fnKeepsSpec.post enc Try.prog Try.f7 false true false false) := by
  refine returnsInHanded_of_change (C := Try.checked) own started (by kernel_rfl) Try.func7
    (ChangeSpec.witness6 (enc := enc) (C := Try.checked) false ⟨#[], #[.slice none 0 0], []⟩ 8 (by kernel_rfl) (by kernel_rfl) (by kernel_rfl) (by kernel_rfl)) ?_
  intro W base args ds gs before hval0 hW hcnd _
  have hval : ∀ (j : Nat) t v, Try.f7.params[j]? = some t → args[j]? = some v → Value.okWide Try.prog W .any base t v := hval0
  have hW' := hW
  obtain ⟨p, q, hA0, hV, rfl, hfz, hnd⟩ := hW
  have hA : DataW.TrodAll enc Try.prog W 0 (fun _ => true) true Try.f7.params.toList args.toList ds p := hA0
  rw [Try.params7] at hA hval
  obtain ⟨v0, vs0, d0, ds0, p0, q0, hargs, rfl, rfl, h0, r0⟩ := trodAll_cons hA
  obtain ⟨rfl, rfl, rfl⟩ := trodAll_nil r0
  obtain rfl : args = #[v0] := by cases args; simp_all
  obtain ⟨rfl, rfl⟩ := trodVars_none hV
  have k0 := h0
  have lt0 : ∀ x ∈ p0, x.block < W.heap.size := by obtain ⟨m, hm⟩ := k0; exact DataW.trod_lt m _ _ _ hm
  obtain ⟨a0, len0, cap0, rfl⟩ := okWide_slice Try.underlying44 (hval 0 44 v0 rfl rfl)
  obtain ⟨z0, w0⟩ := isRow_of Try.underlying44 Try.underlying5 (by kernel_rfl) h0
  clear hA0 hval0
  refine (walk a0 len0 cap0 z0 W w0).mono fun e W' ⟨he, bel⟩ => ?_
  subst he
  exact ⟨_, rfl, _, _, _, [], _, [], hW', trodAll_mk1 (shut_bool Try.underlying4 _), (trodAll_cons_mk (Below.trod laidOut (by kernel_rfl) (of_decide_eq_true (by kernel_rfl)) k0 bel lt0) trodAll_mk0), rfl, bel.frame _, fun h => by cases h⟩

theorem over : Rows.fnKeepsRow.holds Try.pinned (OpenSpec.ofChange Rows.fnKeepsSpec) :=
  OpenClaim.holds_of_wide 7 Try.f7 rfl rfl rfl rfl rfl rfl rfl ⟨rfl, rfl, rfl, rfl, rfl⟩ rfl rfl rfl rfl rfl (by kernel_rfl) Try.func7 (by kernel_rfl)
    (of_decide_eq_true (by kernel_rfl)) (by unfold Func.isWrapper; first | (rw [if_pos (by decide +kernel)]; kernel_rfl) | (rw [if_neg (by decide +kernel)]; exact ⟨rfl, rfl⟩))
    (fun os started H enc _ => lifted os started H enc)

/-- The statement. -/
theorem proved : Rows.FnKeepsSaid :=
  over
#print axioms proved

end Go.Proofs.Ytdecehecjlbbiaa.fnKeeps
