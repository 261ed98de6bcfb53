/-
  For every disk and name (of at most 2^20 bytes and files in all; more are passed by) the program's FileAt and the reference's return the same, and the disk stays: 'FnExactFileAt' returns true. No conditions.
-/
import Derived.Test.YtdecehecjlbbiaaFrameF
import Derived.Test.YtdecehecjlbbiaaDisk2
namespace Go.Proofs.Ytdecehecjlbbiaa.fnExactFileAt
open Go.ChangeShapes Go.WideShapes Go.ChangeAt Go.RowKit
open Go.ChangeMaps (open_string shut_string)
set_option linter.unusedVariables false

set_option maxHeartbeats 4000000 in
set_option maxRecDepth 100000 in
theorem walk (a0 : Option Addr) (len0 cap0 : Nat) (z0 : List Fl) (a1 : ByteArray) (w : World) (w0 : IsFiles w a0 len0 cap0 z0) (w1 : a1.size ≤ maxLen) :
    Calls Try.prog 4 #[.agg #[.slice a0 len0 cap0], .string a1] w fun e w' => e = .returned (.bool true) ∧ Below w.heap.size w w' := by
  obtain ⟨rfl, hmax, heach, hrd⟩ := w0
  unfold maxLen at hmax heach
  unfold maxLen at w1
  have hB := (Below.refl w.heap.size w).alloc (Nat.le_refl _) (.cells #[.slice a0 z0.length cap0] 24)
  have hz := alloc_size w (.cells #[.slice a0 z0.length cap0] 24)
  have b0 := Blk.new w 24 [.slice a0 z0.length cap0] _ rfl
  have C1 := szDisk_any a0 cap0 z0 1048576 _ hmax heach (by omega) (by omega) (hrd.below hB (Nat.le_refl _))
  have R := Lib.hid (fun W hW => (hrd.below hB (Nat.le_refl _)).below (C := w.heap.size + 1) (w' := W) hW (by rw [hz]; exact Nat.le_refl _))
  have LS : Hid (∀ W, Below (w.heap.size + 1) (w.alloc (.cells #[.slice a0 z0.length cap0] 24)) W → w.heap.size + 1 ≤ W.heap.size) := Lib.hid fun W hW => by have := hW.size; rw [hz] at this; exact this
  have HB0 := Lib.hid hB
  have B0 := Lib.hid b0
  have HZ := Lib.hid hz
  by_cases hs1 : a1.size ≤ 1048576
  · by_cases ht : (z0.length : Int) + sumFl z0 ≤ 1048576
    · have hl : z0.length ≤ 1048576 := by omega
      rw [szFl_yes ht] at C1
      have hleft : ¬ ((1048576 : Int) - z0.length - (sumFl z0 : Int) < 0) := by omega
      have CS := Lib.hid (fun v W h => sFileAt_any v z0 a1 W hl h)
      have CI := Lib.hid (fun v W h => iFileAt_any v z0 a1 W hl h)
      have CT := Lib.hid (fun W h => toDisk_any a0 cap0 z0 W hl h)
      have CE := Lib.hid (fun v1 v2 W h1 h2 => eqDisk_any v1 v2 z0 W hl h1 h2)
      have D1 := Lib.hid C1
      clear hrd hmax heach ht hB hz b0 C1
      generalize textV z0 a1 = vd at *
      obtain ⟨tx, tb⟩ := vd
      simp only at CS CI
      have e1 : (tb != tb) = false := by simp
      have e2 : (tx.toList != tx.toList) = false := by simp
      have e3 : (tx.toList == tx.toList) = true := beq_self_eq_true _
      generalize (1048576 : Int) - z0.length - (sumFl z0 : Int) = left at *
      go_enter Try.func4, Try.ntmps4
      go_wp2_with fail
      generalize w.alloc (.cells #[.slice a0 z0.length cap0] 24) = Wb at *
      have HB := Lib.hid (Below.refl (w.heap.size + 1) Wb)
      refine D1.out.mono ?_
      rintro e w1 ⟨rfl, hb⟩
      have HB_ := Lib.hid (HB.out.trans (hb.mono (LS.out _ HB.out)))
      have B0_ := Lib.hid (Blk.below B0.out hb (Blk.lt B0.out))
      clear HB B0
      have HB := HB_
      have B0 := B0_
      clear HB_ B0_
      clear hb
      have c_B00 := Blk.cell B0.out 0
      simp only [List.getElem?_cons_zero] at c_B00
      go_wp2_with fail
      refine (CT.out _ (R.out _ HB.out)).mono ?_
      rintro e w2 ⟨⟨v2, u2, rfl, ho⟩, hb⟩
      clear c_B00
      have HB_ := Lib.hid (HB.out.trans (hb.mono (LS.out _ HB.out)))
      have B0_ := Lib.hid (Blk.below B0.out hb (Blk.lt B0.out))
      clear HB B0
      have HB := HB_
      have B0 := B0_
      clear HB_ B0_
      clear hb
      have Q2 := Lib.hid (OwnK.rd ho)
      clear ho
      go_wp2_with fail
      refine (CS.out _ _ Q2.out).mono ?_
      rintro e w3 ⟨rfl, hb⟩
      have HB_ := Lib.hid (HB.out.trans (hb.mono (LS.out _ HB.out)))
      have B0_ := Lib.hid (Blk.below B0.out hb (Blk.lt B0.out))
      have Q2_ := Lib.hid (Q2.out.below hb (Nat.le_refl _))
      clear HB B0 Q2
      have HB := HB_
      have B0 := B0_
      have Q2 := Q2_
      clear HB_ B0_ Q2_
      clear hb
      clear Q2
      have c_B00 := Blk.cell B0.out 0
      simp only [List.getElem?_cons_zero] at c_B00
      go_wp2_with fail
      refine (CT.out _ (R.out _ HB.out)).mono ?_
      rintro e w4 ⟨⟨v4, u4, rfl, ho⟩, hb⟩
      clear c_B00
      have HB_ := Lib.hid (HB.out.trans (hb.mono (LS.out _ HB.out)))
      have B0_ := Lib.hid (Blk.below B0.out hb (Blk.lt B0.out))
      clear HB B0
      have HB := HB_
      have B0 := B0_
      clear HB_ B0_
      clear hb
      obtain ⟨rfl, ho⟩ := ho
      obtain ⟨q4, k4, rfl⟩ := Own.shape ho
      have XO := Lib.hid ho
      clear ho
      have hb := (Below.refl w4.heap.size w4).alloc (Nat.le_refl _) (.cells #[.slice q4 z0.length k4] 29)
      have X0 := Lib.hid (Blk.new w4 29 [.slice q4 z0.length k4] _ rfl)
      have HB_ := Lib.hid (HB.out.trans (hb.mono (LS.out _ HB.out)))
      have B0_ := Lib.hid (Blk.below B0.out hb (Blk.lt B0.out))
      have XO_ := Lib.hid (XO.out.below hb (Nat.le_refl _))
      clear HB B0 XO
      have HB := HB_
      have B0 := B0_
      have XO := XO_
      clear HB_ B0_ XO_
      clear hb
      go_wp2_with fail
      refine (CI.out _ _ (OwnK.rd ⟨rfl, XO.out⟩)).mono ?_
      rintro e w5 ⟨rfl, hb⟩
      have HB_ := Lib.hid (HB.out.trans (hb.mono (LS.out _ HB.out)))
      have B0_ := Lib.hid (Blk.below B0.out hb (Blk.lt B0.out))
      have XO_ := Lib.hid (XO.out.below hb (Nat.le_refl _))
      have X0_ := Lib.hid (Blk.below X0.out hb (Blk.lt X0.out))
      clear HB B0 XO X0
      have HB := HB_
      have B0 := B0_
      have XO := XO_
      have X0 := X0_
      clear HB_ B0_ XO_ X0_
      clear hb
      have HK : Hid (∀ W, Below w5.heap.size w5 W → W.cell? ⟨w4.heap.size, 0, none⟩ = some (.slice q4 z0.length k4) ∧ W.cell? ⟨w.heap.size, 0, none⟩ = some (.slice a0 z0.length cap0)) := Lib.hid fun W hW => ⟨(Blk.below X0.out hW (Blk.lt X0.out)).cell 0, (Blk.below B0.out hW (Blk.lt B0.out)).cell 0⟩
      obtain ⟨c0, c1⟩ := HK.out _ (Below.refl _ _)
      go_wp2_with fail
      go_region_held3 (fun W => W.cell? ⟨w4.heap.size, 0, none⟩ = some (.slice q4 z0.length k4) ∧ W.cell? ⟨w.heap.size, 0, none⟩ = some (.slice a0 z0.length cap0))
        (first | exact HK.out _ hk2 | exact HK.out _ hk1 | go_keep)
        (first
          | (go_at_call 17; refine (CT.out _ ?_).mono ?_; (exact R.out w5 HB.out); rintro e wa ⟨⟨va, ua, rfl, hoa⟩, hba⟩; have hk1 : Below w5.heap.size w5 wa := ⟨hba.os, hba.tape, hba.output, hba.size, hba.block⟩; have QA := Lib.hid (OwnK.rd hoa))
          | (go_at_call 19; refine (CE.out _ _ _ ?_ ?_).mono ?_; (exact ((OwnK.rd ⟨rfl, XO.out⟩).below hk1 (Nat.le_refl _))); (exact QA.out); rintro e wb ⟨rfl, hbb⟩; have hkb : Below wa.heap.size wa wb := ⟨hbb.os, hbb.tape, hbb.output, hbb.size, hbb.block⟩; have hk2 := hk1.trans (hkb.mono hk1.size)))
      clear c0 c1
      replace hk2 := Lib.hid hk2
      clear hk1 hkb hba hbb QA hoa
      have hb := hk2.out
      have HB_ := Lib.hid (HB.out.trans (hb.mono (LS.out _ HB.out)))
      have B0_ := Lib.hid (Blk.below B0.out hb (Blk.lt B0.out))
      have XO_ := Lib.hid (XO.out.below hb (Nat.le_refl _))
      have X0_ := Lib.hid (Blk.below X0.out hb (Blk.lt X0.out))
      clear HB B0 XO X0
      have HB := HB_
      have B0 := B0_
      have XO := XO_
      have X0 := X0_
      clear HB_ B0_ XO_ X0_
      clear hb hk2 HK
      go_wp2_with fail
      go_ret
      exact ⟨rfl, HB0.out.trans (HB.out.mono (Nat.le_succ _))⟩
    · rw [szFl_no ht] at C1
      have D1 := Lib.hid C1
      clear hrd hmax heach ht hB hz b0 C1
      go_enter Try.func4, Try.ntmps4
      go_wp2_with fail
      refine D1.out.mono ?_
      rintro e w' ⟨rfl, hb⟩
      have HB := Lib.hid (HB0.out.trans (hb.mono HB0.out.size))
      clear hb
      go_wp2_with fail
      go_ret
      exact ⟨rfl, HB.out⟩
  · clear hrd hmax heach hB hz b0 C1
    go_enter Try.func4, Try.ntmps4
    go_wp2_with fail
    go_ret
    exact ⟨rfl, HB0.out⟩

theorem own : ownKnob Try.prog.godebug = none := by kernel_rfl
theorem laidOut : laidOutB Try.prog = true := by kernel_rfl

set_option maxRecDepth 100000 in
theorem lifted (os : Os) (started : os.Started) (H : Type) (enc : TypeId × Value → H) :
    ReturnsInHanded {} Try.checked os 4 .any (Rows.fnExactFileAtSpec.pre6 enc Try.prog Try.f4 Rows.fnExactFileAtRow.domain false) (Rows.fnExactFileAtSpec.post enc Try.prog Try.f4 false true false false) := by
  refine returnsInHanded_of_change (C := Try.checked) own started (by kernel_rfl) Try.func4
    (ChangeSpec.witness6 (enc := enc) (C := Try.checked) false ⟨#[], #[.agg #[.slice none 0 0], .string ByteArray.empty], []⟩ 8 (by kernel_rfl) (by kernel_rfl) (by kernel_rfl) (by kernel_rfl)) ?_
  intro W base args ds gs before hval0 hW hcnd _
  have hval : ∀ (j : Nat) t v, Try.f4.params[j]? = some t → args[j]? = some v → Value.okWide Try.prog W .any base t v := hval0
  have hW' := hW
  obtain ⟨p, q, hA0, hV, rfl, hfz, hnd⟩ := hW
  have hA : DataW.TrodAll enc Try.prog W 0 (fun _ => true) true Try.f4.params.toList args.toList ds p := hA0
  rw [Try.params4] at hA hval
  obtain ⟨v0, vs0, d0, ds0, p0, q0, hargs, rfl, rfl, h0, r0⟩ := trodAll_cons hA
  obtain ⟨v1, vs1, d1, ds1, p1, q1, rfl, rfl, rfl, h1, r1⟩ := trodAll_cons r0
  obtain ⟨rfl, rfl, rfl⟩ := trodAll_nil r1
  obtain rfl : args = #[v0, v1] := by cases args; simp_all
  obtain ⟨rfl, rfl⟩ := trodVars_none hV
  have k0 := h0
  have lt0 : ∀ x ∈ p0, x.block < W.heap.size := by obtain ⟨m, hm⟩ := k0; exact DataW.trod_lt m _ _ _ hm
  obtain ⟨a0, len0, cap0, z0, rfl, w0⟩ := isDisk_of Try.underlying24 (by kernel_rfl) (by kernel_rfl) Try.underlying22 Try.underlying110 (by kernel_rfl) (by kernel_rfl) Try.underlying9 Try.underlying9 Try.underlying3 (hval 0 24 v0 rfl rfl) h0
  have k1 := h1
  have lt1 : ∀ x ∈ p1, x.block < W.heap.size := by obtain ⟨m, hm⟩ := k1; exact DataW.trod_lt m _ _ _ hm
  obtain ⟨a1, rfl, rfl, rfl, w1⟩ := open_string Try.underlying9 (hval 1 9 v1 rfl rfl) h1
  clear hA0 hval0
  refine (walk a0 len0 cap0 z0 a1 W w0 w1).mono fun e W' ⟨he, bel⟩ => ?_
  subst he
  exact ⟨_, rfl, _, _, _, [], _, [], hW', trodAll_mk1 (shut_bool Try.underlying4 _), (trodAll_cons_mk (Below.trod laidOut (by kernel_rfl) (of_decide_eq_true (by kernel_rfl)) k0 bel lt0) (trodAll_cons_mk (Below.trod laidOut (by kernel_rfl) (of_decide_eq_true (by kernel_rfl)) k1 bel lt1) trodAll_mk0)), rfl, bel.frame _, fun h => by cases h⟩

theorem over : Rows.fnExactFileAtRow.holds Try.pinned (OpenSpec.ofChange Rows.fnExactFileAtSpec) :=
  OpenClaim.holds_of_wide 4 Try.f4 rfl rfl rfl rfl rfl rfl rfl ⟨rfl, rfl, rfl, rfl, rfl⟩ rfl rfl rfl rfl rfl (by kernel_rfl) Try.func4 (by kernel_rfl)
    (of_decide_eq_true (by kernel_rfl)) (by unfold Func.isWrapper; first | (rw [if_pos (by decide +kernel)]; kernel_rfl) | (rw [if_neg (by decide +kernel)]; exact ⟨rfl, rfl⟩))
    (fun os started H enc _ => lifted os started H enc)

/-- The statement. -/
theorem proved : Rows.FnExactFileAtSaid :=
  over
#print axioms proved

end Go.Proofs.Ytdecehecjlbbiaa.fnExactFileAt
