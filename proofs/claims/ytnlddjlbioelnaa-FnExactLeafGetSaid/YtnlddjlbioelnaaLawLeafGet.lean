/-
  For all entries and names (of at most 2^20 bytes in all; more are passed by) the program's LeafGet and the reference's return the same, and the entries stay: 'FnExactLeafGet' returns true. No conditions.
-/
import Derived.Test.YtnlddjlbioelnaaFrameL
import Derived.Test.YtnlddjlbioelnaaLeaf1
namespace Go.Proofs.Ytnlddjlbioelnaa.fnExactLeafGet
open Go.ChangeShapes Go.WideShapes Go.ChangeAt Go.RowKit
open Go.ChangeMaps (open_string shut_string)
set_option linter.unusedVariables false

set_option maxHeartbeats 1000000 in
theorem walk (a0 : Option Addr) (len0 cap0 : Nat) (z0 : List Lf) (a1 : ByteArray) (w : World) (w0 : IsLeafs w a0 len0 cap0 z0) (w1 : a1.size ≤ maxLen) :
    Calls Try.prog 4 #[.slice a0 len0 cap0, .string a1] w fun e w' => e = .returned (.bool true) ∧ Below w.heap.size w w' := by
  obtain ⟨rfl, hmax, heach, hrd⟩ := w0
  unfold maxLen at hmax heach w1
  by_cases h1 : a1.size ≤ 1048576
  · have C1 := Lib.hid (szLeafS_any a0 cap0 z0 1048576 w hmax heach (by omega) (by omega) hrd)
    have R := Lib.hid hrd
    by_cases ht : (z0.length : Int) + sumF z0 ≤ 1048576
    · have hl : z0.length ≤ 1048576 := by omega
      rw [szF_yes ht] at C1
      have hleft : ¬ ((1048576 : Int) - z0.length - (sumF z0 : Int) < 0) := by omega
      have CS0 := fun ao cap W h => sLeafGet_any ao cap z0 a1 W hl h
      have CI0 := fun ao cap W h => iLeafGet_any ao cap z0 a1 W hl h
      obtain ⟨v, b, hg⟩ : ∃ v b, getL z0 a1 = .tuple #[.string v, .bool b] := by
        unfold getL; split
        · exact ⟨_, _, rfl⟩
        · exact ⟨_, _, rfl⟩
      rw [hg] at CS0 CI0
      have e1 : (v.toList == v.toList) = true := beq_self_eq_true _
      have CS := Lib.hid CS0
      have CI := Lib.hid CI0
      clear CS0 CI0 hg hrd heach hmax ht
      generalize (1048576 : Int) - z0.length - (sumF z0 : Int) = left at *
      go_enter Try.func4, Try.ntmps4
      go_wp2_with fail
      refine C1.out.mono ?_
      rintro e w1 ⟨rfl, hb1⟩
      have HB1 := Lib.hid hb1
      clear hb1
      go_wp2_with fail
      refine (toLeafS_any a0 cap0 z0 w1 hl (R.out.below HB1.out (Nat.le_refl _))).mono ?_
      rintro e w2 ⟨⟨v2, rfl, ho2⟩, hb2⟩
      obtain ⟨ao2, c2, rfl, r2⟩ := ho2.rd
      have HB2 := Lib.hid (HB1.out.trans (hb2.mono HB1.out.size))
      have R2 := Lib.hid r2
      clear hb2 ho2 r2
      go_wp2_with fail
      refine (CS.out ao2 c2 w2 R2.out).mono ?_
      rintro e w3 ⟨rfl, hb3⟩
      have HB3 := Lib.hid (HB2.out.trans (hb3.mono HB2.out.size))
      clear hb3 R2
      go_wp2_with fail
      refine (toLeafS_any a0 cap0 z0 w3 hl (R.out.below HB3.out (Nat.le_refl _))).mono ?_
      rintro e w4 ⟨⟨v4, rfl, ho4⟩, hb4⟩
      obtain ⟨ao4, c4, rfl, r4⟩ := ho4.rd
      have HB4 := Lib.hid (HB3.out.trans (hb4.mono HB3.out.size))
      have R4 := Lib.hid r4
      clear hb4 ho4 r4
      go_wp2_with fail
      refine (CI.out ao4 c4 w4 R4.out).mono ?_
      rintro e w5 ⟨rfl, hb5⟩
      have HB5 := Lib.hid (HB4.out.trans (hb5.mono HB4.out.size))
      have R5 := Lib.hid (R4.out.below hb5 (Nat.le_refl _))
      clear hb5 R4
      go_wp2_with fail
      refine (toLeafS_any a0 cap0 z0 w5 hl (R.out.below HB5.out (Nat.le_refl _))).mono ?_
      rintro e w6 ⟨⟨v6, rfl, ho6⟩, hb6⟩
      obtain ⟨ao6, c6, rfl, r6⟩ := ho6.rd
      have HB6 := Lib.hid (HB5.out.trans (hb6.mono HB5.out.size))
      have R6 := Lib.hid (R5.out.below hb6 (Nat.le_refl _))
      have Q6 := Lib.hid r6
      clear hb6 ho6 r6 R5
      go_wp2_with fail
      refine (eqLeafS_any ao4 ao6 c4 c6 z0 w6 hl R6.out Q6.out).mono ?_
      rintro e w7 ⟨rfl, hb7⟩
      have HB7 := Lib.hid (HB6.out.trans (hb7.mono HB6.out.size))
      clear hb7
      go_wp2_with fail
      go_ret
      exact ⟨rfl, HB7.out⟩
    · rw [szF_no ht] at C1
      clear hrd heach hmax ht
      go_enter Try.func4, Try.ntmps4
      go_wp2_with fail
      refine C1.out.mono ?_
      rintro e w1 ⟨rfl, hb1⟩
      have HB1 := Lib.hid hb1
      clear hb1
      go_wp2_with fail
      go_ret
      exact ⟨rfl, HB1.out⟩
  · clear hrd heach hmax
    go_enter Try.func4, Try.ntmps4
    go_wp2_with fail
    go_ret
    exact ⟨rfl, Below.refl _ _⟩

theorem own : ownKnob Try.prog.godebug = none := by kernel_rfl
theorem laidOut : laidOutB Try.prog = true := by kernel_rfl

set_option maxRecDepth 100000 in
theorem lifted (os : Os) (started : os.Started) (H : Type) (enc : TypeId × Value → H) :
    ReturnsInHanded {} Try.checked os 4 .any (Rows.fnExactLeafGetSpec.pre6 enc Try.prog Try.f4 Rows.fnExactLeafGetRow.domain false) (Rows.fnExactLeafGetSpec.post enc Try.prog Try.f4 false true false false) := by
  refine returnsInHanded_of_change (C := Try.checked) own started (by kernel_rfl) Try.func4
    (ChangeSpec.witness6 (enc := enc) (C := Try.checked) false ⟨#[], #[.slice none 0 0, .string ByteArray.empty], []⟩ 8 (by kernel_rfl) (by kernel_rfl) (by kernel_rfl) (by kernel_rfl)) ?_
  intro W base args ds gs before hval0 hW hcnd _
  have hval : ∀ (j : Nat) t v, Try.f4.params[j]? = some t → args[j]? = some v → Value.okWide Try.prog W .any base t v := hval0
  have hW' := hW
  obtain ⟨p, q, hA0, hV, rfl, hfz, hnd⟩ := hW
  have hA : DataW.TrodAll enc Try.prog W 0 (fun _ => true) true Try.f4.params.toList args.toList ds p := hA0
  rw [Try.params4] at hA hval
  obtain ⟨v0, vs0, d0, ds0, p0, q0, hargs, rfl, rfl, h0, r0⟩ := trodAll_cons hA
  obtain ⟨v1, vs1, d1, ds1, p1, q1, rfl, rfl, rfl, h1, r1⟩ := trodAll_cons r0
  obtain ⟨rfl, rfl, rfl⟩ := trodAll_nil r1
  obtain rfl : args = #[v0, v1] := by cases args; simp_all
  obtain ⟨rfl, rfl⟩ := trodVars_none hV
  have k0 := h0
  have lt0 : ∀ x ∈ p0, x.block < W.heap.size := by obtain ⟨m, hm⟩ := k0; exact DataW.trod_lt m _ _ _ hm
  obtain ⟨a0, len0, cap0, rfl⟩ := okWide_slice Try.underlying32 (hval 0 32 v0 rfl rfl)
  obtain ⟨z0, w0⟩ := isLeafs_of Try.underlying32 Try.underlying61 (by kernel_rfl) (by kernel_rfl) Try.underlying9 Try.underlying9 h0
  have k1 := h1
  have lt1 : ∀ x ∈ p1, x.block < W.heap.size := by obtain ⟨m, hm⟩ := k1; exact DataW.trod_lt m _ _ _ hm
  obtain ⟨a1, rfl, rfl, rfl, w1⟩ := open_string Try.underlying9 (hval 1 9 v1 rfl rfl) h1
  clear hA0 hval0
  refine (walk a0 len0 cap0 z0 a1 W w0 w1).mono fun e W' ⟨he, bel⟩ => ?_
  subst he
  exact ⟨_, rfl, _, _, _, [], _, [], hW', trodAll_mk1 (shut_bool Try.underlying4 _), (trodAll_cons_mk (Below.trod laidOut (by kernel_rfl) (of_decide_eq_true (by kernel_rfl)) k0 bel lt0) (trodAll_cons_mk (Below.trod laidOut (by kernel_rfl) (of_decide_eq_true (by kernel_rfl)) k1 bel lt1) trodAll_mk0)), rfl, bel.frame _, fun h => by cases h⟩

theorem over : Rows.fnExactLeafGetRow.holds Try.pinned (OpenSpec.ofChange Rows.fnExactLeafGetSpec) :=
  OpenClaim.holds_of_wide 4 Try.f4 rfl rfl rfl rfl rfl rfl rfl ⟨rfl, rfl, rfl, rfl, rfl⟩ rfl rfl rfl rfl rfl (by kernel_rfl) Try.func4 (by kernel_rfl)
    (of_decide_eq_true (by kernel_rfl)) (by unfold Func.isWrapper; first | (rw [if_pos (by decide +kernel)]; kernel_rfl) | (rw [if_neg (by decide +kernel)]; exact ⟨rfl, rfl⟩))
    (fun os started H enc _ => lifted os started H enc)

/-- The statement. -/
theorem proved : Rows.FnExactLeafGetSaid :=
  over
#print axioms proved

end Go.Proofs.Ytnlddjlbioelnaa.fnExactLeafGet
