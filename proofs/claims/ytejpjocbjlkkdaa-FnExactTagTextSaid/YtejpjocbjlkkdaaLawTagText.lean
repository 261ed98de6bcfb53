/-
  For every number and all strings (of at most 2^20 bytes in all; more are passed by) the program's TagText and the reference's return the same, and the strings stay: 'FnExactTagText' returns true. No conditions.
-/
import Derived.Test.YtejpjocbjlkkdaaFrameS
import Derived.Test.YtejpjocbjlkkdaaTags1
namespace Go.Proofs.Ytejpjocbjlkkdaa.fnExactTagText
open Go.ChangeShapes Go.WideShapes Go.ChangeAt Go.RowKit
open Go.ChangeMaps (open_string shut_string)
set_option linter.unusedVariables false

set_option maxHeartbeats 2000000 in
theorem walk (a0 : Int) (a1 : Option Addr) (len1 cap1 : Nat) (z1 : List ByteArray) (w : World) (w0 : (Lit.int .i64 a0).wf = true) (w1 : IsStrs w a1 len1 cap1 z1) :
    Calls Try.prog 9 #[.int .i64 a0, .slice a1 len1 cap1] w fun e w' => e = .returned (.bool true) ∧ Below w.heap.size w w' := by
  obtain ⟨rfl, hmax, heach, hrd⟩ := w1
  unfold maxLen at hmax heach
  have C1 := Lib.hid (szStringS_any a1 cap1 z1 1048576 w hmax heach (by omega) (by omega) hrd)
  have R := Lib.hid hrd
  by_cases ht : (totS z1 : Int) ≤ 1048576
  · have hl : z1.length ≤ 1048576 := by have := totS_eq z1; omega
    have hs : ∀ x ∈ z1, x.size ≤ 1048576 := fun x hx => by have := tot_mem hx; omega
    rw [szV_yes ht] at C1
    have hleft : ¬ (1048576 - (totS z1 : Int) < 0) := by omega
    have C2 := Lib.hid (fun ao cap w h => iTagText_any a0 ao cap z1 w hl hs h)
    have HS := Lib.hid hs
    clear hrd heach hs hmax w0
    generalize (totS z1 : Int) = T at *
    go_enter Try.func9, Try.ntmps9
    go_wp2_with fail
    refine C1.out.mono ?_
    rintro e w' ⟨rfl, rfl⟩
    go_wp2_with fail
    refine (toStringS_any a1 cap1 z1 _ hl R.out).mono ?_
    rintro e w1 ⟨⟨v1, rfl, ho1⟩, hb1⟩
    obtain ⟨ao1, c1, rfl, r1⟩ := ho1.rd
    clear ho1
    go_wp2_with fail
    refine (sTagText_any a0 ao1 c1 z1 _ hl HS.out r1).mono ?_
    rintro e w2 ⟨rfl, hb2⟩
    have HB2 := Lib.hid (hb1.trans (hb2.mono hb1.size))
    have R2 := Lib.hid (R.out.below HB2.out (Nat.le_refl _))
    clear r1 hb1 hb2
    generalize tagL a0 z1 = o at *
    rcases o with _ | t
    all_goals
      simp only [optTxt] at C2 ⊢
      go_wp2_with fail
      refine (toStringS_any a1 cap1 z1 _ hl R2.out).mono ?_
      rintro e w3 ⟨⟨v3, rfl, ho3⟩, hb3⟩
      obtain ⟨ao3, c3, rfl, r3⟩ := ho3.rd
      have R3 := Lib.hid r3
      have HB3 := Lib.hid (HB2.out.trans (hb3.mono HB2.out.size))
      clear ho3 r3 hb3
      go_wp2_with fail
      refine (C2.out ao3 c3 w3 R3.out).mono ?_
      rintro e w4 ⟨rfl, hb4⟩
      have R4 := Lib.hid (R3.out.below hb4 (Nat.le_refl _))
      have HB4 := Lib.hid (HB3.out.trans (hb4.mono HB3.out.size))
      have R5 := Lib.hid (R.out.below HB4.out (Nat.le_refl _))
      clear hb4 R3
      go_wp2_with fail
      refine (toStringS_any a1 cap1 z1 _ hl R5.out).mono ?_
      rintro e w5 ⟨⟨v5, rfl, ho5⟩, hb5⟩
      obtain ⟨ao5, c5, rfl, r5⟩ := ho5.rd
      have R6 := Lib.hid (R4.out.below hb5 (Nat.le_refl _))
      have Q5 := Lib.hid r5
      have HB5 := Lib.hid (HB4.out.trans (hb5.mono HB4.out.size))
      clear ho5 r5 hb5
      go_wp2_with fail
      refine (eqStringS_any ao3 ao5 c3 c5 z1 z1 _ (by omega) (by omega) R6.out Q5.out).mono ?_
      rintro e w6 ⟨rfl, hb6⟩
      have HB6 := Lib.hid (HB5.out.trans (hb6.mono HB5.out.size))
      clear hb6
      go_wp2_with fail
      go_ret
      exact ⟨rfl, HB6.out⟩
  · rw [szV_no ht] at C1
    clear hrd heach w0
    go_enter Try.func9, Try.ntmps9
    go_wp2_with fail
    refine C1.out.mono ?_
    rintro e w' ⟨rfl, rfl⟩
    go_wp2_with fail
    go_ret
    exact ⟨rfl, Below.refl _ _⟩

theorem own : ownKnob Try.prog.godebug = none := by kernel_rfl
theorem laidOut : laidOutB Try.prog = true := by kernel_rfl

set_option maxRecDepth 100000 in
theorem lifted (os : Os) (started : os.Started) (H : Type) (enc : TypeId × Value → H) :
    ReturnsInHanded {} Try.checked os 9 .any (Rows.fnExactTagTextSpec.pre6 enc Try.prog Try.f9 Rows.fnExactTagTextRow.domain false) (Rows.fnExactTagTextSpec.post enc Try.prog Try.f9 false true false false) := by
  refine returnsInHanded_of_change (C := Try.checked) own started (by kernel_rfl) Try.func9
    (ChangeSpec.witness6 (enc := enc) (C := Try.checked) false ⟨#[], #[.int .i64 0, .slice none 0 0], []⟩ 8 (by kernel_rfl) (by kernel_rfl) (by kernel_rfl) (by kernel_rfl)) ?_
  intro W base args ds gs before hval0 hW hcnd _
  have hval : ∀ (j : Nat) t v, Try.f9.params[j]? = some t → args[j]? = some v → Value.okWide Try.prog W .any base t v := hval0
  have hW' := hW
  obtain ⟨p, q, hA0, hV, rfl, hfz, hnd⟩ := hW
  have hA : DataW.TrodAll enc Try.prog W 0 (fun _ => true) true Try.f9.params.toList args.toList ds p := hA0
  rw [Try.params9] at hA hval
  obtain ⟨v0, vs0, d0, ds0, p0, q0, hargs, rfl, rfl, h0, r0⟩ := trodAll_cons hA
  obtain ⟨v1, vs1, d1, ds1, p1, q1, rfl, rfl, rfl, h1, r1⟩ := trodAll_cons r0
  obtain ⟨rfl, rfl, rfl⟩ := trodAll_nil r1
  obtain rfl : args = #[v0, v1] := by cases args; simp_all
  obtain ⟨rfl, rfl⟩ := trodVars_none hV
  have k0 := h0
  have lt0 : ∀ x ∈ p0, x.block < W.heap.size := by obtain ⟨m, hm⟩ := k0; exact DataW.trod_lt m _ _ _ hm
  obtain ⟨a0, rfl, rfl, rfl, w0⟩ := open_int Try.underlying3 (hval 0 3 v0 rfl rfl) h0
  have k1 := h1
  have lt1 : ∀ x ∈ p1, x.block < W.heap.size := by obtain ⟨m, hm⟩ := k1; exact DataW.trod_lt m _ _ _ hm
  obtain ⟨a1, len1, cap1, rfl⟩ := okWide_slice Try.underlying28 (hval 1 28 v1 rfl rfl)
  obtain ⟨z1, w1⟩ := isStrs_of Try.underlying28 Try.underlying9 (by kernel_rfl) h1
  clear hA0 hval0
  refine (walk a0 a1 len1 cap1 z1 W w0 w1).mono fun e W' ⟨he, bel⟩ => ?_
  subst he
  exact ⟨_, rfl, _, _, _, [], _, [], hW', trodAll_mk1 (shut_bool Try.underlying4 _), (trodAll_cons_mk (Below.trod laidOut (by kernel_rfl) (of_decide_eq_true (by kernel_rfl)) k0 bel lt0) (trodAll_cons_mk (Below.trod laidOut (by kernel_rfl) (of_decide_eq_true (by kernel_rfl)) k1 bel lt1) trodAll_mk0)), rfl, bel.frame _, fun h => by cases h⟩

theorem over : Rows.fnExactTagTextRow.holds Try.pinned (OpenSpec.ofChange Rows.fnExactTagTextSpec) :=
  OpenClaim.holds_of_wide 9 Try.f9 rfl rfl rfl rfl rfl rfl rfl ⟨rfl, rfl, rfl, rfl, rfl⟩ rfl rfl rfl rfl rfl (by kernel_rfl) Try.func9 (by kernel_rfl)
    (of_decide_eq_true (by kernel_rfl)) (by unfold Func.isWrapper; first | (rw [if_pos (by decide +kernel)]; kernel_rfl) | (rw [if_neg (by decide +kernel)]; exact ⟨rfl, rfl⟩))
    (fun os started H enc _ => lifted os started H enc)

/-- The statement. -/
theorem proved : Rows.FnExactTagTextSaid :=
  over
#print axioms proved

end Go.Proofs.Ytejpjocbjlkkdaa.fnExactTagText
