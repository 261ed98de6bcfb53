/-
  For every string of at most 2^20 bytes the program's PartsOf and the reference's return the same (a longer one is passed by), and what the program handed out is its caller's: 'FnExactPartsOf' returns true. No conditions.
-/
import Derived.Test.YtejpjocbjlkkdaaFrame
import Derived.Test.YtejpjocbjlkkdaaParts1
namespace Go.Proofs.Ytejpjocbjlkkdaa.fnExactPartsOf
open Go.ChangeShapes Go.WideShapes Go.ChangeAt Go.RowKit
open Go.ChangeMaps (open_string shut_string)
set_option linter.unusedVariables false

set_option maxHeartbeats 2000000 in
theorem walk (a0 : ByteArray) (w : World) (w0 : a0.size ≤ maxLen) :
    Calls Try.prog 12 #[.string a0] w fun e w' => e = .returned (.bool true) ∧ Below w.heap.size w w' := by
  unfold maxLen at w0
  by_cases hs : a0.size ≤ 1048576
  · have C1 := Lib.hid (fun w => sPartsOf_any a0 hs w)
    have C2 := Lib.hid (fun w => iPartsOf_any a0 hs w)
    have hl : (((partsL a0.data.toList).getD []).map txt).length ≤ 1048576 := by
      rw [List.length_map]
      cases h : partsL a0.data.toList with
      | none => exact Nat.zero_le _
      | some a => have := partsL_len h; simp only [Option.getD_some]; omega
    generalize ((partsL a0.data.toList).getD []).map txt = l at *
    generalize (partsL a0.data.toList).isSome = k at *
    go_enter Try.func12, Try.ntmps12
    go_wp2_with fail
    refine (C1.out _).mono ?_
    rintro e w1 ⟨⟨v1, rfl, ho1⟩, hb1⟩
    obtain ⟨ao1, cap1, rfl, r1⟩ := ho1.rd
    have R1 := Lib.hid r1
    clear ho1 r1
    go_wp2_with fail
    refine (C2.out _).mono ?_
    rintro e w2 ⟨⟨v2, rfl, ho2⟩, hb2⟩
    have HB := Lib.hid (hb1.trans (hb2.mono hb1.size))
    have HS := Lib.hid hb1.size
    have Ho2 := Lib.hid ho2
    obtain ⟨ao2, cap2, rfl, r2⟩ := ho2.rd
    have R1' := Lib.hid (R1.out.below hb2 (Nat.le_refl _))
    have R2 := Lib.hid r2
    clear ho2 r2 hb1 hb2
    go_wp2_with fail
    refine (eqStringS_any ao2 ao1 cap2 cap1 l l _ (by omega) (by omega) R2.out R1'.out).mono ?_
    rintro e w3 ⟨rfl, hb3⟩
    have Ho3 := Lib.hid (Ho2.out.below hb3 (Nat.le_refl _))
    have HB3 := Lib.hid (HB.out.trans (hb3.mono HB.out.size))
    have R3 := Lib.hid (R1'.out.below hb3 (Nat.le_refl _))
    clear Ho2 R2 R1' hb3 HB
    go_wp2_with fail
    refine (markStringS_any _ l _ 1 _ hl (by omega) (by omega) Ho3.out).mono ?_
    rintro e w4 ⟨rfl, ho4, hg4⟩
    have hblk := Ho3.out.block
    have R4 := Lib.hid (R3.out.kept R1.out hg4 (fun k hk => (hblk k hk).1))
    have HB4 := Lib.hid (HB3.out.grown hg4 HB3.out.size (fun k hk => Nat.le_trans HS.out (hblk k hk).1))
    obtain ⟨ao4, cap4, he4, r4⟩ := ho4.rd
    rw [marks_length] at he4
    cases he4
    have Q4 := Lib.hid r4
    clear ho4 r4 hblk hg4 HB3 R3 Ho3
    go_wp2_with fail
    refine (heldStringS_any ao2 cap2 l.length 1 _ hl (by omega) (by omega) Q4.out).mono ?_
    rintro e w5 ⟨rfl, hb5⟩
    have Q5 := Lib.hid (Q4.out.below hb5 (Nat.le_refl _))
    have R5 := Lib.hid (R4.out.below hb5 (Nat.le_refl _))
    have HB5 := Lib.hid (HB4.out.trans (hb5.mono HB4.out.size))
    clear Q4 R4 HB4 hb5
    go_wp2_with fail
    refine (C2.out _).mono ?_
    rintro e w6 ⟨⟨v6, rfl, ho6⟩, hb6⟩
    obtain ⟨ao6, cap6, rfl, r6⟩ := ho6.rd
    have Q6 := Lib.hid (Q5.out.below hb6 (Nat.le_refl _))
    have R6 := Lib.hid (R5.out.below hb6 (Nat.le_refl _))
    have HB6 := Lib.hid (HB5.out.trans (hb6.mono HB5.out.size))
    have P6 := Lib.hid r6
    clear Q5 R5 HB5 hb6 ho6 r6
    go_wp2_with fail
    refine (eqStringS_any ao6 ao1 cap6 cap1 l l _ (by omega) (by omega) P6.out R6.out).mono ?_
    rintro e w7 ⟨rfl, hb7⟩
    have Q7 := Lib.hid (Q6.out.below hb7 (Nat.le_refl _))
    have HB7 := Lib.hid (HB6.out.trans (hb7.mono HB6.out.size))
    clear Q6 R6 HB6 hb7 P6
    go_wp2_with fail
    refine (heldStringS_any ao2 cap2 l.length 1 _ hl (by omega) (by omega) Q7.out).mono ?_
    rintro e w8 ⟨rfl, hb8⟩
    have HB8 := Lib.hid (HB7.out.trans (hb8.mono HB7.out.size))
    clear Q7 HB7 hb8
    go_wp2_with fail
    go_ret
    exact ⟨rfl, HB8.out⟩
  · go_enter Try.func12, Try.ntmps12
    go_wp2_with fail
    go_ret
    exact ⟨rfl, Below.refl _ _⟩

theorem own : ownKnob Try.prog.godebug = none := by kernel_rfl
theorem laidOut : laidOutB Try.prog = true := by kernel_rfl

set_option maxRecDepth 100000 in
theorem lifted (os : Os) (started : os.Started) (H : Type) (enc : TypeId × Value → H) :
    ReturnsInHanded {} Try.checked os 12 .any (Rows.fnExactPartsOfSpec.pre6 enc Try.prog Try.f12 Rows.fnExactPartsOfRow.domain false) (Rows.fnExactPartsOfSpec.post enc Try.prog Try.f12 false true false false) := by
  refine returnsInHanded_of_change (C := Try.checked) own started (by kernel_rfl) Try.func12
    (ChangeSpec.witness6 (enc := enc) (C := Try.checked) false ⟨#[], #[.string ByteArray.empty], []⟩ 8 (by kernel_rfl) (by kernel_rfl) (by kernel_rfl) (by kernel_rfl)) ?_
  intro W base args ds gs before hval0 hW hcnd _
  have hval : ∀ (j : Nat) t v, Try.f12.params[j]? = some t → args[j]? = some v → Value.okWide Try.prog W .any base t v := hval0
  have hW' := hW
  obtain ⟨p, q, hA0, hV, rfl, hfz, hnd⟩ := hW
  have hA : DataW.TrodAll enc Try.prog W 0 (fun _ => true) true Try.f12.params.toList args.toList ds p := hA0
  rw [Try.params12] at hA hval
  obtain ⟨v0, vs0, d0, ds0, p0, q0, hargs, rfl, rfl, h0, r0⟩ := trodAll_cons hA
  obtain ⟨rfl, rfl, rfl⟩ := trodAll_nil r0
  obtain rfl : args = #[v0] := by cases args; simp_all
  obtain ⟨rfl, rfl⟩ := trodVars_none hV
  have k0 := h0
  have lt0 : ∀ x ∈ p0, x.block < W.heap.size := by obtain ⟨m, hm⟩ := k0; exact DataW.trod_lt m _ _ _ hm
  obtain ⟨a0, rfl, rfl, rfl, w0⟩ := open_string Try.underlying9 (hval 0 9 v0 rfl rfl) h0
  clear hA0 hval0
  refine (walk a0 W w0).mono fun e W' ⟨he, bel⟩ => ?_
  subst he
  exact ⟨_, rfl, _, _, _, [], _, [], hW', trodAll_mk1 (shut_bool Try.underlying4 _), (trodAll_cons_mk (Below.trod laidOut (by kernel_rfl) (of_decide_eq_true (by kernel_rfl)) k0 bel lt0) trodAll_mk0), rfl, bel.frame _, fun h => by cases h⟩

theorem over : Rows.fnExactPartsOfRow.holds Try.pinned (OpenSpec.ofChange Rows.fnExactPartsOfSpec) :=
  OpenClaim.holds_of_wide 12 Try.f12 rfl rfl rfl rfl rfl rfl rfl ⟨rfl, rfl, rfl, rfl, rfl⟩ rfl rfl rfl rfl rfl (by kernel_rfl) Try.func12 (by kernel_rfl)
    (of_decide_eq_true (by kernel_rfl)) (by unfold Func.isWrapper; first | (rw [if_pos (by decide +kernel)]; kernel_rfl) | (rw [if_neg (by decide +kernel)]; exact ⟨rfl, rfl⟩))
    (fun os started H enc _ => lifted os started H enc)

/-- The statement. -/
theorem proved : Rows.FnExactPartsOfSaid :=
  over
#print axioms proved

end Go.Proofs.Ytejpjocbjlkkdaa.fnExactPartsOf
