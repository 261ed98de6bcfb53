/-
  The program's ShaStart and the reference's return the same words: 'FnExactShaStart' returns true.
-/
import Derived.Test.YtcibnablgfaepaaDoorFrameD
import Derived.Test.YtcibnablgfaepaaDoorSha0
namespace Go.Proofs.YtcibnablgfaepaaDoor.fnExactShaStart
open Go.ChangeShapes Go.WideShapes Go.ChangeAt Go.RowKit
open Go.ChangeMaps (open_string shut_string)
set_option linter.unusedVariables false

theorem gTab : Tryd.prog.globalNamed "loop.example/g00284/impl.startWords" = some 0 := by kernel_rfl
theorem gTabType : (Tryd.prog.globals[0]?).map (·.type) = some 28 := by kernel_rfl
theorem cellsA : Tryd.prog.cellsOf 28 = 8 := by kernel_rfl
theorem cellsE : Tryd.prog.cellsOf 27 = 1 := by kernel_rfl
theorem table {W : World} (h : laidMetH Tryd.prog Rows.fnExactShaStartRow.laid W) : TabAt W 0 .u32 startL :=
  tabAt_of (Lib.tabIs_of_head (rest := []) gTab gTabType Tryd.underlying28 Tryd.underlying27 cellsE cellsA h) gTab

set_option maxHeartbeats 2000000 in
theorem walk (w : World) (hL : laidMetH Tryd.prog Rows.fnExactShaStartRow.laid w) :
    Calls Tryd.prog 3 #[] w fun e w' => e = .returned (.bool true) ∧ Below w.heap.size w w' := by
  have HT := Lib.hid (table hL)
  have hl : startL.length = 8 := rfl
  have HL := Lib.hid hl
  clear hL
  generalize hk : startL.length = K at *
  go_enter Tryd.func3, Tryd.ntmps3
  go_wp2_with fail
  refine (sShaStart_any _).mono ?_
  rintro e w1 ⟨⟨v1, rfl, ho1⟩, hb1⟩
  obtain ⟨ao1, cap1, rfl, r1⟩ := ho1.rd
  have R1 := Lib.hid r1
  clear ho1 r1
  go_wp2_with fail
  refine (iShaStart_any _ (HT.out.below hb1 (Nat.le_refl _))).mono ?_
  rintro e w2 ⟨⟨v2, rfl, ho2⟩, hb2⟩
  have HB := Lib.hid (hb1.trans (hb2.mono hb1.size))
  have HS := Lib.hid hb1.size
  have Ho2 := Lib.hid ho2
  obtain ⟨ao2, cap2, rfl, r2⟩ := ho2.rd
  have R1' := Lib.hid (R1.out.below hb2 (Nat.le_refl _))
  have R2 := Lib.hid r2
  clear ho2 r2 hb1 hb2
  go_wp2_with fail
  refine (eqIntS_any ao2 ao1 cap2 cap1 startL startL _ (by rw [hk]; omega) (by rw [hk]; omega) R2.out R1'.out).mono ?_
  rintro e w3 ⟨rfl, hb3⟩
  have Ho3 := Lib.hid (Ho2.out.below hb3 (Nat.le_refl _))
  have HB3 := Lib.hid (HB.out.trans (hb3.mono HB.out.size))
  have R3 := Lib.hid (R1'.out.below hb3 (Nat.le_refl _))
  clear Ho2 R2 R1' hb3 HB
  go_wp2_with fail
  refine (markIntS_any _ startL _ 1 _ (by rw [hk]; omega) (by omega) (by omega) Ho3.out).mono ?_
  rintro e w4 ⟨rfl, ho4, hg4⟩
  have hblk := Ho3.out.block
  have R4 := Lib.hid (R3.out.kept R1.out hg4 (fun k hk => (hblk k hk).1))
  have HB4 := Lib.hid (HB3.out.grown hg4 HB3.out.size (fun k hk => Nat.le_trans HS.out (hblk k hk).1))
  obtain ⟨ao4, cap4, he4, r4⟩ := ho4.rd
  rw [nums_length] at he4
  cases he4
  have Q4 := Lib.hid r4
  clear ho4 r4 hblk hg4 HB3 R3 Ho3
  go_wp2_with fail
  refine (heldIntS_any ao2 cap2 startL.length 1 _ (by rw [hk]; omega) (by omega) (by omega) Q4.out).mono ?_
  rintro e w5 ⟨rfl, hb5⟩
  have Q5 := Lib.hid (Q4.out.below hb5 (Nat.le_refl _))
  have R5 := Lib.hid (R4.out.below hb5 (Nat.le_refl _))
  have HB5 := Lib.hid (HB4.out.trans (hb5.mono HB4.out.size))
  clear Q4 R4 HB4 hb5
  go_wp2_with fail
  refine (iShaStart_any _ (HT.out.below HB5.out (Nat.le_refl _))).mono ?_
  rintro e w6 ⟨⟨v6, rfl, ho6⟩, hb6⟩
  obtain ⟨ao6, cap6, rfl, r6⟩ := ho6.rd
  have Q6 := Lib.hid (Q5.out.below hb6 (Nat.le_refl _))
  have R6 := Lib.hid (R5.out.below hb6 (Nat.le_refl _))
  have HB6 := Lib.hid (HB5.out.trans (hb6.mono HB5.out.size))
  have P6 := Lib.hid r6
  clear Q5 R5 HB5 hb6 ho6 r6
  go_wp2_with fail
  refine (eqIntS_any ao6 ao1 cap6 cap1 startL startL _ (by rw [hk]; omega) (by rw [hk]; omega) P6.out R6.out).mono ?_
  rintro e w7 ⟨rfl, hb7⟩
  have Q7 := Lib.hid (Q6.out.below hb7 (Nat.le_refl _))
  have HB7 := Lib.hid (HB6.out.trans (hb7.mono HB6.out.size))
  clear Q6 R6 HB6 hb7 P6
  go_wp2_with fail
  refine (heldIntS_any ao2 cap2 startL.length 1 _ (by rw [hk]; omega) (by omega) (by omega) Q7.out).mono ?_
  rintro e w8 ⟨rfl, hb8⟩
  have HB8 := Lib.hid (HB7.out.trans (hb8.mono HB7.out.size))
  clear Q7 HB7 hb8
  go_wp2_with fail
  go_ret
  exact ⟨rfl, HB8.out⟩

theorem own : ownKnob Tryd.prog.godebug = none := by kernel_rfl
theorem laidOut : laidOutB Tryd.prog = true := by kernel_rfl
theorem fine : fineVars Tryd.prog Rows.fnExactShaStartSpec.vars = true := by kernel_rfl

theorem contract (H : Type) (enc : TypeId × Value → H) (W : World) (base : Nat) (args : Array Value) (ds gs : List (DataW H)) (before : List MemPlace)
    (hval0 : ∀ (j : Nat) t v, Tryd.f3.params[j]? = some t → args[j]? = some v → Value.okWide Tryd.prog W .any base t v)
    (hW : DataW.Whole enc Tryd.prog Tryd.f3.params.toList Rows.fnExactShaStartSpec.vars false W args.toList ds gs before) (hL : laidMetH Tryd.prog Rows.fnExactShaStartRow.laid W) :
    Calls Tryd.prog 3 args W fun e W' => ∃ v, e = .returned v ∧ Rows.fnExactShaStartSpec.post enc Tryd.prog Tryd.f3 false true false false W args v W' := by
  have hval : ∀ (j : Nat) t v, Tryd.f3.params[j]? = some t → args[j]? = some v → Value.okWide Tryd.prog W .any base t v := hval0
  have hW' := hW
  obtain ⟨p, q, hA0, hV, rfl, hfz, hnd⟩ := hW
  have hA : DataW.TrodAll enc Tryd.prog W 0 (fun _ => true) true Tryd.f3.params.toList args.toList ds p := hA0
  rw [Tryd.params3] at hA hval
  have hA1 := hA
  obtain ⟨rfl, rfl, rfl⟩ : args = #[] ∧ ds = [] ∧ p = [] := by
    have h := trodAll_none hA
    exact ⟨by have := h.1; cases args; simp_all, h.2⟩
  have hVlt : ∀ x ∈ q, x.block < W.heap.size := hV.lt
  have hV1 := hV
  obtain ⟨g0, gr0, gq0, rfl, hV2⟩ := trodVars_cons hV1
  obtain ⟨rfl, -⟩ := trodVars_none hV2
  clear hA0 hval0
  refine (walk  W  hL).mono fun e W' ⟨he, bel⟩ => ?_
  subst he
  exact ⟨_, rfl, _, _, _, [], _, q, hW', trodAll_mk1 (shut_bool Tryd.underlying4 _), trodAll_mk0, trodVars_stays laidOut bel fine hV hVlt, bel.frame _, fun h => by cases h⟩

noncomputable def laidWorld (os : Os) : World :=
  { World.holding Tryd.prog os ⟨#[], #[], []⟩ with heap := ((World.holding Tryd.prog os ⟨#[], #[], []⟩).heap.modify 0 fun
      | .cells _ t frozen => .cells #[.int .u32 1779033703, .int .u32 3144134277, .int .u32 1013904242, .int .u32 2773480762, .int .u32 1359893119, .int .u32 2600822924, .int .u32 528734635, .int .u32 1541459225] t frozen
      | o => o) }
theorem laid_met (os : Os) : laidMet Tryd.prog Rows.fnExactShaStartRow.laid ((laidWorld os).forCall (fun _ _ => 0) ⟨#[], #[], []⟩).memory :=
  laidMet_of_run' 8 (by kernel_rfl) (by kernel_rfl)
set_option maxRecDepth 100000 in
theorem reads (os : Os) {H : Type} (enc : TypeId × Value → H) : ∃ places, DataW.whole enc Tryd.prog ((laidWorld os).forCall (fun _ _ => 0) ⟨#[], #[], []⟩).memory Tryd.f3.params.toList Rows.fnExactShaStartSpec.vars false (#[] : Array Value).toList 8 = some ([], [Rows.laid_loop_example_g00284_impl_startWords], places) :=
  ⟨MemPlace.row ⟨0, 0, none⟩ 8, by kernel_rfl⟩

set_option maxRecDepth 100000 in
theorem lifted (os : Os) (started : os.Started) (H : Type) (enc : TypeId × Value → H) (F : Stop.Interp) :
    ReturnsInHanded {} Tryd.checked os 3 .any ((OpenSpec.ofChange Rows.fnExactShaStartSpec).preRow enc Tryd.prog Tryd.f3 Rows.fnExactShaStartRow.domain false Rows.fnExactShaStartRow.laid) (((OpenSpec.ofChange Rows.fnExactShaStartSpec).at F).post enc Tryd.prog Tryd.f3 false true false false) := by
  obtain ⟨places, hx⟩ := reads os enc
  refine returnsInHanded_of_row (C := Tryd.checked) (s := OpenSpec.ofChange Rows.fnExactShaStartSpec) own started (by kernel_rfl) Tryd.func3
    (witness_row_at (enc := enc) (C := Tryd.checked) false (laidWorld os) #[] rfl (by kernel_rfl) (by kernel_rfl) (by kernel_rfl)
      (OpenSpec.preRow_of_cond 8 hx (by kernel_rfl) (fun k hk => by cases hk) (by kernel_rfl) (laid_met os))) ?_
  intro W base args ds gs before hval hW _ _ _ hL _ _
  exact contract H enc W base args ds gs before hval hW hL

theorem said : Rows.FnExactShaStartSaid :=
  OpenClaim.holds_of_cond 3 Tryd.f3 rfl rfl rfl rfl rfl rfl rfl ⟨rfl, rfl, rfl, rfl, rfl⟩ rfl rfl rfl rfl rfl (by kernel_rfl) Tryd.func3 (by kernel_rfl)
    (of_decide_eq_true (by kernel_rfl)) (by unfold Func.isWrapper; first | (rw [if_pos (by decide +kernel)]; kernel_rfl) | (rw [if_neg (by decide +kernel)]; exact ⟨rfl, rfl⟩))
    (fun os started H enc _ F => by rw [OpenClaim.pre_eq_preRow]; exact lifted os started H enc F)

theorem plain (f : FuncId) (fn : Func) (hf : Tryd.pinned.checked.prog.funcNamed "loop.example/g00284/laws.FnExactShaStart" = some f) (hfn : Tryd.pinned.checked.prog.funcs[f]? = some fn) :
    false = Tryd.pinned.checked.prog.looks [] ∧ ∀ (j : Nat) t, fn.params[j]? = some t → Tryd.pinned.checked.prog.wantsStandIn t = false := by
  obtain rfl : f = 3 := Option.some.inj ((show Tryd.prog.funcNamed "loop.example/g00284/laws.FnExactShaStart" = some 3 by kernel_rfl).symm.trans hf) |>.symm
  obtain rfl : fn = Tryd.f3 := (Option.some.inj (Tryd.func3.symm.trans hfn)).symm
  refine ⟨by kernel_rfl, fun j t ht => ?_⟩
  rw [Tryd.params3] at ht
  simp at ht

/-- The statement: the card. -/
theorem proved : Rows.FnExactShaStartCardSaid :=
  Claim7.holds_tied_plain_at .later [] _ _ _ _ said (fun _ h => by cases h) (by kernel_rfl) (fun _ h => by cases h) fnExactShaStart_row_tie rfl ⟨rfl, rfl⟩ (by kernel_rfl) rfl plain (by kernel_rfl)
#print axioms proved

end Go.Proofs.YtcibnablgfaepaaDoor.fnExactShaStart
