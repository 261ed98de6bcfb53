/-
  For every seed of at most 2^20 bytes (a longer one is passed by) the program's PoolOf and the reference's return the same, and what the program handed out is its caller's: 'FnExactPoolOf' returns true. No conditions.
-/
import Derived.Test.YtcehbmlibfalaaaDoorFrameT
import Derived.Test.YtcehbmlibfalaaaDoorPool2
namespace Go.Proofs.YtcehbmlibfalaaaDoor.fnExactPoolOf
open Go.ChangeShapes Go.WideShapes Go.ChangeAt Go.RowKit
open Go.ChangeMaps (open_string shut_string)
set_option linter.unusedVariables false

set_option maxHeartbeats 2000000 in
theorem walk (a0 : ByteArray) (w : World) (w0 : a0.size ≤ maxLen) (hL : laidMetH Tryd.prog Rows.fnExactPoolOfRow.laid w) :
    Calls Tryd.prog 5 #[.string a0] w fun e w' => e = .returned (.bool true) ∧ Below w.heap.size w w' := by
  unfold maxLen at w0
  have hT := tabsMet hL
  by_cases hs : a0.size ≤ 1048576
  · have C1 := Lib.hid (fun w => sPoolOf_any a0 hs w)
    have C2 := Lib.hid (fun w hx => iPoolOf_any a0 hs w hx)
    have hl : (poolTo a0 16).length ≤ 1048576 := by rw [poolTo_len]; decide
    generalize poolTo a0 16 = l at *
    have HT := Lib.hid hT
    clear hT hL
    go_enter Tryd.func5, Tryd.ntmps5
    go_wp2_with fail
    refine (C1.out _).mono ?_
    rintro e w1 ⟨⟨v1, rfl, ho1⟩, hb1⟩
    obtain ⟨ao1, cap1, rfl, r1⟩ := ho1.rd
    have R1 := Lib.hid r1
    clear ho1 r1
    go_wp2_with fail
    refine (C2.out _ (HT.out.below hb1 (Nat.le_refl _))).mono ?_
    rintro e w2 ⟨⟨v2, rfl, ho2⟩, hb2⟩
    have HB := Lib.hid (hb1.trans (hb2.mono hb1.size))
    have HS := Lib.hid hb1.size
    have Ho2 := Lib.hid ho2
    obtain ⟨ao2, cap2, rfl, r2⟩ := ho2.rd
    have R1' := Lib.hid (R1.out.below hb2 (Nat.le_refl _))
    have R2 := Lib.hid r2
    clear ho2 r2 hb1 hb2
    go_wp2_with fail
    refine (eqStringS_any ao2 ao1 cap2 cap1 l l _ (by omega) (by omega) R2.out R1'.out).mono ?_
    rintro e w3 ⟨rfl, hb3⟩
    have Ho3 := Lib.hid (Ho2.out.below hb3 (Nat.le_refl _))
    have HB3 := Lib.hid (HB.out.trans (hb3.mono HB.out.size))
    have R3 := Lib.hid (R1'.out.below hb3 (Nat.le_refl _))
    clear Ho2 R2 R1' hb3 HB
    go_wp2_with fail
    refine (markStringS_any _ l _ 1 _ hl (by omega) (by omega) Ho3.out).mono ?_
    rintro e w4 ⟨rfl, ho4, hg4⟩
    have hblk := Ho3.out.block
    have R4 := Lib.hid (R3.out.kept R1.out hg4 (fun k hk => (hblk k hk).1))
    have HB4 := Lib.hid (HB3.out.grown hg4 HB3.out.size (fun k hk => Nat.le_trans HS.out (hblk k hk).1))
    obtain ⟨ao4, cap4, he4, r4⟩ := ho4.rd
    rw [marks_length] at he4
    cases he4
    have Q4 := Lib.hid r4
    clear ho4 r4 hblk hg4 HB3 R3 Ho3
    go_wp2_with fail
    refine (heldStringS_any ao2 cap2 l.length 1 _ hl (by omega) (by omega) Q4.out).mono ?_
    rintro e w5 ⟨rfl, hb5⟩
    have Q5 := Lib.hid (Q4.out.below hb5 (Nat.le_refl _))
    have R5 := Lib.hid (R4.out.below hb5 (Nat.le_refl _))
    have HB5 := Lib.hid (HB4.out.trans (hb5.mono HB4.out.size))
    clear Q4 R4 HB4 hb5
    go_wp2_with fail
    refine (C2.out _ (HT.out.below HB5.out (Nat.le_refl _))).mono ?_
    rintro e w6 ⟨⟨v6, rfl, ho6⟩, hb6⟩
    obtain ⟨ao6, cap6, rfl, r6⟩ := ho6.rd
    have Q6 := Lib.hid (Q5.out.below hb6 (Nat.le_refl _))
    have R6 := Lib.hid (R5.out.below hb6 (Nat.le_refl _))
    have HB6 := Lib.hid (HB5.out.trans (hb6.mono HB5.out.size))
    have P6 := Lib.hid r6
    clear Q5 R5 HB5 hb6 ho6 r6
    go_wp2_with fail
    refine (eqStringS_any ao6 ao1 cap6 cap1 l l _ (by omega) (by omega) P6.out R6.out).mono ?_
    rintro e w7 ⟨rfl, hb7⟩
    have Q7 := Lib.hid (Q6.out.below hb7 (Nat.le_refl _))
    have HB7 := Lib.hid (HB6.out.trans (hb7.mono HB6.out.size))
    clear Q6 R6 HB6 hb7 P6
    go_wp2_with fail
    refine (heldStringS_any ao2 cap2 l.length 1 _ hl (by omega) (by omega) Q7.out).mono ?_
    rintro e w8 ⟨rfl, hb8⟩
    have HB8 := Lib.hid (HB7.out.trans (hb8.mono HB7.out.size))
    clear Q7 HB7 hb8
    go_wp2_with fail
    go_ret
    exact ⟨rfl, HB8.out⟩
  · clear hT hL
    go_enter Tryd.func5, Tryd.ntmps5
    go_wp2_with fail
    go_ret
    exact ⟨rfl, Below.refl _ _⟩

theorem own : ownKnob Tryd.prog.godebug = none := by kernel_rfl
theorem laidOut : laidOutB Tryd.prog = true := by kernel_rfl
theorem fine : fineVars Tryd.prog Rows.fnExactPoolOfSpec.vars = true := by kernel_rfl

theorem contract (H : Type) (enc : TypeId × Value → H) (W : World) (base : Nat) (args : Array Value) (ds gs : List (DataW H)) (before : List MemPlace)
    (hval0 : ∀ (j : Nat) t v, Tryd.f5.params[j]? = some t → args[j]? = some v → Value.okWide Tryd.prog W .any base t v)
    (hW : DataW.Whole enc Tryd.prog Tryd.f5.params.toList Rows.fnExactPoolOfSpec.vars false W args.toList ds gs before) (hL : laidMetH Tryd.prog Rows.fnExactPoolOfRow.laid W) :
    Calls Tryd.prog 5 args W fun e W' => ∃ v, e = .returned v ∧ Rows.fnExactPoolOfSpec.post enc Tryd.prog Tryd.f5 false true false false W args v W' := by
  have hval : ∀ (j : Nat) t v, Tryd.f5.params[j]? = some t → args[j]? = some v → Value.okWide Tryd.prog W .any base t v := hval0
  have hW' := hW
  obtain ⟨p, q, hA0, hV, rfl, hfz, hnd⟩ := hW
  have hA : DataW.TrodAll enc Tryd.prog W 0 (fun _ => true) true Tryd.f5.params.toList args.toList ds p := hA0
  rw [Tryd.params5] at hA hval
  obtain ⟨v0, vs0, d0, ds0, p0, q0, hargs, rfl, rfl, h0, r0⟩ := trodAll_cons hA
  obtain ⟨rfl, rfl, rfl⟩ := trodAll_nil r0
  obtain rfl : args = #[v0] := by cases args; simp_all
  have hVlt : ∀ x ∈ q, x.block < W.heap.size := hV.lt
  have hV1 := hV
  obtain ⟨g0, gr0, gq0, rfl, hV2⟩ := trodVars_cons hV1
  obtain ⟨g1, gr1, gq1, rfl, hV3⟩ := trodVars_cons hV2
  obtain ⟨rfl, -⟩ := trodVars_none hV3
  have k0 := h0
  have lt0 : ∀ x ∈ p0, x.block < W.heap.size := by obtain ⟨m, hm⟩ := k0; exact DataW.trod_lt m _ _ _ hm
  obtain ⟨a0, rfl, rfl, rfl, w0⟩ := open_string Tryd.underlying9 (hval 0 9 v0 rfl rfl) h0
  clear hA0 hval0
  refine (walk a0 W w0 hL).mono fun e W' ⟨he, bel⟩ => ?_
  subst he
  exact ⟨_, rfl, _, _, _, [], _, q, hW', trodAll_mk1 (shut_bool Tryd.underlying4 _), (trodAll_cons_mk (Below.trod laidOut (by kernel_rfl) (of_decide_eq_true (by kernel_rfl)) k0 bel lt0) trodAll_mk0), trodVars_stays laidOut bel fine hV hVlt, bel.frame _, fun h => by cases h⟩

noncomputable def laidWorld (os : Os) : World :=
  { World.holding Tryd.prog os ⟨#[], #[], []⟩ with heap := (((World.holding Tryd.prog os ⟨#[], #[], []⟩).heap.modify 1 fun
      | .cells _ t frozen => .cells #[.int .u32 1116352408, .int .u32 1899447441, .int .u32 3049323471, .int .u32 3921009573, .int .u32 961987163, .int .u32 1508970993, .int .u32 2453635748, .int .u32 2870763221, .int .u32 3624381080, .int .u32 310598401, .int .u32 607225278, .int .u32 1426881987, .int .u32 1925078388, .int .u32 2162078206, .int .u32 2614888103, .int .u32 3248222580, .int .u32 3835390401, .int .u32 4022224774, .int .u32 264347078, .int .u32 604807628, .int .u32 770255983, .int .u32 1249150122, .int .u32 1555081692, .int .u32 1996064986, .int .u32 2554220882, .int .u32 2821834349, .int .u32 2952996808, .int .u32 3210313671, .int .u32 3336571891, .int .u32 3584528711, .int .u32 113926993, .int .u32 338241895, .int .u32 666307205, .int .u32 773529912, .int .u32 1294757372, .int .u32 1396182291, .int .u32 1695183700, .int .u32 1986661051, .int .u32 2177026350, .int .u32 2456956037, .int .u32 2730485921, .int .u32 2820302411, .int .u32 3259730800, .int .u32 3345764771, .int .u32 3516065817, .int .u32 3600352804, .int .u32 4094571909, .int .u32 275423344, .int .u32 430227734, .int .u32 506948616, .int .u32 659060556, .int .u32 883997877, .int .u32 958139571, .int .u32 1322822218, .int .u32 1537002063, .int .u32 1747873779, .int .u32 1955562222, .int .u32 2024104815, .int .u32 2227730452, .int .u32 2361852424, .int .u32 2428436474, .int .u32 2756734187, .int .u32 3204031479, .int .u32 3329325298] t frozen
      | o => o).modify 0 fun
      | .cells _ t frozen => .cells #[.int .u32 1779033703, .int .u32 3144134277, .int .u32 1013904242, .int .u32 2773480762, .int .u32 1359893119, .int .u32 2600822924, .int .u32 528734635, .int .u32 1541459225] t frozen
      | o => o) }
theorem laid_met (os : Os) : laidMet Tryd.prog Rows.fnExactPoolOfRow.laid ((laidWorld os).forCall (fun _ _ => 0) ⟨#[], #[.string ByteArray.empty], []⟩).memory :=
  laidMet_of_run' 8 (by kernel_rfl) (by kernel_rfl)
set_option maxRecDepth 100000 in
theorem reads (os : Os) {H : Type} (enc : TypeId × Value → H) : ∃ places, DataW.whole enc Tryd.prog ((laidWorld os).forCall (fun _ _ => 0) ⟨#[], #[.string ByteArray.empty], []⟩).memory Tryd.f5.params.toList Rows.fnExactPoolOfSpec.vars false (#[.string ByteArray.empty] : Array Value).toList 8 = some ([.lit (.string [])], [Rows.laid_loop_example_g00284_impl_startWords, Rows.laid_loop_example_g00284_impl_roundWords], places) :=
  ⟨MemPlace.row ⟨0, 0, none⟩ 8 ++ MemPlace.row ⟨1, 0, none⟩ 64, by kernel_rfl⟩

set_option maxRecDepth 100000 in
theorem lifted (os : Os) (started : os.Started) (H : Type) (enc : TypeId × Value → H) (F : Stop.Interp) :
    ReturnsInHanded {} Tryd.checked os 5 .any ((OpenSpec.ofChange Rows.fnExactPoolOfSpec).preRow enc Tryd.prog Tryd.f5 Rows.fnExactPoolOfRow.domain false Rows.fnExactPoolOfRow.laid) (((OpenSpec.ofChange Rows.fnExactPoolOfSpec).at F).post enc Tryd.prog Tryd.f5 false true false false) := by
  obtain ⟨places, hx⟩ := reads os enc
  refine returnsInHanded_of_row (C := Tryd.checked) (s := OpenSpec.ofChange Rows.fnExactPoolOfSpec) own started (by kernel_rfl) Tryd.func5
    (witness_row_at (enc := enc) (C := Tryd.checked) false (laidWorld os) #[.string ByteArray.empty] rfl (by kernel_rfl) (by kernel_rfl) (by kernel_rfl)
      (OpenSpec.preRow_of_cond 8 hx (by kernel_rfl) (fun k hk => by cases hk) (by kernel_rfl) (laid_met os))) ?_
  intro W base args ds gs before hval hW _ _ _ hL _ _
  exact contract H enc W base args ds gs before hval hW hL

theorem said : Rows.FnExactPoolOfSaid :=
  OpenClaim.holds_of_cond 5 Tryd.f5 rfl rfl rfl rfl rfl rfl rfl ⟨rfl, rfl, rfl, rfl, rfl⟩ rfl rfl rfl rfl rfl (by kernel_rfl) Tryd.func5 (by kernel_rfl)
    (of_decide_eq_true (by kernel_rfl)) (by unfold Func.isWrapper; first | (rw [if_pos (by decide +kernel)]; kernel_rfl) | (rw [if_neg (by decide +kernel)]; exact ⟨rfl, rfl⟩))
    (fun os started H enc _ F => by rw [OpenClaim.pre_eq_preRow]; exact lifted os started H enc F)

theorem plain (f : FuncId) (fn : Func) (hf : Tryd.pinned.checked.prog.funcNamed "loop.example/g00284/laws.FnExactPoolOf" = some f) (hfn : Tryd.pinned.checked.prog.funcs[f]? = some fn) :
    false = Tryd.pinned.checked.prog.looks [] ∧ ∀ (j : Nat) t, fn.params[j]? = some t → Tryd.pinned.checked.prog.wantsStandIn t = false := by
  obtain rfl : f = 5 := Option.some.inj ((show Tryd.prog.funcNamed "loop.example/g00284/laws.FnExactPoolOf" = some 5 by kernel_rfl).symm.trans hf) |>.symm
  obtain rfl : fn = Tryd.f5 := (Option.some.inj (Tryd.func5.symm.trans hfn)).symm
  refine ⟨by kernel_rfl, fun j t ht => ?_⟩
  rw [Tryd.params5] at ht
  obtain rfl : t = 9 := by simpa using Array.mem_of_getElem? ht
  all_goals first | exact (show Tryd.prog.wantsStandIn 9 = false by kernel_rfl)

/-- The statement: the card. -/
theorem proved : Rows.FnExactPoolOfCardSaid :=
  Claim7.holds_tied_plain_at .later [] _ _ _ _ said (fun _ h => by cases h) (by kernel_rfl) (fun _ h => by cases h) fnExactPoolOf_row_tie rfl ⟨rfl, rfl⟩ (by kernel_rfl) rfl plain (by kernel_rfl)
#print axioms proved

end Go.Proofs.YtcehbmlibfalaaaDoor.fnExactPoolOf
