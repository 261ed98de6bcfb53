/-
  For all strings (of at most 2^20 bytes in all; more are passed by) the program's PoolRoot and the reference's return the same, and the strings stay: 'FnExactPoolRoot' returns true. No conditions.
-/
import Derived.Test.YtcehbmlibfalaaaDoorFrameT
import Derived.Test.YtcehbmlibfalaaaDoorFrameS
import Derived.Test.YtcehbmlibfalaaaDoorPool4
namespace Go.Proofs.YtcehbmlibfalaaaDoor.fnExactPoolRoot
open Go.ChangeShapes Go.WideShapes Go.ChangeAt Go.RowKit
open Go.ChangeMaps (open_string shut_string)
set_option linter.unusedVariables false

set_option maxHeartbeats 2000000 in
theorem walk (a1 : Option Addr) (len1 cap1 : Nat) (z1 : List ByteArray) (w : World) (w1 : IsStrs w a1 len1 cap1 z1) (hL : laidMetH Tryd.prog Rows.fnExactPoolRootRow.laid w) :
    Calls Tryd.prog 4 #[.slice a1 len1 cap1] w fun e w' => e = .returned (.bool true) ∧ Below w.heap.size w w' := by
  have hT := tabsMet hL
  obtain ⟨rfl, hmax, heach, hrd⟩ := w1
  unfold maxLen at hmax heach
  have C1 := Lib.hid (szStringS_any a1 cap1 z1 1048576 w hmax heach (by omega) (by omega) hrd)
  have R := Lib.hid hrd
  have HT := Lib.hid hT
  clear hL hT
  by_cases ht : (totS z1 : Int) ≤ 1048576
  · have hl : z1.length ≤ 1048576 := by have := totS_eq z1; omega
    have hs : ∀ x ∈ z1, x.size ≤ 1048576 := fun x hx => by have := tot_mem hx; omega
    rw [szV_yes ht] at C1
    have hleft : ¬ (1048576 - (totS z1 : Int) < 0) := by omega
    have S0 := fun ao cap w h => sPoolRoot_any ao cap z1 w hl hs h
    have C0 := fun ao cap w h hx => iPoolRoot_any ao cap z1 w hl hs h hx
    generalize rootL z1 = d at *
    have S2 := Lib.hid S0
    have C2 := Lib.hid C0
    clear S0 C0 hrd heach hs hmax
    generalize (totS z1 : Int) = T at *
    go_enter Tryd.func4, Tryd.ntmps4
    go_wp2_with fail
    refine C1.out.mono ?_
    rintro e w' ⟨rfl, rfl⟩
    go_wp2_with fail
    refine (toStringS_any a1 cap1 z1 _ hl R.out).mono ?_
    rintro e w1 ⟨⟨v1, rfl, ho1⟩, hb1⟩
    obtain ⟨ao1, c1, rfl, r1⟩ := ho1.rd
    clear ho1
    go_wp2_with fail
    refine (S2.out ao1 c1 _ r1).mono ?_
    rintro e w2 ⟨rfl, hb2⟩
    have HB2 := Lib.hid (hb1.trans (hb2.mono hb1.size))
    have R2 := Lib.hid (R.out.below HB2.out (Nat.le_refl _))
    clear r1 hb1 hb2
    go_wp2_with fail
    refine (toStringS_any a1 cap1 z1 _ hl R2.out).mono ?_
    rintro e w3 ⟨⟨v3, rfl, ho3⟩, hb3⟩
    obtain ⟨ao3, c3, rfl, r3⟩ := ho3.rd
    have R3 := Lib.hid r3
    have HB3 := Lib.hid (HB2.out.trans (hb3.mono HB2.out.size))
    clear ho3 r3 hb3
    go_wp2_with fail
    refine (C2.out ao3 c3 w3 R3.out (HT.out.below HB3.out (Nat.le_refl _))).mono ?_
    rintro e w4 ⟨rfl, hb4⟩
    have R4 := Lib.hid (R3.out.below hb4 (Nat.le_refl _))
    have HB4 := Lib.hid (HB3.out.trans (hb4.mono HB3.out.size))
    have R5 := Lib.hid (R.out.below HB4.out (Nat.le_refl _))
    clear hb4 R3
    go_wp2_with fail
    refine (toStringS_any a1 cap1 z1 _ hl R5.out).mono ?_
    rintro e w5 ⟨⟨v5, rfl, ho5⟩, hb5⟩
    obtain ⟨ao5, c5, rfl, r5⟩ := ho5.rd
    have R6 := Lib.hid (R4.out.below hb5 (Nat.le_refl _))
    have Q5 := Lib.hid r5
    have HB5 := Lib.hid (HB4.out.trans (hb5.mono HB4.out.size))
    clear ho5 r5 hb5
    go_wp2_with fail
    refine (eqStringS_any ao3 ao5 c3 c5 z1 z1 _ (by omega) (by omega) R6.out Q5.out).mono ?_
    rintro e w6 ⟨rfl, hb6⟩
    have HB6 := Lib.hid (HB5.out.trans (hb6.mono HB5.out.size))
    clear hb6
    go_wp2_with fail
    go_ret
    exact ⟨rfl, HB6.out⟩
  · rw [szV_no ht] at C1
    clear hrd heach
    go_enter Tryd.func4, Tryd.ntmps4
    go_wp2_with fail
    refine C1.out.mono ?_
    rintro e w' ⟨rfl, rfl⟩
    go_wp2_with fail
    go_ret
    exact ⟨rfl, Below.refl _ _⟩

theorem own : ownKnob Tryd.prog.godebug = none := by kernel_rfl
theorem laidOut : laidOutB Tryd.prog = true := by kernel_rfl
theorem fine : fineVars Tryd.prog Rows.fnExactPoolRootSpec.vars = true := by kernel_rfl

theorem contract (H : Type) (enc : TypeId × Value → H) (W : World) (base : Nat) (args : Array Value) (ds gs : List (DataW H)) (before : List MemPlace)
    (hval0 : ∀ (j : Nat) t v, Tryd.f4.params[j]? = some t → args[j]? = some v → Value.okWide Tryd.prog W .any base t v)
    (hW : DataW.Whole enc Tryd.prog Tryd.f4.params.toList Rows.fnExactPoolRootSpec.vars false W args.toList ds gs before) (hL : laidMetH Tryd.prog Rows.fnExactPoolRootRow.laid W) :
    Calls Tryd.prog 4 args W fun e W' => ∃ v, e = .returned v ∧ Rows.fnExactPoolRootSpec.post enc Tryd.prog Tryd.f4 false true false false W args v W' := by
  have hval : ∀ (j : Nat) t v, Tryd.f4.params[j]? = some t → args[j]? = some v → Value.okWide Tryd.prog W .any base t v := hval0
  have hW' := hW
  obtain ⟨p, q, hA0, hV, rfl, hfz, hnd⟩ := hW
  have hA : DataW.TrodAll enc Tryd.prog W 0 (fun _ => true) true Tryd.f4.params.toList args.toList ds p := hA0
  rw [Tryd.params4] at hA hval
  obtain ⟨v0, vs0, d0, ds0, p0, q0, hargs, rfl, rfl, h0, r0⟩ := trodAll_cons hA
  obtain ⟨rfl, rfl, rfl⟩ := trodAll_nil r0
  obtain rfl : args = #[v0] := by cases args; simp_all
  have hVlt : ∀ x ∈ q, x.block < W.heap.size := hV.lt
  have hV1 := hV
  obtain ⟨g0, gr0, gq0, rfl, hV2⟩ := trodVars_cons hV1
  obtain ⟨g1, gr1, gq1, rfl, hV3⟩ := trodVars_cons hV2
  obtain ⟨rfl, -⟩ := trodVars_none hV3
  have k0 := h0
  have lt0 : ∀ x ∈ p0, x.block < W.heap.size := by obtain ⟨m, hm⟩ := k0; exact DataW.trod_lt m _ _ _ hm
  obtain ⟨a0, len0, cap0, rfl⟩ := okWide_slice Tryd.underlying24 (hval 0 24 v0 rfl rfl)
  obtain ⟨z0, w0⟩ := isStrs_of Tryd.underlying24 Tryd.underlying9 (by kernel_rfl) h0
  clear hA0 hval0
  refine (walk a0 len0 cap0 z0 W w0 hL).mono fun e W' ⟨he, bel⟩ => ?_
  subst he
  exact ⟨_, rfl, _, _, _, [], _, q, hW', trodAll_mk1 (shut_bool Tryd.underlying4 _), (trodAll_cons_mk (Below.trod laidOut (by kernel_rfl) (of_decide_eq_true (by kernel_rfl)) k0 bel lt0) trodAll_mk0), trodVars_stays laidOut bel fine hV hVlt, bel.frame _, fun h => by cases h⟩

noncomputable def laidWorld (os : Os) : World :=
  { World.holding Tryd.prog os ⟨#[], #[], []⟩ with heap := (((World.holding Tryd.prog os ⟨#[], #[], []⟩).heap.modify 1 fun
      | .cells _ t frozen => .cells #[.int .u32 1116352408, .int .u32 1899447441, .int .u32 3049323471, .int .u32 3921009573, .int .u32 961987163, .int .u32 1508970993, .int .u32 2453635748, .int .u32 2870763221, .int .u32 3624381080, .int .u32 310598401, .int .u32 607225278, .int .u32 1426881987, .int .u32 1925078388, .int .u32 2162078206, .int .u32 2614888103, .int .u32 3248222580, .int .u32 3835390401, .int .u32 4022224774, .int .u32 264347078, .int .u32 604807628, .int .u32 770255983, .int .u32 1249150122, .int .u32 1555081692, .int .u32 1996064986, .int .u32 2554220882, .int .u32 2821834349, .int .u32 2952996808, .int .u32 3210313671, .int .u32 3336571891, .int .u32 3584528711, .int .u32 113926993, .int .u32 338241895, .int .u32 666307205, .int .u32 773529912, .int .u32 1294757372, .int .u32 1396182291, .int .u32 1695183700, .int .u32 1986661051, .int .u32 2177026350, .int .u32 2456956037, .int .u32 2730485921, .int .u32 2820302411, .int .u32 3259730800, .int .u32 3345764771, .int .u32 3516065817, .int .u32 3600352804, .int .u32 4094571909, .int .u32 275423344, .int .u32 430227734, .int .u32 506948616, .int .u32 659060556, .int .u32 883997877, .int .u32 958139571, .int .u32 1322822218, .int .u32 1537002063, .int .u32 1747873779, .int .u32 1955562222, .int .u32 2024104815, .int .u32 2227730452, .int .u32 2361852424, .int .u32 2428436474, .int .u32 2756734187, .int .u32 3204031479, .int .u32 3329325298] t frozen
      | o => o).modify 0 fun
      | .cells _ t frozen => .cells #[.int .u32 1779033703, .int .u32 3144134277, .int .u32 1013904242, .int .u32 2773480762, .int .u32 1359893119, .int .u32 2600822924, .int .u32 528734635, .int .u32 1541459225] t frozen
      | o => o) }
theorem laid_met (os : Os) : laidMet Tryd.prog Rows.fnExactPoolRootRow.laid ((laidWorld os).forCall (fun _ _ => 0) ⟨#[], #[.slice none 0 0], []⟩).memory :=
  laidMet_of_run' 8 (by kernel_rfl) (by kernel_rfl)
set_option maxRecDepth 100000 in
theorem reads (os : Os) {H : Type} (enc : TypeId × Value → H) : ∃ places, DataW.whole enc Tryd.prog ((laidWorld os).forCall (fun _ _ => 0) ⟨#[], #[.slice none 0 0], []⟩).memory Tryd.f4.params.toList Rows.fnExactPoolRootSpec.vars false (#[.slice none 0 0] : Array Value).toList 8 = some ([.nil], [Rows.laid_loop_example_g00284_impl_startWords, Rows.laid_loop_example_g00284_impl_roundWords], places) :=
  ⟨MemPlace.row ⟨0, 0, none⟩ 8 ++ MemPlace.row ⟨1, 0, none⟩ 64, by kernel_rfl⟩

set_option maxRecDepth 100000 in
theorem lifted (os : Os) (started : os.Started) (H : Type) (enc : TypeId × Value → H) (F : Stop.Interp) :
    ReturnsInHanded {} Tryd.checked os 4 .any ((OpenSpec.ofChange Rows.fnExactPoolRootSpec).preRow enc Tryd.prog Tryd.f4 Rows.fnExactPoolRootRow.domain false Rows.fnExactPoolRootRow.laid) (((OpenSpec.ofChange Rows.fnExactPoolRootSpec).at F).post enc Tryd.prog Tryd.f4 false true false false) := by
  obtain ⟨places, hx⟩ := reads os enc
  refine returnsInHanded_of_row (C := Tryd.checked) (s := OpenSpec.ofChange Rows.fnExactPoolRootSpec) own started (by kernel_rfl) Tryd.func4
    (witness_row_at (enc := enc) (C := Tryd.checked) false (laidWorld os) #[.slice none 0 0] rfl (by kernel_rfl) (by kernel_rfl) (by kernel_rfl)
      (OpenSpec.preRow_of_cond 8 hx (by kernel_rfl) (fun k hk => by cases hk) (by kernel_rfl) (laid_met os))) ?_
  intro W base args ds gs before hval hW _ _ _ hL _ _
  exact contract H enc W base args ds gs before hval hW hL

theorem said : Rows.FnExactPoolRootSaid :=
  OpenClaim.holds_of_cond 4 Tryd.f4 rfl rfl rfl rfl rfl rfl rfl ⟨rfl, rfl, rfl, rfl, rfl⟩ rfl rfl rfl rfl rfl (by kernel_rfl) Tryd.func4 (by kernel_rfl)
    (of_decide_eq_true (by kernel_rfl)) (by unfold Func.isWrapper; first | (rw [if_pos (by decide +kernel)]; kernel_rfl) | (rw [if_neg (by decide +kernel)]; exact ⟨rfl, rfl⟩))
    (fun os started H enc _ F => by rw [OpenClaim.pre_eq_preRow]; exact lifted os started H enc F)

theorem plain (f : FuncId) (fn : Func) (hf : Tryd.pinned.checked.prog.funcNamed "loop.example/g00284/laws.FnExactPoolRoot" = some f) (hfn : Tryd.pinned.checked.prog.funcs[f]? = some fn) :
    false = Tryd.pinned.checked.prog.looks [] ∧ ∀ (j : Nat) t, fn.params[j]? = some t → Tryd.pinned.checked.prog.wantsStandIn t = false := by
  obtain rfl : f = 4 := Option.some.inj ((show Tryd.prog.funcNamed "loop.example/g00284/laws.FnExactPoolRoot" = some 4 by kernel_rfl).symm.trans hf) |>.symm
  obtain rfl : fn = Tryd.f4 := (Option.some.inj (Tryd.func4.symm.trans hfn)).symm
  refine ⟨by kernel_rfl, fun j t ht => ?_⟩
  rw [Tryd.params4] at ht
  obtain rfl : t = 24 := by simpa using Array.mem_of_getElem? ht
  all_goals first | exact (show Tryd.prog.wantsStandIn 24 = false by kernel_rfl)

/-- The statement: the card. -/
theorem proved : Rows.FnExactPoolRootCardSaid :=
  Claim7.holds_tied_plain_at .later [] _ _ _ _ said (fun _ h => by cases h) (by kernel_rfl) (fun _ h => by cases h) fnExactPoolRoot_row_tie rfl ⟨rfl, rfl⟩ (by kernel_rfl) rfl plain (by kernel_rfl)
#print axioms proved

end Go.Proofs.YtcehbmlibfalaaaDoor.fnExactPoolRoot
