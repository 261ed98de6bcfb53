/-
  For every state and every block of at most 2^20 elements (longer ones are passed by) the program's ShaBlock and the reference's return the same, the state stays, and what is returned shares memory with nothing else: 'FnExactShaBlock' returns true. No conditions.
-/
import Derived.Test.YtbjbengbkdoinaaDoorFrameT
import Derived.Test.YtbjbengbkdoinaaDoorInts2
import Derived.Test.YtbjbengbkdoinaaDoorShaB1
namespace Go.Proofs.YtbjbengbkdoinaaDoor.fnExactShaBlock
open Go.ChangeShapes Go.WideShapes Go.ChangeAt Go.RowKit
open Go.ChangeMaps (open_string shut_string)
set_option linter.unusedVariables false

set_option maxHeartbeats 4000000 in
theorem walk (a0 : Option Addr) (len0 cap0 : Nat) (z0 : List Int) (a1 : ByteArray) (w : World) (w0 : IsRow .i64 w a0 len0 cap0 z0) (w1 : a1.size ≤ maxLen) (hL : laidMetH Tryd.prog Rows.fnExactShaBlockRow.laid w) :
    Calls Tryd.prog 3 #[.slice a0 len0 cap0, .string a1] w fun e w' => e = .returned (.bool true) ∧ Below w.heap.size w w' := by
  have HT := Lib.hid (roundMet hL)
  clear hL
  obtain ⟨l, rfl, hmax, hrd⟩ := rdI_of_row w0
  unfold maxLen at hmax w1
  clear w0
  by_cases hs : l.length ≤ 1048576 ∧ a1.size ≤ 1048576
  · obtain ⟨hs0, hs1⟩ := hs
    have R := Lib.hid hrd
    have hSl := shaB_length l a1.data.toList
    have CS := Lib.hid (fun ao cap wx h => sShaBlock_any ao cap l a1 wx (by omega) h)
    have CI := Lib.hid (fun ao cap wx h hT => iShaBlock_any ao cap l a1 wx (by omega) h hT)
    generalize shaB l a1.data.toList = S at *
    have hS : S.length ≤ 1048576 := by omega
    clear hSl hrd hmax
    go_enter Tryd.func3, Tryd.ntmps3
    go_wp2_with fail
    refine (toIntS_any a0 cap0 l _ hs0 R.out).mono ?_
    rintro e w1 ⟨⟨v1, rfl, o1⟩, hb1⟩
    obtain ⟨ao1, c1, rfl, r1⟩ := o1.rd
    have HB1 := Lib.hid hb1
    have R1 := Lib.hid r1
    clear o1 r1 hb1
    go_wp2_with fail
    refine (CS.out ao1 c1 _ R1.out).mono ?_
    rintro e w2 ⟨⟨v2, rfl, o2⟩, hb2⟩
    obtain ⟨ao2, c2, rfl, r2⟩ := o2.rd
    have HB2 := Lib.hid (HB1.out.trans (hb2.mono HB1.out.size))
    have R2 := Lib.hid r2
    clear o2 r2 hb2 R1 HB1
    go_wp2_with fail
    refine (toIntS_any a0 cap0 l _ hs0 (R.out.below HB2.out (Nat.le_refl _))).mono ?_
    rintro e w3 ⟨⟨v3, rfl, o3⟩, hb3⟩
    have O3 := Lib.hid o3
    obtain ⟨ao3, c3, rfl, r3⟩ := o3.rd
    have HB3 := Lib.hid (HB2.out.trans (hb3.mono HB2.out.size))
    have Q2 := Lib.hid (R2.out.below hb3 (Nat.le_refl _))
    have R3 := Lib.hid r3
    have G3 := Lib.hid hb3.size
    clear o3 r3 hb3
    go_wp2_with fail
    refine (CI.out ao3 c3 _ R3.out (TabAt.below HT.out HB3.out (Nat.le_refl _))).mono ?_
    rintro e w4 ⟨⟨v4, rfl, o4⟩, hb4⟩
    have O4 := Lib.hid o4
    obtain ⟨ao4, c4, rfl, r4⟩ := o4.rd
    have HB4 := Lib.hid (HB3.out.trans (hb4.mono HB3.out.size))
    have Q2 := Lib.hid (Q2.out.below hb4 (Nat.le_refl _))
    have R3 := Lib.hid (R3.out.below hb4 (Nat.le_refl _))
    have P3 := Lib.hid (OwnI.below O3.out hb4 (Nat.le_refl _))
    have R4 := Lib.hid r4
    clear o4 r4 hb4
    go_wp2_with fail
    refine (eqIntS_any ao4 ao2 c4 c2 S S _ (by omega) (by omega) R4.out Q2.out).mono ?_
    rintro e w5 ⟨rfl, hb5⟩
    have HB5 := Lib.hid (HB4.out.trans (hb5.mono HB4.out.size))
    have Q2 := Lib.hid (Q2.out.below hb5 (Nat.le_refl _))
    have R3 := Lib.hid (R3.out.below hb5 (Nat.le_refl _))
    have P3 := Lib.hid (OwnI.below P3.out hb5 (Nat.le_refl _))
    have O4 := Lib.hid (OwnI.below O4.out hb5 (Nat.le_refl _))
    clear hb5
    go_wp2_with fail
    refine (toIntS_any a0 cap0 l _ hs0 (R.out.below HB5.out (Nat.le_refl _))).mono ?_
    rintro e w6 ⟨⟨v6, rfl, o6⟩, hb6⟩
    obtain ⟨ao6, c6, rfl, r6⟩ := o6.rd
    have HB6 := Lib.hid (HB5.out.trans (hb6.mono HB5.out.size))
    have Q2 := Lib.hid (Q2.out.below hb6 (Nat.le_refl _))
    have R3 := Lib.hid (R3.out.below hb6 (Nat.le_refl _))
    have P3 := Lib.hid (OwnI.below P3.out hb6 (Nat.le_refl _))
    have O4 := Lib.hid (OwnI.below O4.out hb6 (Nat.le_refl _))
    have R6 := Lib.hid r6
    clear o6 r6 hb6
    go_wp2_with fail
    refine (eqIntS_any ao3 ao6 c3 c6 l l _ (by omega) (by omega) R3.out R6.out).mono ?_
    rintro e w7 ⟨rfl, hb7⟩
    have HB7 := Lib.hid (HB6.out.trans (hb7.mono HB6.out.size))
    have Q2 := Lib.hid (Q2.out.below hb7 (Nat.le_refl _))
    have P3 := Lib.hid (OwnI.below P3.out hb7 (Nat.le_refl _))
    have O4 := Lib.hid (OwnI.below O4.out hb7 (Nat.le_refl _))
    clear hb7 R6 R3
    go_wp2_with fail
    refine (markIntS_any _ l _ 1 _ (by omega) (by omega) (by omega) P3.out).mono ?_
    rintro e w8 ⟨rfl, -, hg8⟩
    have HB8 := Lib.hid (HB7.out.grown hg8 HB7.out.size (fun k hk => Nat.le_trans HB2.out.size (P3.out.block k hk).1))
    have Q2 := Lib.hid (Q2.out.kept R2.out hg8 (fun k hk => (P3.out.block k hk).1))
    have O4 := Lib.hid (OwnI.kept O4.out hg8 (apart_of (fun k hk => (O3.out.block k hk).2) (fun k hk => (O4.out.block k hk).1)))
    clear hg8 P3
    obtain ⟨ao4', c4', he4, r4⟩ := O4.out.rd
    cases he4
    have R4 := Lib.hid r4
    clear r4
    have hk0 : ¬ ((1 : Int) + l.length < 0) := by omega
    go_wp2_with fail
    refine (eqIntS_any ao4 ao2 c4 c2 S S _ (by omega) (by omega) R4.out Q2.out).mono ?_
    rintro e w9 ⟨rfl, hb9⟩
    have HB9 := Lib.hid (HB8.out.trans (hb9.mono HB8.out.size))
    have Q2 := Lib.hid (Q2.out.below hb9 (Nat.le_refl _))
    have O4 := Lib.hid (OwnI.below O4.out hb9 (Nat.le_refl _))
    clear hb9
    go_wp2_with fail
    refine (markIntS_any _ S _ 1 _ (by omega) (by omega) (by omega) O4.out).mono ?_
    rintro e w10 ⟨rfl, o10, hg10⟩
    have HB10 := Lib.hid (HB9.out.grown hg10 HB9.out.size (fun k hk => Nat.le_trans HB3.out.size (O4.out.block k hk).1))
    have Q2 := Lib.hid (Q2.out.kept R2.out hg10 (fun k hk => Nat.le_trans G3.out (O4.out.block k hk).1))
    obtain ⟨ao4', c4', he4, r4⟩ := o10.rd
    rw [nums_length] at he4
    cases he4
    have R4 := Lib.hid r4
    clear o10 r4 hg10 O4
    go_wp2_with fail
    refine (heldIntS_any ao4 c4 S.length 1 _ (by omega) (by omega) (by omega) R4.out).mono ?_
    rintro e w11 ⟨rfl, hb11⟩
    have HB11 := Lib.hid (HB10.out.trans (hb11.mono HB10.out.size))
    have Q2 := Lib.hid (Q2.out.below hb11 (Nat.le_refl _))
    have R4 := Lib.hid (R4.out.below hb11 (Nat.le_refl _))
    clear hb11
    go_wp2_with fail
    refine (toIntS_any a0 cap0 l _ hs0 (R.out.below HB11.out (Nat.le_refl _))).mono ?_
    rintro e w12 ⟨⟨v12, rfl, o12⟩, hb12⟩
    obtain ⟨ao12, c12, rfl, r12⟩ := o12.rd
    have HB12 := Lib.hid (HB11.out.trans (hb12.mono HB11.out.size))
    have Q2 := Lib.hid (Q2.out.below hb12 (Nat.le_refl _))
    have R4 := Lib.hid (R4.out.below hb12 (Nat.le_refl _))
    have R12 := Lib.hid r12
    clear o12 r12 hb12
    go_wp2_with fail
    refine (CI.out ao12 c12 _ R12.out (TabAt.below HT.out HB12.out (Nat.le_refl _))).mono ?_
    rintro e w13 ⟨⟨v13, rfl, o13⟩, hb13⟩
    obtain ⟨ao13, c13, rfl, r13⟩ := o13.rd
    have HB13 := Lib.hid (HB12.out.trans (hb13.mono HB12.out.size))
    have Q2 := Lib.hid (Q2.out.below hb13 (Nat.le_refl _))
    have R4 := Lib.hid (R4.out.below hb13 (Nat.le_refl _))
    have R13 := Lib.hid r13
    clear o13 r13 hb13
    go_wp2_with fail
    refine (eqIntS_any ao13 ao2 c13 c2 S S _ (by omega) (by omega) R13.out Q2.out).mono ?_
    rintro e w14 ⟨rfl, hb14⟩
    have HB14 := Lib.hid (HB13.out.trans (hb14.mono HB13.out.size))
    have R4 := Lib.hid (R4.out.below hb14 (Nat.le_refl _))
    clear hb14 Q2
    go_wp2_with fail
    refine (heldIntS_any ao4 c4 S.length 1 _ (by omega) (by omega) (by omega) R4.out).mono ?_
    rintro e w15 ⟨rfl, hb15⟩
    have HB15 := Lib.hid (HB14.out.trans (hb15.mono HB14.out.size))
    clear hb15
    go_wp2_with fail
    go_ret
    exact ⟨rfl, HB15.out⟩
  · clear hrd
    by_cases hs0 : l.length ≤ 1048576
    · have hs1 : ¬ a1.size ≤ 1048576 := fun h => hs ⟨hs0, h⟩
      clear hs
      go_enter Tryd.func3, Tryd.ntmps3
      go_wp2_with fail
      go_ret
      exact ⟨rfl, Below.refl _ _⟩
    · clear hs
      go_enter Tryd.func3, Tryd.ntmps3
      go_wp2_with fail
      go_ret
      exact ⟨rfl, Below.refl _ _⟩

theorem own : ownKnob Tryd.prog.godebug = none := by kernel_rfl
theorem laidOut : laidOutB Tryd.prog = true := by kernel_rfl
theorem fine : fineVars Tryd.prog Rows.fnExactShaBlockSpec.vars = true := by kernel_rfl

theorem contract (H : Type) (enc : TypeId × Value → H) (W : World) (base : Nat) (args : Array Value) (ds gs : List (DataW H)) (before : List MemPlace)
    (hval0 : ∀ (j : Nat) t v, Tryd.f3.params[j]? = some t → args[j]? = some v → Value.okWide Tryd.prog W .any base t v)
    (hW : DataW.Whole enc Tryd.prog Tryd.f3.params.toList Rows.fnExactShaBlockSpec.vars false W args.toList ds gs before) (hL : laidMetH Tryd.prog Rows.fnExactShaBlockRow.laid W) :
    Calls Tryd.prog 3 args W fun e W' => ∃ v, e = .returned v ∧ Rows.fnExactShaBlockSpec.post enc Tryd.prog Tryd.f3 false true false false W args v W' := by
  have hval : ∀ (j : Nat) t v, Tryd.f3.params[j]? = some t → args[j]? = some v → Value.okWide Tryd.prog W .any base t v := hval0
  have hW' := hW
  obtain ⟨p, q, hA0, hV, rfl, hfz, hnd⟩ := hW
  have hA : DataW.TrodAll enc Tryd.prog W 0 (fun _ => true) true Tryd.f3.params.toList args.toList ds p := hA0
  rw [Tryd.params3] at hA hval
  obtain ⟨v0, vs0, d0, ds0, p0, q0, hargs, rfl, rfl, h0, r0⟩ := trodAll_cons hA
  obtain ⟨v1, vs1, d1, ds1, p1, q1, rfl, rfl, rfl, h1, r1⟩ := trodAll_cons r0
  obtain ⟨rfl, rfl, rfl⟩ := trodAll_nil r1
  obtain rfl : args = #[v0, v1] := by cases args; simp_all
  have hVlt : ∀ x ∈ q, x.block < W.heap.size := hV.lt
  have hV1 := hV
  obtain ⟨g0, gr0, gq0, rfl, hV2⟩ := trodVars_cons hV1
  obtain ⟨rfl, -⟩ := trodVars_none hV2
  have k0 := h0
  have lt0 : ∀ x ∈ p0, x.block < W.heap.size := by obtain ⟨m, hm⟩ := k0; exact DataW.trod_lt m _ _ _ hm
  obtain ⟨a0, len0, cap0, rfl⟩ := okWide_slice Tryd.underlying22 (hval 0 22 v0 rfl rfl)
  obtain ⟨z0, w0⟩ := isRow_of Tryd.underlying22 Tryd.underlying3 (by kernel_rfl) h0
  have k1 := h1
  have lt1 : ∀ x ∈ p1, x.block < W.heap.size := by obtain ⟨m, hm⟩ := k1; exact DataW.trod_lt m _ _ _ hm
  obtain ⟨a1, rfl, rfl, rfl, w1⟩ := open_string Tryd.underlying9 (hval 1 9 v1 rfl rfl) h1
  clear hA0 hval0
  refine (walk a0 len0 cap0 z0 a1 W w0 w1 hL).mono fun e W' ⟨he, bel⟩ => ?_
  subst he
  exact ⟨_, rfl, _, _, _, [], _, q, hW', trodAll_mk1 (shut_bool Tryd.underlying4 _), (trodAll_cons_mk (Below.trod laidOut (by kernel_rfl) (of_decide_eq_true (by kernel_rfl)) k0 bel lt0) (trodAll_cons_mk (Below.trod laidOut (by kernel_rfl) (of_decide_eq_true (by kernel_rfl)) k1 bel lt1) trodAll_mk0)), trodVars_stays laidOut bel fine hV hVlt, bel.frame _, fun h => by cases h⟩

noncomputable def laidWorld (os : Os) : World :=
  { World.holding Tryd.prog os ⟨#[], #[], []⟩ with heap := ((World.holding Tryd.prog os ⟨#[], #[], []⟩).heap.modify 1 fun
      | .cells _ t frozen => .cells #[.int .u32 1116352408, .int .u32 1899447441, .int .u32 3049323471, .int .u32 3921009573, .int .u32 961987163, .int .u32 1508970993, .int .u32 2453635748, .int .u32 2870763221, .int .u32 3624381080, .int .u32 310598401, .int .u32 607225278, .int .u32 1426881987, .int .u32 1925078388, .int .u32 2162078206, .int .u32 2614888103, .int .u32 3248222580, .int .u32 3835390401, .int .u32 4022224774, .int .u32 264347078, .int .u32 604807628, .int .u32 770255983, .int .u32 1249150122, .int .u32 1555081692, .int .u32 1996064986, .int .u32 2554220882, .int .u32 2821834349, .int .u32 2952996808, .int .u32 3210313671, .int .u32 3336571891, .int .u32 3584528711, .int .u32 113926993, .int .u32 338241895, .int .u32 666307205, .int .u32 773529912, .int .u32 1294757372, .int .u32 1396182291, .int .u32 1695183700, .int .u32 1986661051, .int .u32 2177026350, .int .u32 2456956037, .int .u32 2730485921, .int .u32 2820302411, .int .u32 3259730800, .int .u32 3345764771, .int .u32 3516065817, .int .u32 3600352804, .int .u32 4094571909, .int .u32 275423344, .int .u32 430227734, .int .u32 506948616, .int .u32 659060556, .int .u32 883997877, .int .u32 958139571, .int .u32 1322822218, .int .u32 1537002063, .int .u32 1747873779, .int .u32 1955562222, .int .u32 2024104815, .int .u32 2227730452, .int .u32 2361852424, .int .u32 2428436474, .int .u32 2756734187, .int .u32 3204031479, .int .u32 3329325298] t frozen
      | o => o) }
theorem laid_met (os : Os) : laidMet Tryd.prog Rows.fnExactShaBlockRow.laid ((laidWorld os).forCall (fun _ _ => 0) ⟨#[], #[.slice none 0 0, .string ByteArray.empty], []⟩).memory :=
  laidMet_of_run' 8 (by kernel_rfl) (by kernel_rfl)
set_option maxRecDepth 100000 in
theorem reads (os : Os) {H : Type} (enc : TypeId × Value → H) : ∃ places, DataW.whole enc Tryd.prog ((laidWorld os).forCall (fun _ _ => 0) ⟨#[], #[.slice none 0 0, .string ByteArray.empty], []⟩).memory Tryd.f3.params.toList Rows.fnExactShaBlockSpec.vars false (#[.slice none 0 0, .string ByteArray.empty] : Array Value).toList 8 = some ([.nil, .lit (.string [])], [Rows.laid_loop_example_g00284_impl_roundWords], places) :=
  ⟨MemPlace.row ⟨1, 0, none⟩ 64, by kernel_rfl⟩

set_option maxRecDepth 100000 in
theorem lifted (os : Os) (started : os.Started) (H : Type) (enc : TypeId × Value → H) (F : Stop.Interp) :
    ReturnsInHanded {} Tryd.checked os 3 .any ((OpenSpec.ofChange Rows.fnExactShaBlockSpec).preRow enc Tryd.prog Tryd.f3 Rows.fnExactShaBlockRow.domain false Rows.fnExactShaBlockRow.laid) (((OpenSpec.ofChange Rows.fnExactShaBlockSpec).at F).post enc Tryd.prog Tryd.f3 false true false false) := by
  obtain ⟨places, hx⟩ := reads os enc
  refine returnsInHanded_of_row (C := Tryd.checked) (s := OpenSpec.ofChange Rows.fnExactShaBlockSpec) own started (by kernel_rfl) Tryd.func3
    (witness_row_at (enc := enc) (C := Tryd.checked) false (laidWorld os) #[.slice none 0 0, .string ByteArray.empty] rfl (by kernel_rfl) (by kernel_rfl) (by kernel_rfl)
      (OpenSpec.preRow_of_cond 8 hx (by kernel_rfl) (fun k hk => by cases hk) (by kernel_rfl) (laid_met os))) ?_
  intro W base args ds gs before hval hW _ _ _ hL _ _
  exact contract H enc W base args ds gs before hval hW hL

theorem said : Rows.FnExactShaBlockSaid :=
  OpenClaim.holds_of_cond 3 Tryd.f3 rfl rfl rfl rfl rfl rfl rfl ⟨rfl, rfl, rfl, rfl, rfl⟩ rfl rfl rfl rfl rfl (by kernel_rfl) Tryd.func3 (by kernel_rfl)
    (of_decide_eq_true (by kernel_rfl)) (by unfold Func.isWrapper; first | (rw [if_pos (by decide +kernel)]; kernel_rfl) | (rw [if_neg (by decide +kernel)]; exact ⟨rfl, rfl⟩))
    (fun os started H enc _ F => by rw [OpenClaim.pre_eq_preRow]; exact lifted os started H enc F)

theorem plain (f : FuncId) (fn : Func) (hf : Tryd.pinned.checked.prog.funcNamed "loop.example/g00284/laws.FnExactShaBlock" = some f) (hfn : Tryd.pinned.checked.prog.funcs[f]? = some fn) :
    false = Tryd.pinned.checked.prog.looks [] ∧ ∀ (j : Nat) t, fn.params[j]? = some t → Tryd.pinned.checked.prog.wantsStandIn t = false := by
  obtain rfl : f = 3 := Option.some.inj ((show Tryd.prog.funcNamed "loop.example/g00284/laws.FnExactShaBlock" = some 3 by kernel_rfl).symm.trans hf) |>.symm
  obtain rfl : fn = Tryd.f3 := (Option.some.inj (Tryd.func3.symm.trans hfn)).symm
  refine ⟨by kernel_rfl, fun j t ht => ?_⟩
  rw [Tryd.params3] at ht
  obtain rfl | rfl : t = 22 ∨ t = 9 := by simpa using Array.mem_of_getElem? ht
  all_goals first | exact (show Tryd.prog.wantsStandIn 22 = false by kernel_rfl) | exact (show Tryd.prog.wantsStandIn 9 = false by kernel_rfl)

/-- The statement: the card. -/
theorem proved : Rows.FnExactShaBlockCardSaid :=
  Claim7.holds_tied_plain_at .later [] _ _ _ _ said (fun _ h => by cases h) (by kernel_rfl) (fun _ h => by cases h) fnExactShaBlock_row_tie rfl ⟨rfl, rfl⟩ (by kernel_rfl) rfl plain (by kernel_rfl)
#print axioms proved

end Go.Proofs.YtbjbengbkdoinaaDoor.fnExactShaBlock
