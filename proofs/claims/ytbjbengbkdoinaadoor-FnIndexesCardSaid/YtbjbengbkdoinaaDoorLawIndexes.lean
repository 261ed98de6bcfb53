/-
  For every draw of at most 2^20 bytes (a longer one is passed by) the bits of an index give it back, and indexes, bits, names and values are as the reference's: 'FnIndexes' returns true. No conditions.
-/
import Derived.Test.YtbjbengbkdoinaaDoorFrameT
import Derived.Test.YtbjbengbkdoinaaDoorFrameB
import Derived.Test.YtbjbengbkdoinaaDoorSha5
import Derived.Test.YtbjbengbkdoinaaDoorDraw3
namespace Go.Proofs.YtbjbengbkdoinaaDoor.fnIndexes
open Go.ChangeShapes Go.WideShapes Go.ChangeAt Go.RowKit
open Go.ChangeMaps (open_string shut_string)
set_option linter.unusedVariables false

theorem bit_nat (x k : Nat) (hx : x < 256) (hk : k < 8) : bitOf (x : Int) (k : Int) = ((x / 2 ^ (7 - k) % 2 : Nat) : Int) := by
  have h : ∀ x : Fin 256, ∀ k : Fin 8, bitOf (x.val : Int) (k.val : Int) = ((x.val / 2 ^ (7 - k.val) % 2 : Nat) : Int) := by decide +kernel
  exact h ⟨x, hx⟩ ⟨k, hk⟩
theorem bit_sum (x k : Nat) (hx : x < 256) (hk : k < 8) : 2 * (x / 2 ^ (8 - k)) + x / 2 ^ (7 - k) % 2 = x / 2 ^ (8 - (k + 1)) := by
  have h : ∀ x : Fin 256, ∀ k : Fin 8, 2 * (x.val / 2 ^ (8 - k.val)) + x.val / 2 ^ (7 - k.val) % 2 = x.val / 2 ^ (8 - (k.val + 1)) := by decide +kernel
  exact h ⟨x, hx⟩ ⟨k, hk⟩

set_option maxHeartbeats 4000000 in
set_option maxRecDepth 100000 in
theorem walk (a0 : Option Addr) (len0 cap0 : Nat) (z0 : List Int) (w : World) (w0 : IsRow .u8 w a0 len0 cap0 z0) (hL : laidMetH Tryd.prog Rows.fnIndexesRow.laid w) :
    Calls Tryd.prog 14 #[.slice a0 len0 cap0] w fun e w' => e = .returned (.bool true) ∧ Below w.heap.size w w' := by
  have HT := Lib.hid (tabsMet hL)
  obtain ⟨hmax, hB⟩ := bytes_of_row w0
  unfold maxLen at hmax
  clear hL w0
  by_cases hs : len0 ≤ 1048576
  · have C := Lib.hid (drawName_any a0 cap0 len0 w hs hB)
    have D1 := Lib.hid (fun wx (hb : Below w.heap.size w wx) => drawBitOf_any a0 cap0 len0 wx hs (hB.below hb (Nat.le_refl _)))
    have D2 := Lib.hid (fun wx (hb : Below w.heap.size w wx) => drawNameOk_any a0 cap0 len0 wx hs (hB.below hb (Nat.le_refl _)))
    have D3 := Lib.hid (fun wx (hb : Below w.heap.size w wx) => drawValueOk_any a0 cap0 len0 wx hs (hB.below hb (Nat.le_refl _)))
    clear hB hmax
    go_enter Tryd.func14, Tryd.ntmps14
    go_wp2_with (go_at_call 29; refine (big_no _ _ _ _ hs).mono ?_; rintro e w' ⟨rfl, rfl⟩)
    refine C.out.mono ?_
    rintro e w1 ⟨⟨s, hss, rfl⟩, hb1⟩
    have HB1 := Lib.hid hb1
    obtain ⟨hok, hsz⟩ := nameL_ok s hss
    have N1 := Lib.hid (fun wx => iNameOk_any s (by omega) wx)
    rw [hok] at N1
    have I1 := Lib.hid (fun wx hx => iIndexOf_any s (by omega) wx hx)
    have I2 := Lib.hid (fun wx => sIndexOf_any s (by omega) wx)
    have hx := byt_lt (sha s.data.toList) 0
    generalize byt (sha s.data.toList) 0 = x at *
    clear hss hb1 hok
    go_wp2_with fail
    refine (I1.out _ (HT.out.below HB1.out (Nat.le_refl _))).mono ?_
    rintro e w2 ⟨rfl, hb2⟩
    have HB2 := Lib.hid (HB1.out.trans (hb2.mono HB1.out.size))
    clear hb2
    go_wp2_with fail
    go_loop [5, 6] (fun n i => ∃ k : Nat, k ≤ 8 ∧ i = .int .i64 k ∧ n = .int .i64 ((x / 2 ^ (8 - k) : Nat) : Int)) (fun _ i => 8 - (intOf i).toNat)
    case atStart => exact ⟨0, Nat.zero_le _, rfl, by rw [Nat.div_eq_of_lt (by simpa using hx)]; rfl⟩
    case round =>
      obtain ⟨k, hk, rfl, rfl⟩ := hrel
      by_cases hlt : k < 8
      · have hbn := bit_nat x k hx hlt
        have hbs := bit_sum x k hx hlt
        have C1 := fun wx => iBitOf_any (x : Int) (k : Int) wx
        rw [hbn] at C1
        have hy : x / 2 ^ (8 - k) ≤ 255 := Nat.le_trans (Nat.div_le_self _ _) (by omega)
        have hz : x / 2 ^ (7 - k) % 2 ≤ 1 := by omega
        generalize x / 2 ^ (7 - k) % 2 = z at *
        generalize x / 2 ^ (8 - k) = y at *
        have HC1 := Lib.hid C1
        have Hbs := Lib.hid hbs
        clear hbn hbs C1
        go_wp2_with (go_at_call 46; refine (HC1.out _).mono ?_; rintro e w' ⟨rfl, rfl⟩)
        exact ⟨⟨k + 1, by omega, by go_num, by rw [← Hbs.out]; congr 1⟩, by simp [intOf]; omega⟩
      · obtain rfl : k = 8 := by omega
        have hx8 : x / 2 ^ (8 - 8) = x := by simp
        rw [hx8]
        clear hx8
        go_wp2_with fail
        refine (D1.out _ HB2.out).mono ?_
        rintro e w3 ⟨⟨a, b, rfl⟩, hb3⟩
        have HB3 := Lib.hid (HB2.out.trans (hb3.mono HB2.out.size))
        clear hb3
        go_wp2_with fail
        refine (D2.out _ HB3.out).mono ?_
        rintro e w4 ⟨⟨t, ht, rfl⟩, hb4⟩
        have HB4 := Lib.hid (HB3.out.trans (hb4.mono HB3.out.size))
        have hts := nokL_ok t ht
        clear hb4 ht
        go_wp2_with fail
        refine (D3.out _ HB4.out).mono ?_
        rintro e w5 ⟨⟨u, hu, rfl⟩, hb5⟩
        have HB5 := Lib.hid (HB4.out.trans (hb5.mono HB4.out.size))
        have hus := vokL_ok u hu
        clear hb5 hu
        have B1 := Lib.hid (fun wx => iBitOf_any a b wx)
        have B2 := Lib.hid (fun wx => sBitOf_any a b wx)
        generalize bitOf a b = v at *
        have N2 := Lib.hid (fun wx => iNameOk_any t (by omega) wx)
        have N3 := Lib.hid (fun wx => sNameOk_any t (by omega) wx)
        generalize okBy nByte t.data.toList = o1 at *
        have V2 := Lib.hid (fun wx => iValueOk_any u (by omega) wx)
        have V3 := Lib.hid (fun wx => sValueOk_any u (by omega) wx)
        generalize okBy vByte u.data.toList = o2 at *
        go_wp2_with fail
        refine (I2.out _).mono ?_
        rintro e w6 ⟨rfl, hb6⟩
        have HB6 := Lib.hid (HB5.out.trans (hb6.mono HB5.out.size))
        clear hb6
        go_wp2_with fail
        refine (B1.out _).mono ?_
        rintro e w' ⟨rfl, rfl⟩
        go_wp2_with fail
        refine (B2.out _).mono ?_
        rintro e w' ⟨rfl, rfl⟩
        go_wp2_with fail
        refine (N1.out _).mono ?_
        rintro e w' ⟨rfl, rfl⟩
        go_wp2_with fail
        refine (N2.out _).mono ?_
        rintro e w' ⟨rfl, rfl⟩
        go_wp2_with fail
        refine (N3.out _).mono ?_
        rintro e w' ⟨rfl, rfl⟩
        go_wp2_with fail
        refine (V2.out _).mono ?_
        rintro e w' ⟨rfl, rfl⟩
        go_wp2_with fail
        refine (V3.out _).mono ?_
        rintro e w' ⟨rfl, rfl⟩
        go_wp2_with fail
        go_ret
        exact ⟨rfl, HB6.out⟩
  · clear hB
    go_enter Tryd.func14, Tryd.ntmps14
    go_wp2_with (go_at_call 29; refine (big_yes _ _ _ _ (by omega) (by omega)).mono ?_; rintro e w' ⟨rfl, rfl⟩)
    go_ret
    exact ⟨rfl, Below.refl _ _⟩

theorem own : ownKnob Tryd.prog.godebug = none := by kernel_rfl
theorem laidOut : laidOutB Tryd.prog = true := by kernel_rfl
theorem fine : fineVars Tryd.prog Rows.fnIndexesSpec.vars = true := by kernel_rfl

theorem contract (H : Type) (enc : TypeId × Value → H) (W : World) (base : Nat) (args : Array Value) (ds gs : List (DataW H)) (before : List MemPlace)
    (hval0 : ∀ (j : Nat) t v, Tryd.f14.params[j]? = some t → args[j]? = some v → Value.okWide Tryd.prog W .any base t v)
    (hW : DataW.Whole enc Tryd.prog Tryd.f14.params.toList Rows.fnIndexesSpec.vars false W args.toList ds gs before) (hL : laidMetH Tryd.prog Rows.fnIndexesRow.laid W) :
    Calls Tryd.prog 14 args W fun e W' => ∃ v, e = .returned v ∧ Rows.fnIndexesSpec.post enc Tryd.prog Tryd.f14 false true false false W args v W' := by
  have hval : ∀ (j : Nat) t v, Tryd.f14.params[j]? = some t → args[j]? = some v → Value.okWide Tryd.prog W .any base t v := hval0
  have hW' := hW
  obtain ⟨p, q, hA0, hV, rfl, hfz, hnd⟩ := hW
  have hA : DataW.TrodAll enc Tryd.prog W 0 (fun _ => true) true Tryd.f14.params.toList args.toList ds p := hA0
  rw [Tryd.params14] at hA hval
  obtain ⟨v0, vs0, d0, ds0, p0, q0, hargs, rfl, rfl, h0, r0⟩ := trodAll_cons hA
  obtain ⟨rfl, rfl, rfl⟩ := trodAll_nil r0
  obtain rfl : args = #[v0] := by cases args; simp_all
  have hVlt : ∀ x ∈ q, x.block < W.heap.size := hV.lt
  have hV1 := hV
  obtain ⟨g0, gr0, gq0, rfl, hV2⟩ := trodVars_cons hV1
  obtain ⟨g1, gr1, gq1, rfl, hV3⟩ := trodVars_cons hV2
  obtain ⟨rfl, -⟩ := trodVars_none hV3
  have k0 := h0
  have lt0 : ∀ x ∈ p0, x.block < W.heap.size := by obtain ⟨m, hm⟩ := k0; exact DataW.trod_lt m _ _ _ hm
  obtain ⟨a0, len0, cap0, rfl⟩ := okWide_slice Tryd.underlying33 (hval 0 33 v0 rfl rfl)
  obtain ⟨z0, w0⟩ := isRow_of Tryd.underlying33 Tryd.underlying5 (by kernel_rfl) h0
  clear hA0 hval0
  refine (walk a0 len0 cap0 z0 W w0 hL).mono fun e W' ⟨he, bel⟩ => ?_
  subst he
  exact ⟨_, rfl, _, _, _, [], _, q, hW', trodAll_mk1 (shut_bool Tryd.underlying4 _), (trodAll_cons_mk (Below.trod laidOut (by kernel_rfl) (of_decide_eq_true (by kernel_rfl)) k0 bel lt0) trodAll_mk0), trodVars_stays laidOut bel fine hV hVlt, bel.frame _, fun h => by cases h⟩

noncomputable def laidWorld (os : Os) : World :=
  { World.holding Tryd.prog os ⟨#[], #[], []⟩ with heap := (((World.holding Tryd.prog os ⟨#[], #[], []⟩).heap.modify 1 fun
      | .cells _ t frozen => .cells #[.int .u32 1116352408, .int .u32 1899447441, .int .u32 3049323471, .int .u32 3921009573, .int .u32 961987163, .int .u32 1508970993, .int .u32 2453635748, .int .u32 2870763221, .int .u32 3624381080, .int .u32 310598401, .int .u32 607225278, .int .u32 1426881987, .int .u32 1925078388, .int .u32 2162078206, .int .u32 2614888103, .int .u32 3248222580, .int .u32 3835390401, .int .u32 4022224774, .int .u32 264347078, .int .u32 604807628, .int .u32 770255983, .int .u32 1249150122, .int .u32 1555081692, .int .u32 1996064986, .int .u32 2554220882, .int .u32 2821834349, .int .u32 2952996808, .int .u32 3210313671, .int .u32 3336571891, .int .u32 3584528711, .int .u32 113926993, .int .u32 338241895, .int .u32 666307205, .int .u32 773529912, .int .u32 1294757372, .int .u32 1396182291, .int .u32 1695183700, .int .u32 1986661051, .int .u32 2177026350, .int .u32 2456956037, .int .u32 2730485921, .int .u32 2820302411, .int .u32 3259730800, .int .u32 3345764771, .int .u32 3516065817, .int .u32 3600352804, .int .u32 4094571909, .int .u32 275423344, .int .u32 430227734, .int .u32 506948616, .int .u32 659060556, .int .u32 883997877, .int .u32 958139571, .int .u32 1322822218, .int .u32 1537002063, .int .u32 1747873779, .int .u32 1955562222, .int .u32 2024104815, .int .u32 2227730452, .int .u32 2361852424, .int .u32 2428436474, .int .u32 2756734187, .int .u32 3204031479, .int .u32 3329325298] t frozen
      | o => o).modify 0 fun
      | .cells _ t frozen => .cells #[.int .u32 1779033703, .int .u32 3144134277, .int .u32 1013904242, .int .u32 2773480762, .int .u32 1359893119, .int .u32 2600822924, .int .u32 528734635, .int .u32 1541459225] t frozen
      | o => o) }
theorem laid_met (os : Os) : laidMet Tryd.prog Rows.fnIndexesRow.laid ((laidWorld os).forCall (fun _ _ => 0) ⟨#[], #[.slice none 0 0], []⟩).memory :=
  laidMet_of_run' 8 (by kernel_rfl) (by kernel_rfl)
set_option maxRecDepth 100000 in
theorem reads (os : Os) {H : Type} (enc : TypeId × Value → H) : ∃ places, DataW.whole enc Tryd.prog ((laidWorld os).forCall (fun _ _ => 0) ⟨#[], #[.slice none 0 0], []⟩).memory Tryd.f14.params.toList Rows.fnIndexesSpec.vars false (#[.slice none 0 0] : Array Value).toList 8 = some ([.nil], [Rows.laid_loop_example_g00284_impl_startWords, Rows.laid_loop_example_g00284_impl_roundWords], places) :=
  ⟨MemPlace.row ⟨0, 0, none⟩ 8 ++ MemPlace.row ⟨1, 0, none⟩ 64, by kernel_rfl⟩

set_option maxRecDepth 100000 in
theorem lifted (os : Os) (started : os.Started) (H : Type) (enc : TypeId × Value → H) (F : Stop.Interp) :
    ReturnsInHanded {} Tryd.checked os 14 .any ((OpenSpec.ofChange Rows.fnIndexesSpec).preRow enc Tryd.prog Tryd.f14 Rows.fnIndexesRow.domain false Rows.fnIndexesRow.laid) (((OpenSpec.ofChange Rows.fnIndexesSpec).at F).post enc Tryd.prog Tryd.f14 false true false false) := by
  obtain ⟨places, hx⟩ := reads os enc
  refine returnsInHanded_of_row (C := Tryd.checked) (s := OpenSpec.ofChange Rows.fnIndexesSpec) own started (by kernel_rfl) Tryd.func14
    (witness_row_at (enc := enc) (C := Tryd.checked) false (laidWorld os) #[.slice none 0 0] rfl (by kernel_rfl) (by kernel_rfl) (by kernel_rfl)
      (OpenSpec.preRow_of_cond 8 hx (by kernel_rfl) (fun k hk => by cases hk) (by kernel_rfl) (laid_met os))) ?_
  intro W base args ds gs before hval hW _ _ _ hL _ _
  exact contract H enc W base args ds gs before hval hW hL

theorem said : Rows.FnIndexesSaid :=
  OpenClaim.holds_of_cond 14 Tryd.f14 rfl rfl rfl rfl rfl rfl rfl ⟨rfl, rfl, rfl, rfl, rfl⟩ rfl rfl rfl rfl rfl (by kernel_rfl) Tryd.func14 (by kernel_rfl)
    (of_decide_eq_true (by kernel_rfl)) (by unfold Func.isWrapper; first | (rw [if_pos (by decide +kernel)]; kernel_rfl) | (rw [if_neg (by decide +kernel)]; exact ⟨rfl, rfl⟩))
    (fun os started H enc _ F => by rw [OpenClaim.pre_eq_preRow]; exact lifted os started H enc F)

theorem plain (f : FuncId) (fn : Func) (hf : Tryd.pinned.checked.prog.funcNamed "loop.example/g00284/laws.FnIndexes" = some f) (hfn : Tryd.pinned.checked.prog.funcs[f]? = some fn) :
    false = Tryd.pinned.checked.prog.looks [] ∧ ∀ (j : Nat) t, fn.params[j]? = some t → Tryd.pinned.checked.prog.wantsStandIn t = false := by
  obtain rfl : f = 14 := Option.some.inj ((show Tryd.prog.funcNamed "loop.example/g00284/laws.FnIndexes" = some 14 by kernel_rfl).symm.trans hf) |>.symm
  obtain rfl : fn = Tryd.f14 := (Option.some.inj (Tryd.func14.symm.trans hfn)).symm
  refine ⟨by kernel_rfl, fun j t ht => ?_⟩
  rw [Tryd.params14] at ht
  obtain rfl : t = 33 := by simpa using Array.mem_of_getElem? ht
  all_goals first | exact (show Tryd.prog.wantsStandIn 33 = false by kernel_rfl)

/-- The statement: the card. -/
theorem proved : Rows.FnIndexesCardSaid :=
  Claim7.holds_tied_plain_at .later [] _ _ _ _ said (fun _ h => by cases h) (by kernel_rfl) (fun _ h => by cases h) fnIndexes_row_tie rfl ⟨rfl, rfl⟩ (by kernel_rfl) rfl plain (by kernel_rfl)
#print axioms proved

end Go.Proofs.YtbjbengbkdoinaaDoor.fnIndexes
