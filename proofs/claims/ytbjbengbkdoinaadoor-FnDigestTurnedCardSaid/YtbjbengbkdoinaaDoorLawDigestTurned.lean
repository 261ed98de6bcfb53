/-
  For every draw of at most 2^20 bytes (a longer one is passed by) the digest is as the reference's, also where one byte is changed; its cuts are its first bytes; padded texts differ: 'FnDigestTurned' returns true. No conditions.
-/
import Derived.Test.YtbjbengbkdoinaaDoorFrameT
import Derived.Test.YtbjbengbkdoinaaDoorFrameB
import Derived.Test.YtbjbengbkdoinaaDoorSha5
import Derived.Test.YtbjbengbkdoinaaDoorTurn1
namespace Go.Proofs.YtbjbengbkdoinaaDoor.fnDigestTurned
open Go.ChangeShapes Go.WideShapes Go.ChangeAt Go.RowKit
open Go.ChangeMaps (open_string shut_string)
set_option linter.unusedVariables false

set_option maxHeartbeats 4000000 in
set_option maxRecDepth 100000 in
theorem walk (a0 : Option Addr) (len0 cap0 : Nat) (z0 : List Int) (w : World) (w0 : IsRow .u8 w a0 len0 cap0 z0) (hL : laidMetH Tryd.prog Rows.fnDigestTurnedRow.laid w) :
    Calls Tryd.prog 9 #[.slice a0 len0 cap0] w fun e w' => e = .returned (.bool true) ∧ Below w.heap.size w w' := by
  have HT := Lib.hid (tabsMet hL)
  obtain ⟨hmax, hB⟩ := bytes_of_row w0
  unfold maxLen at hmax
  clear hL w0
  by_cases hs : len0 ≤ 1048576
  · have C := Lib.hid (drawTextOf_any a0 cap0 len0 w hs hB)
    have D := Lib.hid (fun wx (hb : Below w.heap.size w wx) => drawPlaces_any a0 cap0 len0 wx hs (hB.below hb (Nat.le_refl _)))
    clear hB hmax
    go_enter Tryd.func9, Tryd.ntmps9
    go_wp2_with (go_at_call 29; refine (big_no _ _ _ _ hs).mono ?_; rintro e w' ⟨rfl, rfl⟩)
    refine C.out.mono ?_
    rintro e w1 ⟨⟨s, hss, rfl⟩, hb1⟩
    have HB1 := Lib.hid hb1
    have hss' : s.size ≤ 200 := hss
    clear hss hb1
    go_wp2_with fail
    refine (D.out w1 HB1.out).mono ?_
    rintro e w2 ⟨⟨v, l, rfl, ho, hl, hx⟩, hb2⟩
    obtain ⟨ao, cap, rfl, hr⟩ := ho.rd
    have HB2 := Lib.hid (HB1.out.trans (hb2.mono HB1.out.size))
    obtain ⟨t, ht⟩ : ∃ t : ByteArray, t = s ++ ⟨#[120]⟩ := ⟨_, rfl⟩
    have hts : t.size = s.size + 1 := by rw [ht, ByteArray.size_append]; rfl
    have E := Lib.hid (turned_any t (by omega) (by omega) ao cap l hl hx w2 hr)
    obtain ⟨p, hp⟩ : ∃ p, l[2]? = some p := ⟨_, List.getElem?_eq_getElem (by omega)⟩
    obtain ⟨p0, p1⟩ := hx p (List.mem_of_getElem? hp)
    have hlp : 2 < l.length := by omega
    obtain ⟨b, off, rfl, hc⟩ := hr.at_ 2 p hp
    have Hc := Lib.hid hc
    have hbl := World.block_lt_of_cell? _ _ hc
    have Ht := Lib.hid ht
    have hts1 : t.size ≤ 201 := by omega
    have hts0 : 1 ≤ t.size := by omega
    clear ho hl hx hr hp hb2 hc hts ht
    go_wp2_with fail
    rw [← Ht.out]
    refine E.out.mono ?_
    rintro e w3 ⟨⟨u, hu, rfl⟩, hb3⟩
    have hus : u.size = t.size := hu.1
    have hut : u ≠ t := hu.2
    have HB3 := Lib.hid (HB2.out.trans (hb3.mono HB2.out.size))
    have hc3 := (hb3.cell (p := ⟨b, off + 2, none⟩) hbl).trans Hc.out
    have hus1 : u.size ≤ 201 := by omega
    have hpad : (txt (padL t.data.toList)).toList ≠ (txt (padL u.data.toList)).toList := by
      intro h
      rw [ByteArray.toList_eq, ByteArray.toList_eq, txt_data, txt_data] at h
      have h2 := padL_inj (by simp; omega) h
      exact hut (ByteArray.ext (Array.ext' h2.symm))
    have hpad2 : ((txt (padL t.data.toList)).toList == (txt (padL u.data.toList)).toList) = false := by rw [beq_eq_false_iff_ne]; exact hpad
    have A1 := Lib.hid (fun wx hx => iDigest_any t (by omega) wx hx)
    have A2 := Lib.hid (fun wx => sDigest_any t (by omega) wx)
    have A3 := Lib.hid (fun wx hx => iDigest_any u (by omega) wx hx)
    have A4 := Lib.hid (fun wx => sDigest_any u (by omega) wx)
    have A5' := fun wx hx => iCutDigest_any t (by omega) (1 + p % 32) wx hx
    rw [cutL_in (by omega)] at A5'
    have A6' := fun wx hx => iCutDigest_any t (by omega) 0 wx hx
    rw [cutL_out (by omega)] at A6'
    have A7' := fun wx hx => iCutDigest_any t (by omega) 33 wx hx
    rw [cutL_out (by omega)] at A7'
    have A8' := fun wx hx => iDigestHex_any u (by omega) wx hx
    have A9' := fun wx => iPadText_any t (by omega) wx
    have A10' := fun wx => iPadText_any u (by omega) wx
    have hds : (txt (sha t.data.toList)).size = 32 := by rw [txt_size, sha_length]
    have hxs : (txt (hexL (sha u.data.toList))).size = 64 := by rw [txt_size, hexL_length, sha_length]
    have A5 := Lib.hid A5'
    have A6 := Lib.hid A6'
    have A7 := Lib.hid A7'
    have A8 := Lib.hid A8'
    have A9 := Lib.hid A9'
    have A10 := Lib.hid A10'
    clear A5' A6' A7' A8' A9' A10' hpad hut hu hus hb3
    generalize txt (sha t.data.toList) = dt at *
    generalize txt (sha u.data.toList) = du at *
    generalize txt (hexL (sha u.data.toList)) = hu at *
    generalize txt (padL t.data.toList) = pt at *
    generalize txt (padL u.data.toList) = pu at *
    have q := fun wx => cut_to (P := Tryd.prog) Tryd.underlying9 dt (1 + p % 32) (1 + p % 32).toNat (by omega) (by omega) wx
    have e64 : ((hu.size : Int) == 64) = true := by rw [beq_iff_eq]; omega
    have Hpad := Lib.hid hpad2
    have e0 : (txt []).toList = [] := by rw [ByteArray.toList_eq, txt_data]
    clear hpad2
    clear hds hxs Hc HB1 HB2
    go_wp2_with fail
    refine (A1.out _ (HT.out.below HB3.out (Nat.le_refl _))).mono ?_
    rintro e w4 ⟨rfl, hb4⟩
    have HB4 := Lib.hid (HB3.out.trans (hb4.mono HB3.out.size))
    clear hb4 HB3
    go_wp2_with fail
    refine (A2.out _).mono ?_
    rintro e w5 ⟨rfl, hb5⟩
    have HB5 := Lib.hid (HB4.out.trans (hb5.mono HB4.out.size))
    clear hb5 HB4
    go_wp2_with fail
    refine (A3.out _ (HT.out.below HB5.out (Nat.le_refl _))).mono ?_
    rintro e w6 ⟨rfl, hb6⟩
    have HB6 := Lib.hid (HB5.out.trans (hb6.mono HB5.out.size))
    clear hb6 HB5
    go_wp2_with fail
    refine (A4.out _).mono ?_
    rintro e w7 ⟨rfl, hb7⟩
    have HB7 := Lib.hid (HB6.out.trans (hb7.mono HB6.out.size))
    clear hb7 HB6
    go_wp2_with fail
    refine (A5.out _ (HT.out.below HB7.out (Nat.le_refl _))).mono ?_
    rintro e w8 ⟨rfl, hb8⟩
    have HB8 := Lib.hid (HB7.out.trans (hb8.mono HB7.out.size))
    clear hb8 HB7
    go_wp2_with fail
    refine (A1.out _ (HT.out.below HB8.out (Nat.le_refl _))).mono ?_
    rintro e w9 ⟨rfl, hb9⟩
    have HB9 := Lib.hid (HB8.out.trans (hb9.mono HB8.out.size))
    clear hb9 HB8
    go_wp2_with fail
    refine (A6.out _ (HT.out.below HB9.out (Nat.le_refl _))).mono ?_
    rintro e w10 ⟨rfl, hb10⟩
    have HB10 := Lib.hid (HB9.out.trans (hb10.mono HB9.out.size))
    clear hb10 HB9
    go_wp2_with fail
    refine (A7.out _ (HT.out.below HB10.out (Nat.le_refl _))).mono ?_
    rintro e w11 ⟨rfl, hb11⟩
    have HB11 := Lib.hid (HB10.out.trans (hb11.mono HB10.out.size))
    clear hb11 HB10
    go_wp2_with fail
    refine (A8.out _ (HT.out.below HB11.out (Nat.le_refl _))).mono ?_
    rintro e w12 ⟨rfl, hb12⟩
    have HB12 := Lib.hid (HB11.out.trans (hb12.mono HB11.out.size))
    clear hb12 HB11
    go_wp2_with fail
    refine (A9.out _).mono ?_
    rintro e w13 ⟨rfl, hb13⟩
    have HB13 := Lib.hid (HB12.out.trans (hb13.mono HB12.out.size))
    clear hb13 HB12
    go_wp2_with fail
    refine (A10.out _).mono ?_
    rintro e w14 ⟨rfl, hb14⟩
    have HB14 := Lib.hid (HB13.out.trans (hb14.mono HB13.out.size))
    clear hb14 HB13
    have hne := Hpad.out
    go_wp2_with fail
    go_ret
    exact ⟨rfl, HB14.out⟩
  · clear hB
    go_enter Tryd.func9, Tryd.ntmps9
    go_wp2_with (go_at_call 29; refine (big_yes _ _ _ _ (by omega) (by omega)).mono ?_; rintro e w' ⟨rfl, rfl⟩)
    go_ret
    exact ⟨rfl, Below.refl _ _⟩

theorem own : ownKnob Tryd.prog.godebug = none := by kernel_rfl
theorem laidOut : laidOutB Tryd.prog = true := by kernel_rfl
theorem fine : fineVars Tryd.prog Rows.fnDigestTurnedSpec.vars = true := by kernel_rfl

theorem contract (H : Type) (enc : TypeId × Value → H) (W : World) (base : Nat) (args : Array Value) (ds gs : List (DataW H)) (before : List MemPlace)
    (hval0 : ∀ (j : Nat) t v, Tryd.f9.params[j]? = some t → args[j]? = some v → Value.okWide Tryd.prog W .any base t v)
    (hW : DataW.Whole enc Tryd.prog Tryd.f9.params.toList Rows.fnDigestTurnedSpec.vars false W args.toList ds gs before) (hL : laidMetH Tryd.prog Rows.fnDigestTurnedRow.laid W) :
    Calls Tryd.prog 9 args W fun e W' => ∃ v, e = .returned v ∧ Rows.fnDigestTurnedSpec.post enc Tryd.prog Tryd.f9 false true false false W args v W' := by
  have hval : ∀ (j : Nat) t v, Tryd.f9.params[j]? = some t → args[j]? = some v → Value.okWide Tryd.prog W .any base t v := hval0
  have hW' := hW
  obtain ⟨p, q, hA0, hV, rfl, hfz, hnd⟩ := hW
  have hA : DataW.TrodAll enc Tryd.prog W 0 (fun _ => true) true Tryd.f9.params.toList args.toList ds p := hA0
  rw [Tryd.params9] at hA hval
  obtain ⟨v0, vs0, d0, ds0, p0, q0, hargs, rfl, rfl, h0, r0⟩ := trodAll_cons hA
  obtain ⟨rfl, rfl, rfl⟩ := trodAll_nil r0
  obtain rfl : args = #[v0] := by cases args; simp_all
  have hVlt : ∀ x ∈ q, x.block < W.heap.size := hV.lt
  have hV1 := hV
  obtain ⟨g0, gr0, gq0, rfl, hV2⟩ := trodVars_cons hV1
  obtain ⟨g1, gr1, gq1, rfl, hV3⟩ := trodVars_cons hV2
  obtain ⟨rfl, -⟩ := trodVars_none hV3
  have k0 := h0
  have lt0 : ∀ x ∈ p0, x.block < W.heap.size := by obtain ⟨m, hm⟩ := k0; exact DataW.trod_lt m _ _ _ hm
  obtain ⟨a0, len0, cap0, rfl⟩ := okWide_slice Tryd.underlying33 (hval 0 33 v0 rfl rfl)
  obtain ⟨z0, w0⟩ := isRow_of Tryd.underlying33 Tryd.underlying5 (by kernel_rfl) h0
  clear hA0 hval0
  refine (walk a0 len0 cap0 z0 W w0 hL).mono fun e W' ⟨he, bel⟩ => ?_
  subst he
  exact ⟨_, rfl, _, _, _, [], _, q, hW', trodAll_mk1 (shut_bool Tryd.underlying4 _), (trodAll_cons_mk (Below.trod laidOut (by kernel_rfl) (of_decide_eq_true (by kernel_rfl)) k0 bel lt0) trodAll_mk0), trodVars_stays laidOut bel fine hV hVlt, bel.frame _, fun h => by cases h⟩

noncomputable def laidWorld (os : Os) : World :=
  { World.holding Tryd.prog os ⟨#[], #[], []⟩ with heap := (((World.holding Tryd.prog os ⟨#[], #[], []⟩).heap.modify 1 fun
      | .cells _ t frozen => .cells #[.int .u32 1116352408, .int .u32 1899447441, .int .u32 3049323471, .int .u32 3921009573, .int .u32 961987163, .int .u32 1508970993, .int .u32 2453635748, .int .u32 2870763221, .int .u32 3624381080, .int .u32 310598401, .int .u32 607225278, .int .u32 1426881987, .int .u32 1925078388, .int .u32 2162078206, .int .u32 2614888103, .int .u32 3248222580, .int .u32 3835390401, .int .u32 4022224774, .int .u32 264347078, .int .u32 604807628, .int .u32 770255983, .int .u32 1249150122, .int .u32 1555081692, .int .u32 1996064986, .int .u32 2554220882, .int .u32 2821834349, .int .u32 2952996808, .int .u32 3210313671, .int .u32 3336571891, .int .u32 3584528711, .int .u32 113926993, .int .u32 338241895, .int .u32 666307205, .int .u32 773529912, .int .u32 1294757372, .int .u32 1396182291, .int .u32 1695183700, .int .u32 1986661051, .int .u32 2177026350, .int .u32 2456956037, .int .u32 2730485921, .int .u32 2820302411, .int .u32 3259730800, .int .u32 3345764771, .int .u32 3516065817, .int .u32 3600352804, .int .u32 4094571909, .int .u32 275423344, .int .u32 430227734, .int .u32 506948616, .int .u32 659060556, .int .u32 883997877, .int .u32 958139571, .int .u32 1322822218, .int .u32 1537002063, .int .u32 1747873779, .int .u32 1955562222, .int .u32 2024104815, .int .u32 2227730452, .int .u32 2361852424, .int .u32 2428436474, .int .u32 2756734187, .int .u32 3204031479, .int .u32 3329325298] t frozen
      | o => o).modify 0 fun
      | .cells _ t frozen => .cells #[.int .u32 1779033703, .int .u32 3144134277, .int .u32 1013904242, .int .u32 2773480762, .int .u32 1359893119, .int .u32 2600822924, .int .u32 528734635, .int .u32 1541459225] t frozen
      | o => o) }
theorem laid_met (os : Os) : laidMet Tryd.prog Rows.fnDigestTurnedRow.laid ((laidWorld os).forCall (fun _ _ => 0) ⟨#[], #[.slice none 0 0], []⟩).memory :=
  laidMet_of_run' 8 (by kernel_rfl) (by kernel_rfl)
set_option maxRecDepth 100000 in
theorem reads (os : Os) {H : Type} (enc : TypeId × Value → H) : ∃ places, DataW.whole enc Tryd.prog ((laidWorld os).forCall (fun _ _ => 0) ⟨#[], #[.slice none 0 0], []⟩).memory Tryd.f9.params.toList Rows.fnDigestTurnedSpec.vars false (#[.slice none 0 0] : Array Value).toList 8 = some ([.nil], [Rows.laid_loop_example_g00284_impl_startWords, Rows.laid_loop_example_g00284_impl_roundWords], places) :=
  ⟨MemPlace.row ⟨0, 0, none⟩ 8 ++ MemPlace.row ⟨1, 0, none⟩ 64, by kernel_rfl⟩

set_option maxRecDepth 100000 in
theorem lifted (os : Os) (started : os.Started) (H : Type) (enc : TypeId × Value → H) (F : Stop.Interp) :
    ReturnsInHanded {} Tryd.checked os 9 .any ((OpenSpec.ofChange Rows.fnDigestTurnedSpec).preRow enc Tryd.prog Tryd.f9 Rows.fnDigestTurnedRow.domain false Rows.fnDigestTurnedRow.laid) (((OpenSpec.ofChange Rows.fnDigestTurnedSpec).at F).post enc Tryd.prog Tryd.f9 false true false false) := by
  obtain ⟨places, hx⟩ := reads os enc
  refine returnsInHanded_of_row (C := Tryd.checked) (s := OpenSpec.ofChange Rows.fnDigestTurnedSpec) own started (by kernel_rfl) Tryd.func9
    (witness_row_at (enc := enc) (C := Tryd.checked) false (laidWorld os) #[.slice none 0 0] rfl (by kernel_rfl) (by kernel_rfl) (by kernel_rfl)
      (OpenSpec.preRow_of_cond 8 hx (by kernel_rfl) (fun k hk => by cases hk) (by kernel_rfl) (laid_met os))) ?_
  intro W base args ds gs before hval hW _ _ _ hL _ _
  exact contract H enc W base args ds gs before hval hW hL

theorem said : Rows.FnDigestTurnedSaid :=
  OpenClaim.holds_of_cond 9 Tryd.f9 rfl rfl rfl rfl rfl rfl rfl ⟨rfl, rfl, rfl, rfl, rfl⟩ rfl rfl rfl rfl rfl (by kernel_rfl) Tryd.func9 (by kernel_rfl)
    (of_decide_eq_true (by kernel_rfl)) (by unfold Func.isWrapper; first | (rw [if_pos (by decide +kernel)]; kernel_rfl) | (rw [if_neg (by decide +kernel)]; exact ⟨rfl, rfl⟩))
    (fun os started H enc _ F => by rw [OpenClaim.pre_eq_preRow]; exact lifted os started H enc F)

theorem plain (f : FuncId) (fn : Func) (hf : Tryd.pinned.checked.prog.funcNamed "loop.example/g00284/laws.FnDigestTurned" = some f) (hfn : Tryd.pinned.checked.prog.funcs[f]? = some fn) :
    false = Tryd.pinned.checked.prog.looks [] ∧ ∀ (j : Nat) t, fn.params[j]? = some t → Tryd.pinned.checked.prog.wantsStandIn t = false := by
  obtain rfl : f = 9 := Option.some.inj ((show Tryd.prog.funcNamed "loop.example/g00284/laws.FnDigestTurned" = some 9 by kernel_rfl).symm.trans hf) |>.symm
  obtain rfl : fn = Tryd.f9 := (Option.some.inj (Tryd.func9.symm.trans hfn)).symm
  refine ⟨by kernel_rfl, fun j t ht => ?_⟩
  rw [Tryd.params9] at ht
  obtain rfl : t = 33 := by simpa using Array.mem_of_getElem? ht
  all_goals first | exact (show Tryd.prog.wantsStandIn 33 = false by kernel_rfl)

/-- The statement: the card. -/
theorem proved : Rows.FnDigestTurnedCardSaid :=
  Claim7.holds_tied_plain_at .later [] _ _ _ _ said (fun _ h => by cases h) (by kernel_rfl) (fun _ h => by cases h) fnDigestTurned_row_tie rfl ⟨rfl, rfl⟩ (by kernel_rfl) rfl plain (by kernel_rfl)
#print axioms proved

end Go.Proofs.YtbjbengbkdoinaaDoor.fnDigestTurned
