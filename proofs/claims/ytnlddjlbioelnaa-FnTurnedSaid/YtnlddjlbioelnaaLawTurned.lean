/-
  For every draw of at most 2^20 bytes (a longer one is passed by) a sealed text is unsealed, with one byte changed it is not, and a checksum goes on: 'FnTurned' returns true. No conditions.
-/
import Derived.Test.YtnlddjlbioelnaaFrameB
import Derived.Test.YtnlddjlbioelnaaDraw4
import Derived.Test.YtnlddjlbioelnaaPuTurnS
import Derived.Test.YtnlddjlbioelnaaSums2
namespace Go.Proofs.Ytnlddjlbioelnaa.fnTurned
open Go.ChangeShapes Go.WideShapes Go.ChangeAt Go.RowKit
open Go.ChangeMaps (open_string shut_string)
set_option linter.unusedVariables false

set_option maxHeartbeats 4000000 in
set_option maxRecDepth 100000 in
theorem walk (a0 : Option Addr) (len0 cap0 : Nat) (z0 : List Int) (w : World) (w0 : IsRow .u8 w a0 len0 cap0 z0) :
    Calls Try.prog 3 #[.slice a0 len0 cap0] w fun e w' => e = .returned (.bool true) ∧ Below w.heap.size w w' := by
  obtain ⟨hmax, hB⟩ := bytes_of_row w0
  unfold maxLen at hmax
  clear w0
  by_cases hs : len0 ≤ 1048576
  · have C := Lib.hid (drawSumOf_any a0 cap0 len0 w hs hB)
    have D := Lib.hid (fun wx (hb : Below w.heap.size w wx) => drawPlaces_any a0 cap0 len0 wx hs (hB.below hb (Nat.le_refl _)))
    clear hB hmax
    go_enter Try.func3, Try.ntmps3
    go_wp2_with (go_at_call 7; refine (big_no _ _ _ _ hs).mono ?_; rintro e w' ⟨rfl, rfl⟩)
    refine C.out.mono ?_
    rintro e w1 ⟨⟨s, hss, rfl⟩, hb1⟩
    have HB1 := Lib.hid hb1
    have hss' : s.size ≤ 39 := hss
    clear hss hb1
    go_wp2_with fail
    refine (D.out w1 HB1.out).mono ?_
    rintro e w2 ⟨⟨v, l, rfl, ho, hl, hx⟩, hb2⟩
    obtain ⟨ao, cap, rfl, hr⟩ := ho.rd
    have HB2 := Lib.hid (HB1.out.trans (hb2.mono HB1.out.size))
    have hsl : s.data.toList.length = s.size := by simp
    have S1 := Lib.hid (fun wx => iSealed_yes s (by omega) wx)
    have hts : (txt (sealL s.data.toList)).size = s.size + 4 := by rw [txt_size]; unfold sealL; rw [List.length_append, crc4_length, hsl]
    have U1' := fun wx => iUnsealed_any (txt (sealL s.data.toList)) (by omega) wx
    rw [txt_data, unseal_seal (by omega)] at U1'
    simp only [optTxt, txt_toList] at U1'
    have UT : Hid (∀ (i : Nat) (b : UInt8) (hi : i < s.size + 4), (sealL s.data.toList)[i]? ≠ some b → ∀ wx, Calls Try.prog 11 #[.string (txt ((txt (sealL s.data.toList)).data.toList.set i b))] wx fun e w' => e = .returned (.tuple #[.string ⟨#[]⟩, .bool false]) ∧ Below wx.heap.size wx w') := Lib.hid (by
      intro i b hi hb wx
      have h := iUnsealed_any (txt ((txt (sealL s.data.toList)).data.toList.set i b)) (by rw [txt_size, List.length_set]; simp; omega) wx
      simp only [txt_data] at h
      rw [unseal_turned (by unfold sealL; rw [List.length_append, crc4_length]; omega) hb] at h
      simpa only [txt_data, optTxt] using h)
    have U1 := Lib.hid U1'
    obtain ⟨p, hp⟩ : ∃ p, l[0]? = some p := ⟨_, List.getElem?_eq_getElem (by omega)⟩
    obtain ⟨q, hq⟩ : ∃ q, l[1]? = some q := ⟨_, List.getElem?_eq_getElem (by omega)⟩
    obtain ⟨p0, p1⟩ := hx p (List.mem_of_getElem? hp)
    obtain ⟨q0, q1⟩ := hx q (List.mem_of_getElem? hq)
    obtain ⟨b, off, rfl, hc0⟩ := hr.at_ 0 p hp
    obtain ⟨b', off', e', hc1⟩ := hr.at_ 1 q hq
    cases e'
    rw [Nat.add_zero] at hc0
    have hbl := World.block_lt_of_cell? _ _ hc0
    have hl2 : 1 < l.length := by omega
    have SM1 := Lib.hid (fun wx => iSumOf_any s (by omega) wx)
    have SM2 := Lib.hid (fun wx => iSumMore_any (crc s.data.toList) (crc_lt _) ⟨#[120]⟩ (by decide) wx)
    obtain ⟨t2, ht2⟩ : ∃ t : ByteArray, t = s ++ ⟨#[120]⟩ := ⟨_, rfl⟩
    have ht2s : t2.size = s.size + 1 := by rw [ht2, ByteArray.size_append]; rfl
    have SM3' := fun wx => iSumOf_any t2 (by omega) wx
    have hsm : sumL 4294967295 t2.data.toList = sumL (crc s.data.toList) [120] := by rw [ht2]; simp [crc, ← sumL_append]
    rw [hsm] at SM3'
    have SM3 := Lib.hid SM3'
    have HT2 := Lib.hid ht2
    clear SM3' U1' hsm ht2 ht2s
    generalize hT : sealL s.data.toList = T at *
    have hTl : T.length = s.size + 4 := by rw [← txt_size]; exact hts
    obtain ⟨m, hm⟩ : ∃ m : Nat, p % ((txt T).size : Int) = m := ⟨(p % ((txt T).size : Int)).toNat, by have := Int.emod_nonneg p (show ((txt T).size : Int) ≠ 0 by omega); omega⟩
    have hms : m < (txt T).size := by have := Int.emod_lt_of_pos p (show (0 : Int) < ((txt T).size : Int) by omega); omega
    have Hm := Lib.hid hm
    have e1 : ((txt T).size : Int) ≠ 0 := by omega
    have e3 : (((txt T).size : Int) != (s.size : Int) + 4) = false := by rw [bne_eq_false_iff_eq]; omega
    have e4 : (s.toList != s.toList) = false := by simp
    have HTl := Lib.hid hTl
    have Hr := Lib.hid (And.intro hc0 hc1)
    generalize hU : txt T = t at *
    have HU := Lib.hid hU
    have Hts := Lib.hid hts
    have t0 : 4 ≤ t.size := by omega
    have t1 : t.size ≤ 43 := by omega
    clear hts
    clear hT hU ho hl hx hr hp hq hb2 hsl hTl hc0 hc1 hm
    go_wp2_with fail
    refine (S1.out _).mono ?_
    rintro e w3 ⟨rfl, hb3⟩
    have HB3 := Lib.hid (HB2.out.trans (hb3.mono HB2.out.size))
    have B23 := Lib.hid hb3
    clear hb3
    go_wp2_with fail
    refine (U1.out _).mono ?_
    rintro e w4 ⟨rfl, hb4⟩
    have HB4 := Lib.hid (HB3.out.trans (hb4.mono HB3.out.size))
    have hc0 := ((B23.out.trans (hb4.mono B23.out.size)).cell (p := ⟨b, off, none⟩) hbl).trans Hr.out.1
    have hc1 := ((B23.out.trans (hb4.mono B23.out.size)).cell (p := ⟨b, off + 1, none⟩) hbl).trans Hr.out.2
    have hbl4 : b < w4.heap.size := Nat.lt_of_lt_of_le hbl (Nat.le_trans B23.out.size hb4.size)
    clear hb4
    have kc := fun wx => run_bytes_of_string (P := Try.prog) wx 9 22 5 t Try.underlying9 Try.underlying22 Try.underlying5
    have hown := OwnB.ofString w4 w4.heap.size t 5 (Nat.le_refl _) (by unfold maxLen; omega)
    go_wp2_with fail
    refine wp_named (fun W => OwnB W w4.heap.size (.slice (some ⟨w4.heap.size, 0, none⟩) t.size (grownCap w4 t.size 0 5)) t.data.toList ∧ Below w4.heap.size w4 W) ⟨hown, ((Below.refl _ _).alloc (Nat.le_refl _) _).drew⟩ ?_
    rintro W ⟨ho, hbW⟩
    have hc0 := (hbW.cell (p := ⟨b, off, none⟩) hbl4).trans hc0
    have hc1 := (hbW.cell (p := ⟨b, off + 1, none⟩) hbl4).trans hc1
    have hsl : t.data.toList.length = t.size := by simp
    have ho' : Own W w4.heap.size 1 (.slice (some ⟨w4.heap.size, 0, none⟩) t.size (grownCap w4 t.size 0 5)) t.size (u8s t.data.toList) := by
      have h := ho
      unfold OwnB at h
      rw [hsl] at h
      exact h
    have hz : W.cell? ⟨w4.heap.size, m, none⟩ = some (.int .u8 (t[m].toNat : Int)) := by
      rw [ho'.cell_at m hms, u8s_get, List.getElem?_eq_getElem (by omega)]
      simp
      rfl
    obtain ⟨⟨u, hu⟩, hf⟩ := ho'.at1 m hms
    obtain ⟨y, hy, hyz, hxor⟩ := u8_xor_ne (z := t[m].toNat) (x := (1 + q % 255).toNat) (UInt8.toNat_lt _) (by omega) (by omega)
    have hcast : ((1 + q % 255).toNat : Int) = 1 + q % 255 := by omega
    rw [hcast] at hxor
    have hne : T[m]? ≠ some (UInt8.ofNat y) := by
      intro h
      have e : T = t.data.toList := by rw [← HU.out, txt_data]
      rw [e, List.getElem?_eq_getElem (by omega)] at h
      have h3 := congrArg UInt8.toNat (Option.some.inj h)
      rw [UInt8.toNat_ofNat'] at h3
      have h4 : (t.data.toList[m]).toNat = t[m].toNat := by simp; rfl
      omega
    have UF := Lib.hid (UT.out m (UInt8.ofNat y) (by have := Hts.out; omega) hne)
    have HX := Lib.hid hxor
    have HO := Lib.hid ho'
    have HB5 := Lib.hid (HB4.out.trans (hbW.mono HB4.out.size))
    have HBW := Lib.hid hbW
    have LW : Hid (w.heap.size ≤ w4.heap.size) := Lib.hid HB4.out.size
    have Hu := Lib.hid (u8s_set t.data.toList m y hy)
    have z255 : (t[m].toNat : Int) ≤ 255 := by have := t[m].toNat_lt; omega
    have z0 : (0 : Int) ≤ (t[m].toNat : Int) := by omega
    have hsl' : (t.data.toList.set m (UInt8.ofNat y)).length = t.size := by rw [List.length_set, hsl]
    have Hsl := Lib.hid hsl'
    have hlu : ¬ b = w4.heap.size := by omega
    have hlu' : ¬ w4.heap.size = b := by omega
    have Hlu := Lib.hid hu
    clear hxor ho' ho hbW hown hsl hcast hyz hsl' kc hu hne
    rw [Hm.out]
    generalize t[m].toNat = z at *
    go_wp2_with fail
    refine wp_region_quiet_tail 14 Try.checked.mixed (by kernel_rfl) ?_
    simp only [List.take_succ_cons, List.take_zero, List.drop_succ_cons, List.drop_zero]
    repeat (first | go_big_quiet_skip | (go_big_quiet_want; go_big_quiet_op; first | go_big_quiet_on | (apply Exists.intro; refine ⟨?_, ?_⟩; (focus (fail)); go_big_quiet_on)))
    refine wpQuiet_nil ?_
    rw [HX.out]
    have ho2 : OwnB (W.drew.setCell ⟨w4.heap.size, m, none⟩ (.int .u8 (y : Int))) w4.heap.size (.slice (some ⟨w4.heap.size, 0, none⟩) t.size (grownCap w4 t.size 0 5)) (t.data.toList.set m (UInt8.ofNat y)) := by
      have h := (Own.drew HO.out).store1 m hms (.int .u8 (y : Int))
      rw [Hu.out] at h
      unfold OwnB
      rw [Hsl.out]
      exact h
    have hb2 : Below w.heap.size w (W.drew.setCell ⟨w4.heap.size, m, none⟩ (.int .u8 (y : Int))) := HB5.out.drew.setCell LW.out _
    go_upto_region 12 with fail
    refine wp_named (fun W' => OwnB W' w4.heap.size (.slice (some ⟨w4.heap.size, 0, none⟩) t.size (grownCap w4 t.size 0 5)) (t.data.toList.set m (UInt8.ofNat y)) ∧ Below w.heap.size w W') ⟨ho2, hb2⟩ ?_
    rintro W2 ⟨ho3, hb3⟩
    have hcv := OwnB.text (P := Try.prog) ho3 22 9 5 Try.underlying22 Try.underlying5 Try.underlying9
    have HB7 := Lib.hid hb3
    clear ho2 hb2 ho3 hb3 hc0 hc1 hf hz
    generalize txt (t.data.toList.set m (UInt8.ofNat y)) = tt at *
    go_wp2_with fail
    refine (UF.out _).mono ?_
    rintro e w8 ⟨rfl, hb8⟩
    have HB8 := Lib.hid (HB7.out.trans (hb8.mono HB7.out.size))
    clear hb8 hcv
    have SM1' := SM1.out
    change (∀ wx : World, Calls Try.prog 13 #[.string s] wx fun e w' => e = .returned (.int .u32 (crc s.data.toList : Int)) ∧ wx = w') at SM1'
    have S1x := Lib.hid SM1'
    clear SM1 SM1'
    generalize crc s.data.toList = x1 at *
    generalize sumL x1 [120] = x2 at *
    go_wp2_with fail
    refine (S1x.out _).mono ?_
    rintro e w9 ⟨rfl, rfl⟩
    go_wp2_with fail
    refine (SM2.out _).mono ?_
    rintro e w9 ⟨rfl, rfl⟩
    go_wp2_with fail
    rw [← HT2.out]
    refine (SM3.out _).mono ?_
    rintro e w9 ⟨rfl, rfl⟩
    go_wp2_with fail
    go_ret
    exact ⟨by simp, HB8.out⟩
  · clear hB
    go_enter Try.func3, Try.ntmps3
    go_wp2_with (go_at_call 7; refine (big_yes _ _ _ _ (by omega) (by omega)).mono ?_; rintro e w' ⟨rfl, rfl⟩)
    go_ret
    exact ⟨rfl, Below.refl _ _⟩

theorem own : ownKnob Try.prog.godebug = none := by kernel_rfl
theorem laidOut : laidOutB Try.prog = true := by kernel_rfl

set_option maxRecDepth 100000 in
theorem lifted (os : Os) (started : os.Started) (H : Type) (enc : TypeId × Value → H) :
    ReturnsInHanded {} Try.checked os 3 .any (Rows.fnTurnedSpec.pre6 enc Try.prog Try.f3 Rows.fnTurnedRow.domain false) (Rows.fnTurnedSpec.post enc Try.prog Try.f3 false true false false) := by
  refine returnsInHanded_of_change (C := Try.checked) own started (by kernel_rfl) Try.func3
    (ChangeSpec.witness6 (enc := enc) (C := Try.checked) false ⟨#[], #[.slice none 0 0], []⟩ 8 (by kernel_rfl) (by kernel_rfl) (by kernel_rfl) (by kernel_rfl)) ?_
  intro W base args ds gs before hval0 hW hcnd _
  have hval : ∀ (j : Nat) t v, Try.f3.params[j]? = some t → args[j]? = some v → Value.okWide Try.prog W .any base t v := hval0
  have hW' := hW
  obtain ⟨p, q, hA0, hV, rfl, hfz, hnd⟩ := hW
  have hA : DataW.TrodAll enc Try.prog W 0 (fun _ => true) true Try.f3.params.toList args.toList ds p := hA0
  rw [Try.params3] at hA hval
  obtain ⟨v0, vs0, d0, ds0, p0, q0, hargs, rfl, rfl, h0, r0⟩ := trodAll_cons hA
  obtain ⟨rfl, rfl, rfl⟩ := trodAll_nil r0
  obtain rfl : args = #[v0] := by cases args; simp_all
  obtain ⟨rfl, rfl⟩ := trodVars_none hV
  have k0 := h0
  have lt0 : ∀ x ∈ p0, x.block < W.heap.size := by obtain ⟨m, hm⟩ := k0; exact DataW.trod_lt m _ _ _ hm
  obtain ⟨a0, len0, cap0, rfl⟩ := okWide_slice Try.underlying22 (hval 0 22 v0 rfl rfl)
  obtain ⟨z0, w0⟩ := isRow_of Try.underlying22 Try.underlying5 (by kernel_rfl) h0
  clear hA0 hval0
  refine (walk a0 len0 cap0 z0 W w0).mono fun e W' ⟨he, bel⟩ => ?_
  subst he
  exact ⟨_, rfl, _, _, _, [], _, [], hW', trodAll_mk1 (shut_bool Try.underlying4 _), (trodAll_cons_mk (Below.trod laidOut (by kernel_rfl) (of_decide_eq_true (by kernel_rfl)) k0 bel lt0) trodAll_mk0), rfl, bel.frame _, fun h => by cases h⟩

theorem over : Rows.fnTurnedRow.holds Try.pinned (OpenSpec.ofChange Rows.fnTurnedSpec) :=
  OpenClaim.holds_of_wide 3 Try.f3 rfl rfl rfl rfl rfl rfl rfl ⟨rfl, rfl, rfl, rfl, rfl⟩ rfl rfl rfl rfl rfl (by kernel_rfl) Try.func3 (by kernel_rfl)
    (of_decide_eq_true (by kernel_rfl)) (by unfold Func.isWrapper; first | (rw [if_pos (by decide +kernel)]; kernel_rfl) | (rw [if_neg (by decide +kernel)]; exact ⟨rfl, rfl⟩))
    (fun os started H enc _ => lifted os started H enc)

/-- The statement. -/
theorem proved : Rows.FnTurnedSaid :=
  over
#print axioms proved

end Go.Proofs.Ytnlddjlbioelnaa.fnTurned
