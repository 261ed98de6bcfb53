/-
  For every name and record (of at most 2^20 bytes; longer ones are passed by) the program's LogActs and the reference's return the same, and what the program handed out is its caller's: 'FnExactLogActs' returns true. No conditions.
-/
import Derived.Test.YtdecehecjlbbiaaFrameA
import Derived.Test.YtdecehecjlbbiaaLog2
import Derived.Test.YtdecehecjlbbiaaInts2
namespace Go.Proofs.Ytdecehecjlbbiaa.fnExactLogActs
open Go.ChangeShapes Go.WideShapes Go.ChangeAt Go.RowKit
open Go.ChangeMaps (open_string shut_string)
set_option linter.unusedVariables false

set_option maxHeartbeats 8000000 in
set_option maxRecDepth 100000 in
theorem walk (a0 : ByteArray) (a1 : ByteArray) (w : World) (w0 : a0.size ≤ maxLen) (w1 : a1.size ≤ maxLen) :
    Calls Try.prog 8 #[.string a0, .string a1] w fun e w' => e = .returned (.bool true) ∧ Below w.heap.size w w' := by
  unfold maxLen at w0 w1
  have hB := Below.refl w.heap.size w
  have LS : Hid (∀ W, Below w.heap.size w W → w.heap.size ≤ W.heap.size) := Lib.hid fun W hW => by have := hW.size; exact this
  have HB0 := Lib.hid hB
  clear hB
  by_cases hs0 : a0.size ≤ 1048576
  · skip
    by_cases hs1 : a1.size ≤ 1048576
    · skip
      have CS := fun W => sLogActs_any a0 a1 W hs1
      have CI := fun W => iLogActs_any a0 a1 W hs1
      have hrl : (logAV a0 a1).1.length ≤ 1048576 := by unfold logAV; split <;> simp
      generalize logAV a0 a1 = rv at *
      obtain ⟨rl, rb⟩ := rv
      simp only at CS CI hrl
      have CE := Lib.hid (fun a c a' c' W h1 h2 => eqActS_any a a' c c' rl W hrl h1 h2)
      have CMG := fun v B W h => markActS_any v rl B 1 W hrl (by omega) (by omega) h
      have CHG := fun a c W h => heldActS_any a c rl.length 1 W hrl (by omega) (by omega) h
      simp only [Int.natCast_one] at CMG CHG
      have hn2 : ¬ ((1 : Int) + 4 * rl.length < 0) := by omega
      have e2 : (((1 : Int) + 4 * rl.length) != ((1 : Int) + 4 * rl.length)) = false := by simp
      generalize (1 : Int) + 4 * rl.length = KR at *
      have DMG := Lib.hid CMG
      have DHG := Lib.hid CHG
      have DS := Lib.hid CS
      have DI := Lib.hid CI
      have e1 : (rb != rb) = false := by simp
      clear CS CI CMG CHG
      go_enter Try.func8, Try.ntmps8
      go_wp2_with fail
      have HB := Lib.hid (Below.refl w.heap.size w)
      go_wp2_with fail
      refine (DS.out _).mono ?_
      rintro e w1_ ⟨⟨v1, rfl, ho⟩, hb⟩
      obtain ⟨q1, k1, rfl⟩ := Own.shape ho
      have L_WO : Hid (∀ k, Value.ownBlock (.slice q1 rl.length k1) = some k → w.heap.size ≤ k) := Lib.hid (fun k hk => Nat.le_trans (LS.out _ HB.out) (Own.block ho k hk).1)
      have HB_ := Lib.hid (HB.out.trans (hb.mono (LS.out _ HB.out)))
      clear HB
      have HB := HB_
      clear HB_
      clear hb
      have WO := Lib.hid ho
      clear ho
      go_wp2_with fail
      refine (DI.out _).mono ?_
      rintro e w2_ ⟨⟨v2, rfl, ho⟩, hb⟩
      obtain ⟨q2, k2, rfl⟩ := Own.shape ho
      have A_WO_GO := Lib.hid (apart_of (fun k hk => (Own.block WO.out k hk).2) (fun k hk => (Own.block ho k hk).1))
      have L_GO : Hid (∀ k, Value.ownBlock (.slice q2 rl.length k2) = some k → w.heap.size ≤ k) := Lib.hid (fun k hk => Nat.le_trans (LS.out _ HB.out) (Own.block ho k hk).1)
      have HB_ := Lib.hid (HB.out.trans (hb.mono (LS.out _ HB.out)))
      have WO_ := Lib.hid (WO.out.below hb (Nat.le_refl _))
      clear HB WO
      have HB := HB_
      have WO := WO_
      clear HB_ WO_
      clear hb
      have GO := Lib.hid ho
      clear ho
      obtain ⟨_, _, eq_, RX_GO⟩ := OwnA.rd GO.out
      cases eq_
      replace RX_GO := Lib.hid RX_GO
      obtain ⟨_, _, eq_, RX_WO⟩ := OwnA.rd WO.out
      cases eq_
      replace RX_WO := Lib.hid RX_WO
      go_wp2_with fail
      refine (CE.out _ _ _ _ _ RX_GO.out RX_WO.out).mono ?_
      rintro e w3 ⟨rfl, hb⟩
      have HB_ := Lib.hid (HB.out.trans (hb.mono (LS.out _ HB.out)))
      have WO_ := Lib.hid (WO.out.below hb (Nat.le_refl _))
      have GO_ := Lib.hid (GO.out.below hb (Nat.le_refl _))
      clear HB WO GO
      have HB := HB_
      have WO := WO_
      have GO := GO_
      clear HB_ WO_ GO_
      clear hb
      clear RX_GO RX_WO
      go_wp2_with fail
      refine (DMG.out _ _ _ GO.out).mono ?_
      rintro e w4 ⟨rfl, ho, hg⟩
      have HB_ := Lib.hid (HB.out.grown hg (LS.out _ HB.out) (fun k hk => L_GO.out k hk))
      have WO_ := Lib.hid (Own.kept WO.out hg (apart_sym A_WO_GO.out))
      clear GO
      clear HB WO
      have HB := HB_
      have WO := WO_
      clear HB_ WO_
      clear hg
      obtain ⟨_, _, eq_, GR⟩ := OwnA.rd ho
      rw [marksA_length] at eq_
      cases eq_
      replace GR := Lib.hid GR
      clear ho
      go_wp2_with fail
      refine (DHG.out _ _ _ GR.out).mono ?_
      rintro e w5 ⟨rfl, hb⟩
      have HB_ := Lib.hid (HB.out.trans (hb.mono (LS.out _ HB.out)))
      have WO_ := Lib.hid (WO.out.below hb (Nat.le_refl _))
      have GR_ := Lib.hid (GR.out.below hb (Nat.le_refl _))
      clear HB WO GR
      have HB := HB_
      have WO := WO_
      have GR := GR_
      clear HB_ WO_ GR_
      clear hb
      go_wp2_with fail
      refine (DI.out _).mono ?_
      rintro e w6_ ⟨⟨v6, rfl, ho⟩, hb⟩
      obtain ⟨q6, k6, rfl⟩ := Own.shape ho
      have A_WO_HO := Lib.hid (apart_of (fun k hk => (Own.block WO.out k hk).2) (fun k hk => (Own.block ho k hk).1))
      have L_HO : Hid (∀ k, Value.ownBlock (.slice q6 rl.length k6) = some k → w.heap.size ≤ k) := Lib.hid (fun k hk => Nat.le_trans (LS.out _ HB.out) (Own.block ho k hk).1)
      have HB_ := Lib.hid (HB.out.trans (hb.mono (LS.out _ HB.out)))
      have WO_ := Lib.hid (WO.out.below hb (Nat.le_refl _))
      have GR_ := Lib.hid (GR.out.below hb (Nat.le_refl _))
      clear HB WO GR
      have HB := HB_
      have WO := WO_
      have GR := GR_
      clear HB_ WO_ GR_
      clear hb
      have HO := Lib.hid ho
      clear ho
      obtain ⟨_, _, eq_, RX_HO⟩ := OwnA.rd HO.out
      cases eq_
      replace RX_HO := Lib.hid RX_HO
      obtain ⟨_, _, eq_, RX_WO⟩ := OwnA.rd WO.out
      cases eq_
      replace RX_WO := Lib.hid RX_WO
      go_wp2_with fail
      refine (CE.out _ _ _ _ _ RX_HO.out RX_WO.out).mono ?_
      rintro e w7 ⟨rfl, hb⟩
      have HB_ := Lib.hid (HB.out.trans (hb.mono (LS.out _ HB.out)))
      have WO_ := Lib.hid (WO.out.below hb (Nat.le_refl _))
      have GR_ := Lib.hid (GR.out.below hb (Nat.le_refl _))
      have HO_ := Lib.hid (HO.out.below hb (Nat.le_refl _))
      clear HB WO GR HO
      have HB := HB_
      have WO := WO_
      have GR := GR_
      have HO := HO_
      clear HB_ WO_ GR_ HO_
      clear hb
      clear RX_HO RX_WO
      go_wp2_with fail
      refine (DHG.out _ _ _ GR.out).mono ?_
      rintro e w8 ⟨rfl, hb⟩
      have HB_ := Lib.hid (HB.out.trans (hb.mono (LS.out _ HB.out)))
      have WO_ := Lib.hid (WO.out.below hb (Nat.le_refl _))
      have GR_ := Lib.hid (GR.out.below hb (Nat.le_refl _))
      have HO_ := Lib.hid (HO.out.below hb (Nat.le_refl _))
      clear HB WO GR HO
      have HB := HB_
      have WO := WO_
      have GR := GR_
      have HO := HO_
      clear HB_ WO_ GR_ HO_
      clear hb
      go_wp2_with fail
      go_ret
      exact ⟨rfl, HB.out⟩
    · skip
      go_enter Try.func8, Try.ntmps8
      go_wp2_with fail
      go_ret
      exact ⟨rfl, HB0.out⟩
  · skip
    go_enter Try.func8, Try.ntmps8
    go_wp2_with fail
    go_ret
    exact ⟨rfl, HB0.out⟩

theorem own : ownKnob Try.prog.godebug = none := by kernel_rfl
theorem laidOut : laidOutB Try.prog = true := by kernel_rfl

set_option maxRecDepth 100000 in
theorem lifted (os : Os) (started : os.Started) (H : Type) (enc : TypeId × Value → H) :
    ReturnsInHanded {} Try.checked os 8 .any (Rows.fnExactLogActsSpec.pre6 enc Try.prog Try.f8 Rows.fnExactLogActsRow.domain false) (Rows.fnExactLogActsSpec.post enc Try.prog Try.f8 false true false false) := by
  refine returnsInHanded_of_change (C := Try.checked) own started (by kernel_rfl) Try.func8
    (ChangeSpec.witness6 (enc := enc) (C := Try.checked) false ⟨#[], #[.string ByteArray.empty, .string ByteArray.empty], []⟩ 8 (by kernel_rfl) (by kernel_rfl) (by kernel_rfl) (by kernel_rfl)) ?_
  intro W base args ds gs before hval0 hW hcnd _
  have hval : ∀ (j : Nat) t v, Try.f8.params[j]? = some t → args[j]? = some v → Value.okWide Try.prog W .any base t v := hval0
  have hW' := hW
  obtain ⟨p, q, hA0, hV, rfl, hfz, hnd⟩ := hW
  have hA : DataW.TrodAll enc Try.prog W 0 (fun _ => true) true Try.f8.params.toList args.toList ds p := hA0
  rw [Try.params8] at hA hval
  obtain ⟨v0, vs0, d0, ds0, p0, q0, hargs, rfl, rfl, h0, r0⟩ := trodAll_cons hA
  obtain ⟨v1, vs1, d1, ds1, p1, q1, rfl, rfl, rfl, h1, r1⟩ := trodAll_cons r0
  obtain ⟨rfl, rfl, rfl⟩ := trodAll_nil r1
  obtain rfl : args = #[v0, v1] := by cases args; simp_all
  obtain ⟨rfl, rfl⟩ := trodVars_none hV
  have k0 := h0
  have lt0 : ∀ x ∈ p0, x.block < W.heap.size := by obtain ⟨m, hm⟩ := k0; exact DataW.trod_lt m _ _ _ hm
  obtain ⟨a0, rfl, rfl, rfl, w0⟩ := open_string Try.underlying9 (hval 0 9 v0 rfl rfl) h0
  have k1 := h1
  have lt1 : ∀ x ∈ p1, x.block < W.heap.size := by obtain ⟨m, hm⟩ := k1; exact DataW.trod_lt m _ _ _ hm
  obtain ⟨a1, rfl, rfl, rfl, w1⟩ := open_string Try.underlying9 (hval 1 9 v1 rfl rfl) h1
  clear hA0 hval0
  refine (walk a0 a1 W w0 w1).mono fun e W' ⟨he, bel⟩ => ?_
  subst he
  exact ⟨_, rfl, _, _, _, [], _, [], hW', trodAll_mk1 (shut_bool Try.underlying4 _), (trodAll_cons_mk (Below.trod laidOut (by kernel_rfl) (of_decide_eq_true (by kernel_rfl)) k0 bel lt0) (trodAll_cons_mk (Below.trod laidOut (by kernel_rfl) (of_decide_eq_true (by kernel_rfl)) k1 bel lt1) trodAll_mk0)), rfl, bel.frame _, fun h => by cases h⟩

theorem over : Rows.fnExactLogActsRow.holds Try.pinned (OpenSpec.ofChange Rows.fnExactLogActsSpec) :=
  OpenClaim.holds_of_wide 8 Try.f8 rfl rfl rfl rfl rfl rfl rfl ⟨rfl, rfl, rfl, rfl, rfl⟩ rfl rfl rfl rfl rfl (by kernel_rfl) Try.func8 (by kernel_rfl)
    (of_decide_eq_true (by kernel_rfl)) (by unfold Func.isWrapper; first | (rw [if_pos (by decide +kernel)]; kernel_rfl) | (rw [if_neg (by decide +kernel)]; exact ⟨rfl, rfl⟩))
    (fun os started H enc _ => lifted os started H enc)

/-- The statement. -/
theorem proved : Rows.FnExactLogActsSaid :=
  over
#print axioms proved

end Go.Proofs.Ytdecehecjlbbiaa.fnExactLogActs
