/-
  For all signatures (of at most 2^20 bytes in all; more are passed by) the program's SigText and the reference's return the same, and the signature stays: 'FnExactSigText' returns true. No conditions.
-/
import Derived.Test.YtnlddjlbioelnaaFrameG
import Derived.Test.YtnlddjlbioelnaaSig12
import Derived.Test.YtnlddjlbioelnaaSig4
namespace Go.Proofs.Ytnlddjlbioelnaa.fnExactSigText
open Go.ChangeShapes Go.WideShapes Go.ChangeAt Go.RowKit
open Go.ChangeMaps (open_string shut_string)
set_option linter.unusedVariables false

set_option maxHeartbeats 4000000 in
theorem walk (p : Int) (a1 a2 a3 : Option Addr) (c1 c2 c3 : Nat) (o s d : List ByteArray) (w : World) (w1 : IsSig w p a1 a2 a3 c1 c2 c3 o s d) :
    Calls Try.prog 5 #[.agg #[.int .i64 p, .slice a1 o.length c1, .slice a2 s.length c2, .slice a3 d.length c3]] w fun e w' => e = .returned (.bool true) ∧ Below w.heap.size w w' := by
  obtain ⟨_, ⟨_, hm1, he1, r1⟩, ⟨_, hm2, he2, r2⟩, ⟨_, hm3, he3, r3⟩⟩ := w1
  unfold maxLen at hm1 he1 hm2 he2 hm3 he3
  have hB := (Below.refl w.heap.size w).alloc (Nat.le_refl _) (.cells #[.int .i64 p, .slice a1 o.length c1, .slice a2 s.length c2, .slice a3 d.length c3] 41)
  have hz := alloc_size w (.cells #[.int .i64 p, .slice a1 o.length c1, .slice a2 s.length c2, .slice a3 d.length c3] 41)
  have hk0 : ∀ W, Below (w.heap.size + 1) (w.alloc (.cells #[.int .i64 p, .slice a1 o.length c1, .slice a2 s.length c2, .slice a3 d.length c3] 41)) W → W.cell? ⟨w.heap.size, 0, none⟩ = some (.int .i64 p) ∧ W.cell? ⟨w.heap.size, 1, none⟩ = some (.slice a1 o.length c1) ∧ W.cell? ⟨w.heap.size, 2, none⟩ = some (.slice a2 s.length c2) ∧ W.cell? ⟨w.heap.size, 3, none⟩ = some (.slice a3 d.length c3) := by
    intro W hW
    refine ⟨?_, ?_, ?_, ?_⟩ <;> refine (hW.cell (by simp)).trans ?_ <;> simp
  have LS : Hid (∀ W, Below (w.heap.size + 1) (w.alloc (.cells #[.int .i64 p, .slice a1 o.length c1, .slice a2 s.length c2, .slice a3 d.length c3] 41)) W → w.heap.size + 1 ≤ W.heap.size) := Lib.hid fun W hW => by have := hW.size; rw [hz] at this; exact this
  have HB0 := Lib.hid hB
  have HZ := Lib.hid hz
  have K0 := Lib.hid hk0
  clear hk0
  have C1 := Lib.hid (szSig_any p a1 a2 a3 c1 c2 c3 o s d 1048576 (w.alloc (.cells #[.int .i64 p, .slice a1 o.length c1, .slice a2 s.length c2, .slice a3 d.length c3] 41)) hm1 hm2 hm3 he1 he2 he3 (by omega) (by omega) (r1.below hB (Nat.le_refl _)) (r2.below hB (Nat.le_refl _)) (r3.below hB (Nat.le_refl _)))
  have q1 := r1.below hB (Nat.le_refl _)
  have R1 : Hid (∀ W, Below (w.heap.size + 1) (w.alloc (.cells #[.int .i64 p, .slice a1 o.length c1, .slice a2 s.length c2, .slice a3 d.length c3] 41)) W → RdS W a1 o) := Lib.hid fun W hW => q1.below hW (by rw [hz]; exact Nat.le_refl _)
  have q2 := r2.below hB (Nat.le_refl _)
  have R2 : Hid (∀ W, Below (w.heap.size + 1) (w.alloc (.cells #[.int .i64 p, .slice a1 o.length c1, .slice a2 s.length c2, .slice a3 d.length c3] 41)) W → RdS W a2 s) := Lib.hid fun W hW => q2.below hW (by rw [hz]; exact Nat.le_refl _)
  have q3 := r3.below hB (Nat.le_refl _)
  have R3 : Hid (∀ W, Below (w.heap.size + 1) (w.alloc (.cells #[.int .i64 p, .slice a1 o.length c1, .slice a2 s.length c2, .slice a3 d.length c3] 41)) W → RdS W a3 d) := Lib.hid fun W hW => q3.below hW (by rw [hz]; exact Nat.le_refl _)
  by_cases ht : (totS o : Int) + totS s + totS d ≤ 1048576
  · have lo : o.length ≤ 1048576 := by have := totS_eq o; omega
    have ls : s.length ≤ 1048576 := by have := totS_eq s; omega
    have ld : d.length ≤ 1048576 := by have := totS_eq d; omega
    have zo : ∀ x ∈ o, x.size ≤ 1048576 := fun x hx => by have := tot_mem hx; omega
    have zs : ∀ x ∈ s, x.size ≤ 1048576 := fun x hx => by have := tot_mem hx; omega
    have zd : ∀ x ∈ d, x.size ≤ 1048576 := fun x hx => by have := tot_mem hx; omega
    have CS0 := fun v W hv => sSigText_any v p o s d W lo ls ld zo zs zd hv
    have CI0 := fun v W hv => iSigText_any v p o s d W lo ls ld zo zs zd hv
    obtain ⟨tx, tb, hV⟩ : ∃ tx tb, optTxt (sigR p o s d) = .tuple #[.string tx, .bool tb] := by unfold optTxt; split <;> exact ⟨_, _, rfl⟩
    rw [hV] at CS0 CI0
    have u1 : (tx.toList != tx.toList) = false := by simp
    have u2 : (tx.toList == tx.toList) = true := beq_self_eq_true _
    have u3 : (tb != tb) = false := by simp
    clear hV
    have CS := Lib.hid CS0
    have CI := Lib.hid CI0
    clear CS0 CI0
    have CT := Lib.hid (fun W h1 h2 h3 => toSig_any p a1 a2 a3 c1 c2 c3 o s d W lo ls ld h1 h2 h3)
    have CE := Lib.hid (fun v1 v2 W h1 h2 => eqSig_any v1 v2 p o s d W lo ls ld h1 h2)
    rw [szSigV_yes ht] at C1
    have hleft : ¬ ((1048576 : Int) - totS o - totS s - totS d < 0) := by omega
    clear r1 r2 r3 q1 q2 q3 hB hz hm1 hm2 hm3 he1 he2 he3 zo zs zd ht lo ls ld
    generalize (1048576 : Int) - totS o - totS s - totS d = left at *
    go_enter Try.func5, Try.ntmps5
    go_wp2_with fail
    generalize w.alloc (.cells #[.int .i64 p, .slice a1 o.length c1, .slice a2 s.length c2, .slice a3 d.length c3] 41) = Wb at *
    refine C1.out.mono ?_
    rintro e w1 ⟨rfl, hb1⟩
    rw [HZ.out] at hb1
    have HB1 := Lib.hid hb1
    obtain ⟨e0, e1, e2, e3⟩ := K0.out _ HB1.out
    clear hb1
    go_wp2_with fail
    refine (CT.out w1 (R1.out _ HB1.out) (R2.out _ HB1.out) (R3.out _ HB1.out)).mono ?_
    rintro e w2 ⟨⟨v2, _, _, _, rfl, hs2⟩, hb2⟩
    have G2 := Lib.hid hs2.rd
    have HB2 := Lib.hid (HB1.out.trans (hb2.mono (LS.out _ HB1.out)))
    clear hs2 hb2
    clear e0 e1 e2 e3
    go_wp2_with fail
    refine (CS.out v2 w2 G2.out).mono ?_
    rintro e w3 ⟨rfl, hb3⟩
    have HB3 := Lib.hid (HB2.out.trans (hb3.mono (LS.out _ HB2.out)))
    clear hb3 G2
    obtain ⟨e0, e1, e2, e3⟩ := K0.out _ HB3.out
    go_wp2_with fail
    refine (CT.out w3 (R1.out _ HB3.out) (R2.out _ HB3.out) (R3.out _ HB3.out)).mono ?_
    rintro e w4 ⟨⟨v4, vo, vs, vd, rfl, hs4⟩, hb4⟩
    obtain ⟨bo, ko, rfl⟩ := Own.shape hs4.o
    obtain ⟨bs, ks, rfl⟩ := Own.shape hs4.s
    obtain ⟨bd, kd, rfl⟩ := Own.shape hs4.d
    have e4 := hs4.eq
    subst e4
    have hbx := (Below.refl w4.heap.size w4).alloc (Nat.le_refl _) (.cells #[.int .i64 p, .slice bo o.length ko, .slice bs s.length ks, .slice bd d.length kd] 44)
    have hzx := alloc_size w4 (.cells #[.int .i64 p, .slice bo o.length ko, .slice bs s.length ks, .slice bd d.length kd] 44)
    have hk1 : ∀ W, Below (w4.heap.size + 1) (w4.alloc (.cells #[.int .i64 p, .slice bo o.length ko, .slice bs s.length ks, .slice bd d.length kd] 44)) W → W.cell? ⟨w4.heap.size, 0, none⟩ = some (.int .i64 p) ∧ W.cell? ⟨w4.heap.size, 1, none⟩ = some (.slice bo o.length ko) ∧ W.cell? ⟨w4.heap.size, 2, none⟩ = some (.slice bs s.length ks) ∧ W.cell? ⟨w4.heap.size, 3, none⟩ = some (.slice bd d.length kd) := by
      intro W hW
      refine ⟨?_, ?_, ?_, ?_⟩ <;> refine (hW.cell (by simp)).trans ?_ <;> simp
    have h4 := HB3.out.trans (hb4.mono (LS.out _ HB3.out))
    have S4 := Lib.hid (hs4.below hbx (Nat.le_refl _))
    have HB4' := Lib.hid h4
    have HB4 := Lib.hid (h4.trans (hbx.mono (LS.out _ h4)))
    have L34 := Lib.hid hb4.size
    have K1 := Lib.hid hk1
    have ZX := Lib.hid hzx
    clear hs4 hb4 h4 hk1 hbx hzx e0 e1 e2 e3
    go_wp2_with fail
    generalize w4.alloc (.cells #[.int .i64 p, .slice bo o.length ko, .slice bs s.length ks, .slice bd d.length kd] 44) = Wx at *
    refine (CI.out _ Wx S4.out.rd).mono ?_
    rintro e w6 ⟨rfl, hb5⟩
    rw [ZX.out] at hb5
    have S6 := Lib.hid (S4.out.below hb5 (by rw [ZX.out]; exact Nat.le_refl _))
    have HB6 := Lib.hid (HB4.out.trans (hb5.mono (by have := LS.out _ HB4'.out; omega)))
    have L46 : Hid (w4.heap.size + 1 ≤ w6.heap.size) := Lib.hid (by have := hb5.size; rw [ZX.out] at this; exact this)
    have X6 := Lib.hid hb5
    clear hb5 S4
    have HK : Hid (∀ W, Below (w4.heap.size + 1) Wx W → Below (w.heap.size + 1) Wb W → (W.cell? ⟨w4.heap.size, 0, none⟩ = some (.int .i64 p) ∧ W.cell? ⟨w4.heap.size, 1, none⟩ = some (.slice bo o.length ko) ∧ W.cell? ⟨w4.heap.size, 2, none⟩ = some (.slice bs s.length ks) ∧ W.cell? ⟨w4.heap.size, 3, none⟩ = some (.slice bd d.length kd)) ∧ W.cell? ⟨w.heap.size, 0, none⟩ = some (.int .i64 p) ∧ W.cell? ⟨w.heap.size, 1, none⟩ = some (.slice a1 o.length c1) ∧ W.cell? ⟨w.heap.size, 2, none⟩ = some (.slice a2 s.length c2) ∧ W.cell? ⟨w.heap.size, 3, none⟩ = some (.slice a3 d.length c3)) := Lib.hid fun W h1 h2 => ⟨K1.out W h1, K0.out W h2⟩
    obtain ⟨⟨f0, f1, f2, f3⟩, e0, e1, e2, e3⟩ := HK.out _ X6.out HB6.out
    go_wp2_with fail
    go_region_held3 (fun W => (W.cell? ⟨w4.heap.size, 0, none⟩ = some (.int .i64 p) ∧ W.cell? ⟨w4.heap.size, 1, none⟩ = some (.slice bo o.length ko) ∧ W.cell? ⟨w4.heap.size, 2, none⟩ = some (.slice bs s.length ks) ∧ W.cell? ⟨w4.heap.size, 3, none⟩ = some (.slice bd d.length kd)) ∧ W.cell? ⟨w.heap.size, 0, none⟩ = some (.int .i64 p) ∧ W.cell? ⟨w.heap.size, 1, none⟩ = some (.slice a1 o.length c1) ∧ W.cell? ⟨w.heap.size, 2, none⟩ = some (.slice a2 s.length c2) ∧ W.cell? ⟨w.heap.size, 3, none⟩ = some (.slice a3 d.length c3))
      (first | exact HK.out _ X8 HB8 | exact HK.out _ X7 HB7 | go_keep)
      (first
        | (go_at_call 21; refine (CT.out _ ?_ ?_ ?_).mono ?_; (exact R1.out w6 HB6.out); (exact R2.out w6 HB6.out); (exact R3.out w6 HB6.out); rintro e w7 ⟨⟨v7, _, _, _, rfl, hs7⟩, hb7⟩; have hbw7 : Below w6.heap.size w6 w7 := ⟨hb7.os, hb7.tape, hb7.output, hb7.size, hb7.block⟩; have Q7 := Lib.hid hs7.rd; have X7 := X6.out.trans (hbw7.mono L46.out); have HB7 := HB6.out.trans (hbw7.mono (LS.out _ HB6.out)))
        | (go_at_call 23; refine (CE.out _ _ _ ?_ ?_).mono ?_; (exact (S6.out.below hbw7 (Nat.le_refl _)).rd); (exact Q7.out); rintro e w8 ⟨rfl, hb8⟩; have hbw8 : Below w7.heap.size w7 w8 := ⟨hb8.os, hb8.tape, hb8.output, hb8.size, hb8.block⟩; have X8 := X7.trans (hbw8.mono (Nat.le_trans L46.out hbw7.size)); have HB8 := HB7.trans (hbw8.mono (LS.out _ HB7))))
    have HB8 := Lib.hid HB8
    go_wp2_with fail
    go_ret
    exact ⟨rfl, HB0.out.trans (HB8.out.mono (Nat.le_succ _))⟩
  · rw [szSigV_no ht] at C1
    clear r1 r2 r3 q1 q2 q3 hB hz hm1 hm2 hm3 he1 he2 he3 ht
    go_enter Try.func5, Try.ntmps5
    go_wp2_with fail
    refine C1.out.mono ?_
    rintro e w' ⟨rfl, hb⟩
    have HB := Lib.hid (HB0.out.trans (hb.mono HB0.out.size))
    clear hb
    go_wp2_with fail
    go_ret
    exact ⟨rfl, HB.out⟩

theorem own : ownKnob Try.prog.godebug = none := by kernel_rfl
theorem laidOut : laidOutB Try.prog = true := by kernel_rfl

set_option maxRecDepth 100000 in
theorem lifted (os : Os) (started : os.Started) (H : Type) (enc : TypeId × Value → H) :
    ReturnsInHanded {} Try.checked os 5 .any (Rows.fnExactSigTextSpec.pre6 enc Try.prog Try.f5 Rows.fnExactSigTextRow.domain false) (Rows.fnExactSigTextSpec.post enc Try.prog Try.f5 false true false false) := by
  refine returnsInHanded_of_change (C := Try.checked) own started (by kernel_rfl) Try.func5
    (ChangeSpec.witness6 (enc := enc) (C := Try.checked) false ⟨#[], #[.agg #[.int .i64 0, .slice none 0 0, .slice none 0 0, .slice none 0 0]], []⟩ 8 (by kernel_rfl) (by kernel_rfl) (by kernel_rfl) (by kernel_rfl)) ?_
  intro W base args ds gs before hval0 hW hcnd _
  have hval : ∀ (j : Nat) t v, Try.f5.params[j]? = some t → args[j]? = some v → Value.okWide Try.prog W .any base t v := hval0
  have hW' := hW
  obtain ⟨p, q, hA0, hV, rfl, hfz, hnd⟩ := hW
  have hA : DataW.TrodAll enc Try.prog W 0 (fun _ => true) true Try.f5.params.toList args.toList ds p := hA0
  rw [Try.params5] at hA hval
  obtain ⟨v0, vs0, d0, ds0, p0, q0, hargs, rfl, rfl, h0, r0⟩ := trodAll_cons hA
  obtain ⟨rfl, rfl, rfl⟩ := trodAll_nil r0
  obtain rfl : args = #[v0] := by cases args; simp_all
  obtain ⟨rfl, rfl⟩ := trodVars_none hV
  have k0 := h0
  have lt0 : ∀ x ∈ p0, x.block < W.heap.size := by obtain ⟨m, hm⟩ := k0; exact DataW.trod_lt m _ _ _ hm
  obtain ⟨q0, x0, y0, z0, cx0, cy0, cz0, o0, s0, g0, rfl, w0⟩ := isSig_of Try.underlying41 (by kernel_rfl) (by kernel_rfl) Try.underlying3 Try.underlying39 Try.underlying39 Try.underlying39 Try.underlying9 (by kernel_rfl) (hval 0 41 v0 rfl rfl) h0
  clear hA0 hval0
  refine (walk q0 x0 y0 z0 cx0 cy0 cz0 o0 s0 g0 W w0).mono fun e W' ⟨he, bel⟩ => ?_
  subst he
  exact ⟨_, rfl, _, _, _, [], _, [], hW', trodAll_mk1 (shut_bool Try.underlying4 _), (trodAll_cons_mk (Below.trod laidOut (by kernel_rfl) (of_decide_eq_true (by kernel_rfl)) k0 bel lt0) trodAll_mk0), rfl, bel.frame _, fun h => by cases h⟩

theorem over : Rows.fnExactSigTextRow.holds Try.pinned (OpenSpec.ofChange Rows.fnExactSigTextSpec) :=
  OpenClaim.holds_of_wide 5 Try.f5 rfl rfl rfl rfl rfl rfl rfl ⟨rfl, rfl, rfl, rfl, rfl⟩ rfl rfl rfl rfl rfl (by kernel_rfl) Try.func5 (by kernel_rfl)
    (of_decide_eq_true (by kernel_rfl)) (by unfold Func.isWrapper; first | (rw [if_pos (by decide +kernel)]; kernel_rfl) | (rw [if_neg (by decide +kernel)]; exact ⟨rfl, rfl⟩))
    (fun os started H enc _ => lifted os started H enc)

/-- The statement. -/
theorem proved : Rows.FnExactSigTextSaid :=
  over
#print axioms proved

end Go.Proofs.Ytnlddjlbioelnaa.fnExactSigText
