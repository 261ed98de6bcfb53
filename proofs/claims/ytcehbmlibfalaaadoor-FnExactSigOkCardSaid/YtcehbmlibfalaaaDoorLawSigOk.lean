/-
  For all roots, texts and signatures (of at most 2^20 bytes in all; more are passed by) the program's SigOk and the reference's return the same, and the signature stays: 'FnExactSigOk' returns true. No conditions.
-/
import Derived.Test.YtcehbmlibfalaaaDoorFrameT
import Derived.Test.YtcehbmlibfalaaaDoorFrameG
import Derived.Test.YtcehbmlibfalaaaDoorSig10
namespace Go.Proofs.YtcehbmlibfalaaaDoor.fnExactSigOk
open Go.ChangeShapes Go.WideShapes Go.ChangeAt Go.RowKit
open Go.ChangeMaps (open_string shut_string)
set_option linter.unusedVariables false

set_option maxHeartbeats 4000000 in
theorem walk (ar a0 : ByteArray) (p : Int) (a1 a2 a3 : Option Addr) (c1 c2 c3 : Nat) (o s d : List ByteArray) (w : World) (wr : ar.size ≤ maxLen) (w0 : a0.size ≤ maxLen) (w1 : IsSig w p a1 a2 a3 c1 c2 c3 o s d) (hL : laidMetH Tryd.prog Rows.fnExactSigOkRow.laid w) :
    Calls Tryd.prog 7 #[.string ar, .string a0, .agg #[.int .i64 p, .slice a1 o.length c1, .slice a2 s.length c2, .slice a3 d.length c3]] w fun e w' => e = .returned (.bool true) ∧ Below w.heap.size w w' := by
  have hT := tabsMet hL
  obtain ⟨_, ⟨_, hm1, he1, r1⟩, ⟨_, hm2, he2, r2⟩, ⟨_, hm3, he3, r3⟩⟩ := w1
  unfold maxLen at wr w0 hm1 he1 hm2 he2 hm3 he3
  have hB := (Below.refl w.heap.size w).alloc (Nat.le_refl _) (.cells #[.int .i64 p, .slice a1 o.length c1, .slice a2 s.length c2, .slice a3 d.length c3] 43)
  have hz := alloc_size w (.cells #[.int .i64 p, .slice a1 o.length c1, .slice a2 s.length c2, .slice a3 d.length c3] 43)
  have hk0 : ∀ W, Below (w.heap.size + 1) (w.alloc (.cells #[.int .i64 p, .slice a1 o.length c1, .slice a2 s.length c2, .slice a3 d.length c3] 43)) W → W.cell? ⟨w.heap.size, 0, none⟩ = some (.int .i64 p) ∧ W.cell? ⟨w.heap.size, 1, none⟩ = some (.slice a1 o.length c1) ∧ W.cell? ⟨w.heap.size, 2, none⟩ = some (.slice a2 s.length c2) ∧ W.cell? ⟨w.heap.size, 3, none⟩ = some (.slice a3 d.length c3) := by
    intro W hW
    refine ⟨?_, ?_, ?_, ?_⟩ <;> refine (hW.cell (by simp)).trans ?_ <;> simp
  have hTB := hT.below hB (Nat.le_refl _)
  have HT : Hid (∀ W, Below (w.heap.size + 1) (w.alloc (.cells #[.int .i64 p, .slice a1 o.length c1, .slice a2 s.length c2, .slice a3 d.length c3] 43)) W → YtcehbmlibfalaaaDoorTabs W) := Lib.hid fun W hW => hTB.below hW (by rw [hz]; exact Nat.le_refl _)
  have LS : Hid (∀ W, Below (w.heap.size + 1) (w.alloc (.cells #[.int .i64 p, .slice a1 o.length c1, .slice a2 s.length c2, .slice a3 d.length c3] 43)) W → w.heap.size + 1 ≤ W.heap.size) := Lib.hid fun W hW => by have := hW.size; rw [hz] at this; exact this
  have HB0 := Lib.hid hB
  have HZ := Lib.hid hz
  have K0 := Lib.hid hk0
  clear hL hT hTB hk0
  by_cases hr : ar.size ≤ 1048576
  · by_cases h0 : a0.size ≤ 1048576
    · have C1 := Lib.hid (szSig_any p a1 a2 a3 c1 c2 c3 o s d 1048576 (w.alloc (.cells #[.int .i64 p, .slice a1 o.length c1, .slice a2 s.length c2, .slice a3 d.length c3] 43)) hm1 hm2 hm3 he1 he2 he3 (by omega) (by omega) (r1.below hB (Nat.le_refl _)) (r2.below hB (Nat.le_refl _)) (r3.below hB (Nat.le_refl _)))
      have q1 := r1.below hB (Nat.le_refl _)
      have R1 : Hid (∀ W, Below (w.heap.size + 1) (w.alloc (.cells #[.int .i64 p, .slice a1 o.length c1, .slice a2 s.length c2, .slice a3 d.length c3] 43)) W → RdS W a1 o) := Lib.hid fun W hW => q1.below hW (by rw [hz]; exact Nat.le_refl _)
      have q2 := r2.below hB (Nat.le_refl _)
      have R2 : Hid (∀ W, Below (w.heap.size + 1) (w.alloc (.cells #[.int .i64 p, .slice a1 o.length c1, .slice a2 s.length c2, .slice a3 d.length c3] 43)) W → RdS W a2 s) := Lib.hid fun W hW => q2.below hW (by rw [hz]; exact Nat.le_refl _)
      have q3 := r3.below hB (Nat.le_refl _)
      have R3 : Hid (∀ W, Below (w.heap.size + 1) (w.alloc (.cells #[.int .i64 p, .slice a1 o.length c1, .slice a2 s.length c2, .slice a3 d.length c3] 43)) W → RdS W a3 d) := Lib.hid fun W hW => q3.below hW (by rw [hz]; exact Nat.le_refl _)
      by_cases ht : (totS o : Int) + totS s + totS d ≤ 1048576
      · have lo : o.length ≤ 1048576 := by have := totS_eq o; omega
        have ls : s.length ≤ 1048576 := by have := totS_eq s; omega
        have ld : d.length ≤ 1048576 := by have := totS_eq d; omega
        have zo : ∀ x ∈ o, x.size ≤ 1048576 := fun x hx => by have := tot_mem hx; omega
        have zs : ∀ x ∈ s, x.size ≤ 1048576 := fun x hx => by have := tot_mem hx; omega
        have zd : ∀ x ∈ d, x.size ≤ 1048576 := fun x hx => by have := tot_mem hx; omega
        have CS0 := fun v W hv => sSigOk_any ar a0 h0 v p o s d W lo ls ld zo zs zd hv
        have CI0 := fun v W hv hx => iSigOk_any ar a0 h0 v p o s d W lo ls ld zo zs zd hv hx
        generalize sigOk ar a0 p o s d = T at *
        have CS := Lib.hid CS0
        have CI := Lib.hid CI0
        clear CS0 CI0
        have CT := Lib.hid (fun W h1 h2 h3 => toSig_any p a1 a2 a3 c1 c2 c3 o s d W lo ls ld h1 h2 h3)
        have CE := Lib.hid (fun v1 v2 W h1 h2 => eqSig_any v1 v2 p o s d W lo ls ld h1 h2)
        rw [szSigV_yes ht] at C1
        have hleft : ¬ ((1048576 : Int) - totS o - totS s - totS d < 0) := by omega
        clear r1 r2 r3 q1 q2 q3 hB hz hm1 hm2 hm3 he1 he2 he3 zo zs zd ht lo ls ld
        generalize (1048576 : Int) - totS o - totS s - totS d = left at *
        go_enter Tryd.func7, Tryd.ntmps7
        go_wp2_with fail
        generalize w.alloc (.cells #[.int .i64 p, .slice a1 o.length c1, .slice a2 s.length c2, .slice a3 d.length c3] 43) = Wb at *
        refine C1.out.mono ?_
        rintro e w1 ⟨rfl, hb1⟩
        rw [HZ.out] at hb1
        have HB1 := Lib.hid hb1
        obtain ⟨e0, e1, e2, e3⟩ := K0.out _ HB1.out
        clear hb1
        go_wp2_with fail
        refine (CT.out w1 (R1.out _ HB1.out) (R2.out _ HB1.out) (R3.out _ HB1.out)).mono ?_
        rintro e w2 ⟨⟨v2, _, _, _, rfl, hs2⟩, hb2⟩
        have G2 := Lib.hid hs2.rd
        have HB2 := Lib.hid (HB1.out.trans (hb2.mono (LS.out _ HB1.out)))
        clear hs2 hb2
        clear e0 e1 e2 e3
        go_wp2_with fail
        refine (CS.out v2 w2 G2.out).mono ?_
        rintro e w3 ⟨rfl, hb3⟩
        have HB3 := Lib.hid (HB2.out.trans (hb3.mono (LS.out _ HB2.out)))
        clear hb3 G2
        obtain ⟨e0, e1, e2, e3⟩ := K0.out _ HB3.out
        go_wp2_with fail
        refine (CT.out w3 (R1.out _ HB3.out) (R2.out _ HB3.out) (R3.out _ HB3.out)).mono ?_
        rintro e w4 ⟨⟨v4, vo, vs, vd, rfl, hs4⟩, hb4⟩
        obtain ⟨bo, ko, rfl⟩ := Own.shape hs4.o
        obtain ⟨bs, ks, rfl⟩ := Own.shape hs4.s
        obtain ⟨bd, kd, rfl⟩ := Own.shape hs4.d
        have e4 := hs4.eq
        subst e4
        have hbx := (Below.refl w4.heap.size w4).alloc (Nat.le_refl _) (.cells #[.int .i64 p, .slice bo o.length ko, .slice bs s.length ks, .slice bd d.length kd] 46)
        have hzx := alloc_size w4 (.cells #[.int .i64 p, .slice bo o.length ko, .slice bs s.length ks, .slice bd d.length kd] 46)
        have hk1 : ∀ W, Below (w4.heap.size + 1) (w4.alloc (.cells #[.int .i64 p, .slice bo o.length ko, .slice bs s.length ks, .slice bd d.length kd] 46)) W → W.cell? ⟨w4.heap.size, 0, none⟩ = some (.int .i64 p) ∧ W.cell? ⟨w4.heap.size, 1, none⟩ = some (.slice bo o.length ko) ∧ W.cell? ⟨w4.heap.size, 2, none⟩ = some (.slice bs s.length ks) ∧ W.cell? ⟨w4.heap.size, 3, none⟩ = some (.slice bd d.length kd) := by
          intro W hW
          refine ⟨?_, ?_, ?_, ?_⟩ <;> refine (hW.cell (by simp)).trans ?_ <;> simp
        have h4 := HB3.out.trans (hb4.mono (LS.out _ HB3.out))
        have S4 := Lib.hid (hs4.below hbx (Nat.le_refl _))
        have HB4' := Lib.hid h4
        have HB4 := Lib.hid (h4.trans (hbx.mono (LS.out _ h4)))
        have L34 := Lib.hid hb4.size
        have K1 := Lib.hid hk1
        have ZX := Lib.hid hzx
        clear hs4 hb4 h4 hk1 hbx hzx e0 e1 e2 e3
        go_wp2_with fail
        generalize w4.alloc (.cells #[.int .i64 p, .slice bo o.length ko, .slice bs s.length ks, .slice bd d.length kd] 46) = Wx at *
        refine (CI.out _ Wx S4.out.rd (HT.out _ HB4.out)).mono ?_
        rintro e w6 ⟨rfl, hb5⟩
        rw [ZX.out] at hb5
        have S6 := Lib.hid (S4.out.below hb5 (by rw [ZX.out]; exact Nat.le_refl _))
        have HB6 := Lib.hid (HB4.out.trans (hb5.mono (by have := LS.out _ HB4'.out; omega)))
        have L46 : Hid (w4.heap.size + 1 ≤ w6.heap.size) := Lib.hid (by have := hb5.size; rw [ZX.out] at this; exact this)
        have X6 := Lib.hid hb5
        clear hb5 S4
        have HK : Hid (∀ W, Below (w4.heap.size + 1) Wx W → Below (w.heap.size + 1) Wb W → (W.cell? ⟨w4.heap.size, 0, none⟩ = some (.int .i64 p) ∧ W.cell? ⟨w4.heap.size, 1, none⟩ = some (.slice bo o.length ko) ∧ W.cell? ⟨w4.heap.size, 2, none⟩ = some (.slice bs s.length ks) ∧ W.cell? ⟨w4.heap.size, 3, none⟩ = some (.slice bd d.length kd)) ∧ W.cell? ⟨w.heap.size, 0, none⟩ = some (.int .i64 p) ∧ W.cell? ⟨w.heap.size, 1, none⟩ = some (.slice a1 o.length c1) ∧ W.cell? ⟨w.heap.size, 2, none⟩ = some (.slice a2 s.length c2) ∧ W.cell? ⟨w.heap.size, 3, none⟩ = some (.slice a3 d.length c3)) := Lib.hid fun W h1 h2 => ⟨K1.out W h1, K0.out W h2⟩
        obtain ⟨⟨f0, f1, f2, f3⟩, e0, e1, e2, e3⟩ := HK.out _ X6.out HB6.out
        go_wp2_with fail
        go_region_held3 (fun W => (W.cell? ⟨w4.heap.size, 0, none⟩ = some (.int .i64 p) ∧ W.cell? ⟨w4.heap.size, 1, none⟩ = some (.slice bo o.length ko) ∧ W.cell? ⟨w4.heap.size, 2, none⟩ = some (.slice bs s.length ks) ∧ W.cell? ⟨w4.heap.size, 3, none⟩ = some (.slice bd d.length kd)) ∧ W.cell? ⟨w.heap.size, 0, none⟩ = some (.int .i64 p) ∧ W.cell? ⟨w.heap.size, 1, none⟩ = some (.slice a1 o.length c1) ∧ W.cell? ⟨w.heap.size, 2, none⟩ = some (.slice a2 s.length c2) ∧ W.cell? ⟨w.heap.size, 3, none⟩ = some (.slice a3 d.length c3))
          (first | exact HK.out _ X8 HB8 | exact HK.out _ X7 HB7 | go_keep)
          (first
            | (go_at_call 32; refine (CT.out _ ?_ ?_ ?_).mono ?_; (exact R1.out w6 HB6.out); (exact R2.out w6 HB6.out); (exact R3.out w6 HB6.out); rintro e w7 ⟨⟨v7, _, _, _, rfl, hs7⟩, hb7⟩; have hbw7 : Below w6.heap.size w6 w7 := ⟨hb7.os, hb7.tape, hb7.output, hb7.size, hb7.block⟩; have Q7 := Lib.hid hs7.rd; have X7 := X6.out.trans (hbw7.mono L46.out); have HB7 := HB6.out.trans (hbw7.mono (LS.out _ HB6.out)))
            | (go_at_call 34; refine (CE.out _ _ _ ?_ ?_).mono ?_; (exact (S6.out.below hbw7 (Nat.le_refl _)).rd); (exact Q7.out); rintro e w8 ⟨rfl, hb8⟩; have hbw8 : Below w7.heap.size w7 w8 := ⟨hb8.os, hb8.tape, hb8.output, hb8.size, hb8.block⟩; have X8 := X7.trans (hbw8.mono (Nat.le_trans L46.out hbw7.size)); have HB8 := HB7.trans (hbw8.mono (LS.out _ HB7))))
        have HB8 := Lib.hid HB8
        go_wp2_with fail
        go_ret
        exact ⟨rfl, HB0.out.trans (HB8.out.mono (Nat.le_succ _))⟩
      · rw [szSigV_no ht] at C1
        clear r1 r2 r3 q1 q2 q3 hB hz hm1 hm2 hm3 he1 he2 he3 ht
        go_enter Tryd.func7, Tryd.ntmps7
        go_wp2_with fail
        refine C1.out.mono ?_
        rintro e w' ⟨rfl, hb⟩
        have HB := Lib.hid (HB0.out.trans (hb.mono HB0.out.size))
        clear hb
        go_wp2_with fail
        go_ret
        exact ⟨rfl, HB.out⟩
    · clear r1 r2 r3 hm1 hm2 hm3 he1 he2 he3 hB hz
      go_enter Tryd.func7, Tryd.ntmps7
      go_wp2_with fail
      go_ret
      exact ⟨rfl, HB0.out⟩
  · clear r1 r2 r3 hm1 hm2 hm3 he1 he2 he3 hB hz
    go_enter Tryd.func7, Tryd.ntmps7
    go_wp2_with fail
    go_ret
    exact ⟨rfl, HB0.out⟩

theorem own : ownKnob Tryd.prog.godebug = none := by kernel_rfl
theorem laidOut : laidOutB Tryd.prog = true := by kernel_rfl
theorem fine : fineVars Tryd.prog Rows.fnExactSigOkSpec.vars = true := by kernel_rfl

theorem contract (H : Type) (enc : TypeId × Value → H) (W : World) (base : Nat) (args : Array Value) (ds gs : List (DataW H)) (before : List MemPlace)
    (hval0 : ∀ (j : Nat) t v, Tryd.f7.params[j]? = some t → args[j]? = some v → Value.okWide Tryd.prog W .any base t v)
    (hW : DataW.Whole enc Tryd.prog Tryd.f7.params.toList Rows.fnExactSigOkSpec.vars false W args.toList ds gs before) (hL : laidMetH Tryd.prog Rows.fnExactSigOkRow.laid W) :
    Calls Tryd.prog 7 args W fun e W' => ∃ v, e = .returned v ∧ Rows.fnExactSigOkSpec.post enc Tryd.prog Tryd.f7 false true false false W args v W' := by
  have hval : ∀ (j : Nat) t v, Tryd.f7.params[j]? = some t → args[j]? = some v → Value.okWide Tryd.prog W .any base t v := hval0
  have hW' := hW
  obtain ⟨p, q, hA0, hV, rfl, hfz, hnd⟩ := hW
  have hA : DataW.TrodAll enc Tryd.prog W 0 (fun _ => true) true Tryd.f7.params.toList args.toList ds p := hA0
  rw [Tryd.params7] at hA hval
  obtain ⟨v0, vs0, d0, ds0, p0, q0, hargs, rfl, rfl, h0, r0⟩ := trodAll_cons hA
  obtain ⟨v1, vs1, d1, ds1, p1, q1, rfl, rfl, rfl, h1, r1⟩ := trodAll_cons r0
  obtain ⟨v2, vs2, d2, ds2, p2, q2, rfl, rfl, rfl, h2, r2⟩ := trodAll_cons r1
  obtain ⟨rfl, rfl, rfl⟩ := trodAll_nil r2
  obtain rfl : args = #[v0, v1, v2] := by cases args; simp_all
  have hVlt : ∀ x ∈ q, x.block < W.heap.size := hV.lt
  have hV1 := hV
  obtain ⟨g0, gr0, gq0, rfl, hV2⟩ := trodVars_cons hV1
  obtain ⟨g1, gr1, gq1, rfl, hV3⟩ := trodVars_cons hV2
  obtain ⟨rfl, -⟩ := trodVars_none hV3
  have k0 := h0
  have lt0 : ∀ x ∈ p0, x.block < W.heap.size := by obtain ⟨m, hm⟩ := k0; exact DataW.trod_lt m _ _ _ hm
  obtain ⟨a0, rfl, rfl, rfl, w0⟩ := open_string Tryd.underlying9 (hval 0 9 v0 rfl rfl) h0
  have k1 := h1
  have lt1 : ∀ x ∈ p1, x.block < W.heap.size := by obtain ⟨m, hm⟩ := k1; exact DataW.trod_lt m _ _ _ hm
  obtain ⟨a1, rfl, rfl, rfl, w1⟩ := open_string Tryd.underlying9 (hval 1 9 v1 rfl rfl) h1
  have k2 := h2
  have lt2 : ∀ x ∈ p2, x.block < W.heap.size := by obtain ⟨m, hm⟩ := k2; exact DataW.trod_lt m _ _ _ hm
  obtain ⟨q2, x2, y2, z2, cx2, cy2, cz2, o2, s2, g2, rfl, w2⟩ := isSig_of Tryd.underlying43 (by kernel_rfl) (by kernel_rfl) Tryd.underlying3 Tryd.underlying24 Tryd.underlying24 Tryd.underlying24 Tryd.underlying9 (by kernel_rfl) (hval 2 43 v2 rfl rfl) h2
  clear hA0 hval0
  refine (walk a0 a1 q2 x2 y2 z2 cx2 cy2 cz2 o2 s2 g2 W w0 w1 w2 hL).mono fun e W' ⟨he, bel⟩ => ?_
  subst he
  exact ⟨_, rfl, _, _, _, [], _, q, hW', trodAll_mk1 (shut_bool Tryd.underlying4 _), (trodAll_cons_mk (Below.trod laidOut (by kernel_rfl) (of_decide_eq_true (by kernel_rfl)) k0 bel lt0) (trodAll_cons_mk (Below.trod laidOut (by kernel_rfl) (of_decide_eq_true (by kernel_rfl)) k1 bel lt1) (trodAll_cons_mk (Below.trod laidOut (by kernel_rfl) (of_decide_eq_true (by kernel_rfl)) k2 bel lt2) trodAll_mk0))), trodVars_stays laidOut bel fine hV hVlt, bel.frame _, fun h => by cases h⟩

noncomputable def laidWorld (os : Os) : World :=
  { World.holding Tryd.prog os ⟨#[], #[], []⟩ with heap := (((World.holding Tryd.prog os ⟨#[], #[], []⟩).heap.modify 1 fun
      | .cells _ t frozen => .cells #[.int .u32 1116352408, .int .u32 1899447441, .int .u32 3049323471, .int .u32 3921009573, .int .u32 961987163, .int .u32 1508970993, .int .u32 2453635748, .int .u32 2870763221, .int .u32 3624381080, .int .u32 310598401, .int .u32 607225278, .int .u32 1426881987, .int .u32 1925078388, .int .u32 2162078206, .int .u32 2614888103, .int .u32 3248222580, .int .u32 3835390401, .int .u32 4022224774, .int .u32 264347078, .int .u32 604807628, .int .u32 770255983, .int .u32 1249150122, .int .u32 1555081692, .int .u32 1996064986, .int .u32 2554220882, .int .u32 2821834349, .int .u32 2952996808, .int .u32 3210313671, .int .u32 3336571891, .int .u32 3584528711, .int .u32 113926993, .int .u32 338241895, .int .u32 666307205, .int .u32 773529912, .int .u32 1294757372, .int .u32 1396182291, .int .u32 1695183700, .int .u32 1986661051, .int .u32 2177026350, .int .u32 2456956037, .int .u32 2730485921, .int .u32 2820302411, .int .u32 3259730800, .int .u32 3345764771, .int .u32 3516065817, .int .u32 3600352804, .int .u32 4094571909, .int .u32 275423344, .int .u32 430227734, .int .u32 506948616, .int .u32 659060556, .int .u32 883997877, .int .u32 958139571, .int .u32 1322822218, .int .u32 1537002063, .int .u32 1747873779, .int .u32 1955562222, .int .u32 2024104815, .int .u32 2227730452, .int .u32 2361852424, .int .u32 2428436474, .int .u32 2756734187, .int .u32 3204031479, .int .u32 3329325298] t frozen
      | o => o).modify 0 fun
      | .cells _ t frozen => .cells #[.int .u32 1779033703, .int .u32 3144134277, .int .u32 1013904242, .int .u32 2773480762, .int .u32 1359893119, .int .u32 2600822924, .int .u32 528734635, .int .u32 1541459225] t frozen
      | o => o) }
theorem laid_met (os : Os) : laidMet Tryd.prog Rows.fnExactSigOkRow.laid ((laidWorld os).forCall (fun _ _ => 0) ⟨#[], #[.string ByteArray.empty, .string ByteArray.empty, .agg #[.int .i64 0, .slice none 0 0, .slice none 0 0, .slice none 0 0]], []⟩).memory :=
  laidMet_of_run' 8 (by kernel_rfl) (by kernel_rfl)
set_option maxRecDepth 100000 in
theorem reads (os : Os) {H : Type} (enc : TypeId × Value → H) : ∃ places, DataW.whole enc Tryd.prog ((laidWorld os).forCall (fun _ _ => 0) ⟨#[], #[.string ByteArray.empty, .string ByteArray.empty, .agg #[.int .i64 0, .slice none 0 0, .slice none 0 0, .slice none 0 0]], []⟩).memory Tryd.f7.params.toList Rows.fnExactSigOkSpec.vars false (#[.string ByteArray.empty, .string ByteArray.empty, .agg #[.int .i64 0, .slice none 0 0, .slice none 0 0, .slice none 0 0]] : Array Value).toList 8 = some ([.lit (.string []), .lit (.string []), .agg [.lit (.int .i64 0), .nil, .nil, .nil]], [Rows.laid_loop_example_g00284_impl_startWords, Rows.laid_loop_example_g00284_impl_roundWords], places) :=
  ⟨MemPlace.row ⟨0, 0, none⟩ 8 ++ MemPlace.row ⟨1, 0, none⟩ 64, by kernel_rfl⟩

set_option maxRecDepth 100000 in
theorem lifted (os : Os) (started : os.Started) (H : Type) (enc : TypeId × Value → H) (F : Stop.Interp) :
    ReturnsInHanded {} Tryd.checked os 7 .any ((OpenSpec.ofChange Rows.fnExactSigOkSpec).preRow enc Tryd.prog Tryd.f7 Rows.fnExactSigOkRow.domain false Rows.fnExactSigOkRow.laid) (((OpenSpec.ofChange Rows.fnExactSigOkSpec).at F).post enc Tryd.prog Tryd.f7 false true false false) := by
  obtain ⟨places, hx⟩ := reads os enc
  refine returnsInHanded_of_row (C := Tryd.checked) (s := OpenSpec.ofChange Rows.fnExactSigOkSpec) own started (by kernel_rfl) Tryd.func7
    (witness_row_at (enc := enc) (C := Tryd.checked) false (laidWorld os) #[.string ByteArray.empty, .string ByteArray.empty, .agg #[.int .i64 0, .slice none 0 0, .slice none 0 0, .slice none 0 0]] rfl (by kernel_rfl) (by kernel_rfl) (by kernel_rfl)
      (OpenSpec.preRow_of_cond 8 hx (by kernel_rfl) (fun k hk => by cases hk) (by kernel_rfl) (laid_met os))) ?_
  intro W base args ds gs before hval hW _ _ _ hL _ _
  exact contract H enc W base args ds gs before hval hW hL

theorem said : Rows.FnExactSigOkSaid :=
  OpenClaim.holds_of_cond 7 Tryd.f7 rfl rfl rfl rfl rfl rfl rfl ⟨rfl, rfl, rfl, rfl, rfl⟩ rfl rfl rfl rfl rfl (by kernel_rfl) Tryd.func7 (by kernel_rfl)
    (of_decide_eq_true (by kernel_rfl)) (by unfold Func.isWrapper; first | (rw [if_pos (by decide +kernel)]; kernel_rfl) | (rw [if_neg (by decide +kernel)]; exact ⟨rfl, rfl⟩))
    (fun os started H enc _ F => by rw [OpenClaim.pre_eq_preRow]; exact lifted os started H enc F)

theorem plain (f : FuncId) (fn : Func) (hf : Tryd.pinned.checked.prog.funcNamed "loop.example/g00284/laws.FnExactSigOk" = some f) (hfn : Tryd.pinned.checked.prog.funcs[f]? = some fn) :
    false = Tryd.pinned.checked.prog.looks [] ∧ ∀ (j : Nat) t, fn.params[j]? = some t → Tryd.pinned.checked.prog.wantsStandIn t = false := by
  obtain rfl : f = 7 := Option.some.inj ((show Tryd.prog.funcNamed "loop.example/g00284/laws.FnExactSigOk" = some 7 by kernel_rfl).symm.trans hf) |>.symm
  obtain rfl : fn = Tryd.f7 := (Option.some.inj (Tryd.func7.symm.trans hfn)).symm
  refine ⟨by kernel_rfl, fun j t ht => ?_⟩
  rw [Tryd.params7] at ht
  obtain rfl | rfl : t = 9 ∨ t = 43 := by simpa using Array.mem_of_getElem? ht
  all_goals first | exact (show Tryd.prog.wantsStandIn 9 = false by kernel_rfl) | exact (show Tryd.prog.wantsStandIn 43 = false by kernel_rfl)

/-- The statement: the card. -/
theorem proved : Rows.FnExactSigOkCardSaid :=
  Claim7.holds_tied_plain_at .later [] _ _ _ _ said (fun _ h => by cases h) (by kernel_rfl) (fun _ h => by cases h) fnExactSigOk_row_tie rfl ⟨rfl, rfl⟩ (by kernel_rfl) rfl plain (by kernel_rfl)
#print axioms proved

end Go.Proofs.YtcehbmlibfalaaaDoor.fnExactSigOk
