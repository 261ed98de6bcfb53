/-
  For every text of at most 2^20 bytes (a longer one is passed by) the program's ReadSig and the reference's return the same, and what the program handed out is its caller's: 'FnExactReadSig' returns true. No conditions.
-/
import Derived.Test.YtnlddjlbioelnaaFrame
import Derived.Test.YtnlddjlbioelnaaRead3
namespace Go.Proofs.Ytnlddjlbioelnaa.fnExactReadSig
open Go.ChangeShapes Go.WideShapes Go.ChangeAt Go.RowKit
open Go.ChangeMaps (open_string shut_string)
set_option linter.unusedVariables false

set_option maxHeartbeats 4000000 in
theorem walk (a0 : ByteArray) (w : World) (w0 : a0.size ≤ maxLen) :
    Calls Try.prog 6 #[.string a0] w fun e w' => e = .returned (.bool true) ∧ Below w.heap.size w w' := by
  unfold maxLen at w0
  by_cases hs : a0.size ≤ 1048576
  · obtain ⟨p, o, s, d, b, hr⟩ : ∃ p o s d b, readV a0 = (p, o, s, d, b) := ⟨_, _, _, _, _, rfl⟩
    have hl : o.length ≤ 8 ∧ s.length ≤ 8 ∧ d.length ≤ 8 := by
      unfold readV at hr
      split at hr
      · injection hr with hr1 hr
        injection hr with hr2 hr
        injection hr with hr3 hr
        injection hr with hr4 hr5
        subst hr2; subst hr3; subst hr4
        simp only [cutsL_len]
        omega
      · injection hr with hr1 hr
        injection hr with hr2 hr
        injection hr with hr3 hr
        injection hr with hr4 hr5
        subst hr2; subst hr3; subst hr4
        simp
    obtain ⟨lo, ls, ld⟩ := hl
    have CS := Lib.hid (fun W => sReadSig_any a0 hs p o s d b hr W)
    have CI := Lib.hid (fun W => iReadSig_any a0 hs p o s d b hr W)
    have CE := Lib.hid (fun v1 v2 W h1 h2 => eqSig_any v1 v2 p o s d W (by omega) (by omega) (by omega) h1 h2)
    have CM := Lib.hid (fun v vo vs vd B C W hC h => markSig_any v p vo vs vd o s d B C 1 W hC (by omega) (by omega) (by omega) (by omega) (by omega) h)
    have CH := Lib.hid (fun v W h => heldSig_any v p o.length s.length d.length 1 W (by omega) (by omega) (by omega) (by omega) (by omega) h)
    have e1 : (b != b) = false := by simp
    have e2 : (((1 : Int) + o.length + s.length + d.length) != ((1 : Int) + o.length + s.length + d.length)) = false := by simp
    have hnn : ¬ ((1 : Int) + o.length + s.length + d.length < 0) := by omega
    clear hr
    simp only [Int.natCast_one] at CM CH
    generalize hx : (1 : Int) + o.length + s.length + d.length = X at *
    clear hx
    go_enter Try.func6, Try.ntmps6
    go_wp2_with fail
    refine (CS.out _).mono ?_
    rintro e w1 ⟨⟨v1, rfl, r1⟩, hb1⟩
    obtain ⟨a1, c1, a2, c2, a3, c3, rfl, q1, q2, q3⟩ := r1
    have hbx := (Below.refl w1.heap.size w1).alloc (Nat.le_refl _) (.cells #[.int .i64 p, .slice a1 o.length c1, .slice a2 s.length c2, .slice a3 d.length c3] 44)
    have hzx := alloc_size w1 (.cells #[.int .i64 p, .slice a1 o.length c1, .slice a2 s.length c2, .slice a3 d.length c3] 44)
    have R1 : Hid (RdSig w1 _ p o s d) := Lib.hid ⟨a1, c1, a2, c2, a3, c3, rfl, q1, q2, q3⟩
    have B1 := Lib.hid (Blk.new w1 44 [.int .i64 p, .slice a1 o.length c1, .slice a2 s.length c2, .slice a3 d.length c3] _ rfl)
    have HB1 := Lib.hid (hb1.trans (hbx.mono hb1.size))
    have HX := Lib.hid hbx
    have HZ := Lib.hid hzx
    have L01 := Lib.hid hb1.size
    clear q1 q2 q3 hb1 hbx hzx
    go_wp2_with fail
    refine (CI.out _).mono ?_
    rintro e w2 ⟨⟨v2, vo, vs, vd, rfl, s2⟩, hb2⟩
    obtain ⟨bo, ko, rfl⟩ := Own.shape s2.o
    obtain ⟨bs, ks, rfl⟩ := Own.shape s2.s
    obtain ⟨bd, kd, rfl⟩ := Own.shape s2.d
    obtain rfl := s2.eq
    rw [HZ.out] at s2 hb2
    have hbx := (Below.refl w2.heap.size w2).alloc (Nat.le_refl _) (.cells #[.int .i64 p, .slice bo o.length ko, .slice bs s.length ks, .slice bd d.length kd] 44)
    have hzx := alloc_size w2 (.cells #[.int .i64 p, .slice bo o.length ko, .slice bs s.length ks, .slice bd d.length kd] 44)
    have h12 : w1.heap.size + 1 ≤ w2.heap.size := by have := hb2.size; rw [HZ.out] at this; exact this
    have R2 := Lib.hid (((R1.out.below HX.out (Nat.le_refl _)).below hb2 (by rw [HZ.out]; exact Nat.le_refl _)).below hbx (Nat.le_refl _))
    have S2 := Lib.hid (s2.below hbx (Nat.le_refl _))
    have B2 := Lib.hid ((B1.out.below hb2 (by omega)).below hbx (by omega))
    have C2 := Lib.hid (Blk.new w2 44 [.int .i64 p, .slice bo o.length ko, .slice bs s.length ks, .slice bd d.length kd] _ rfl)
    have HB2 := Lib.hid (HB1.out.trans ((hb2.mono (by have := L01.out; omega)).trans (hbx.mono (by have := L01.out; omega))))
    have HY := Lib.hid hzx
    have L12 := Lib.hid h12
    clear s2 hb2 hbx hzx h12
    have x0 := B2.out.cell 0
    have x1 := B2.out.cell 1
    have x2 := B2.out.cell 2
    have x3 := B2.out.cell 3
    simp only [List.getElem?_cons_zero, List.getElem?_cons_succ] at x0 x1 x2 x3
    go_wp2_with fail
    refine (CE.out _ _ _ S2.out.rd R2.out).mono ?_
    rintro e w3 ⟨rfl, hb3⟩
    rw [HY.out] at hb3
    have S3 := Lib.hid (S2.out.below hb3 (by rw [HY.out]; exact Nat.le_refl _))
    have R3 := Lib.hid (R2.out.below hb3 (by rw [HY.out]; exact Nat.le_refl _))
    have B3 := Lib.hid (B2.out.below hb3 (by have := L12.out; omega))
    have C3 := Lib.hid (C2.out.below hb3 (by omega))
    have h23 : w2.heap.size + 1 ≤ w3.heap.size := by have := hb3.size; rw [HY.out] at this; exact this
    have HB3 := Lib.hid (HB2.out.trans (hb3.mono (by have := L12.out; have := L01.out; omega)))
    have L23 := Lib.hid h23
    clear hb3 S2 R2 x0 x1 x2 x3 h23
    have y0 := C3.out.cell 0
    have y1 := C3.out.cell 1
    have y2 := C3.out.cell 2
    have y3 := C3.out.cell 3
    simp only [List.getElem?_cons_zero, List.getElem?_cons_succ] at y0 y1 y2 y3
    go_wp2_with fail
    refine (CM.out _ _ _ _ (w1.heap.size + 1) w2.heap.size w3 (by have := L23.out; omega) S3.out).mono ?_
    rintro e w4 ⟨rfl, s4, hw4⟩
    have Q4 := Lib.hid s4.rd
    have R4 := Lib.hid (R3.out.within R1.out hw4 (by omega))
    have B4 := Lib.hid (B3.out.within hw4 (by omega))
    have C4 := Lib.hid (C3.out.within hw4 (by omega))
    have HB4 := Lib.hid (HB3.out.trans (hw4.below (by have := L01.out; omega) HB3.out.size))
    have L24 := Lib.hid (Nat.le_trans L23.out hw4.size)
    clear s4 hw4 S3 R3 y0 y1 y2 y3
    have y0 := C4.out.cell 0
    have y1 := C4.out.cell 1
    have y2 := C4.out.cell 2
    have y3 := C4.out.cell 3
    simp only [List.getElem?_cons_zero, List.getElem?_cons_succ] at y0 y1 y2 y3
    go_wp2_with fail
    refine (CH.out _ _ Q4.out).mono ?_
    rintro e w5 ⟨rfl, hb5⟩
    have Q5 := Lib.hid (Q4.out.below hb5 (Nat.le_refl _))
    have R5 := Lib.hid (R4.out.below hb5 (Nat.le_refl _))
    have B5 := Lib.hid (B4.out.below hb5 B4.out.lt)
    have C5 := Lib.hid (C4.out.below hb5 C4.out.lt)
    have HB5 := Lib.hid (HB4.out.trans (hb5.mono HB4.out.size))
    clear hb5 Q4 R4 y0 y1 y2 y3
    go_wp2_with fail
    refine (CI.out _).mono ?_
    rintro e w6 ⟨⟨v6, vo6, vs6, vd6, rfl, s6⟩, hb6⟩
    obtain ⟨bo6, ko6, rfl⟩ := Own.shape s6.o
    obtain ⟨bs6, ks6, rfl⟩ := Own.shape s6.s
    obtain ⟨bd6, kd6, rfl⟩ := Own.shape s6.d
    obtain rfl := s6.eq
    have hbx := (Below.refl w6.heap.size w6).alloc (Nat.le_refl _) (.cells #[.int .i64 p, .slice bo6 o.length ko6, .slice bs6 s.length ks6, .slice bd6 d.length kd6] 44)
    have B5l := B5.out.lt
    have C5l := C5.out.lt
    have h56 := hb6.size
    have R6 := Lib.hid ((R5.out.below hb6 (Nat.le_refl _)).below hbx (Nat.le_refl _))
    have Q6 := Lib.hid ((Q5.out.below hb6 (Nat.le_refl _)).below hbx (Nat.le_refl _))
    have S6 := Lib.hid (s6.rd.below hbx (Nat.le_refl _))
    have B6 := Lib.hid ((B5.out.below hb6 B5l).below hbx (by omega))
    have C6 := Lib.hid ((C5.out.below hb6 C5l).below hbx (by omega))
    have HB6 := Lib.hid (HB5.out.trans ((hb6.mono HB5.out.size).trans (hbx.mono (Nat.le_trans HB5.out.size h56))))
    clear s6 hb6 Q5 R5 hbx B5l C5l h56
    have x0 := B6.out.cell 0
    have x1 := B6.out.cell 1
    have x2 := B6.out.cell 2
    have x3 := B6.out.cell 3
    simp only [List.getElem?_cons_zero, List.getElem?_cons_succ] at x0 x1 x2 x3
    go_wp2_with fail
    refine (CE.out _ _ _ S6.out R6.out).mono ?_
    rintro e w7 ⟨rfl, hb7⟩
    have Q7 := Lib.hid (Q6.out.below hb7 (Nat.le_refl _))
    have C7 := Lib.hid (C6.out.below hb7 C6.out.lt)
    have HB7 := Lib.hid (HB6.out.trans (hb7.mono HB6.out.size))
    clear hb7 Q6 R6 x0 x1 x2 x3
    have y0 := C7.out.cell 0
    have y1 := C7.out.cell 1
    have y2 := C7.out.cell 2
    have y3 := C7.out.cell 3
    simp only [List.getElem?_cons_zero, List.getElem?_cons_succ] at y0 y1 y2 y3
    go_wp2_with fail
    refine (CH.out _ _ Q7.out).mono ?_
    rintro e w8 ⟨rfl, hb8⟩
    have HB8 := Lib.hid (HB7.out.trans (hb8.mono HB7.out.size))
    clear hb8 Q7 y0 y1 y2 y3
    go_wp2_with fail
    go_ret
    exact ⟨rfl, HB8.out⟩
  · go_enter Try.func6, Try.ntmps6
    go_wp2_with fail
    go_ret
    exact ⟨rfl, Below.refl _ _⟩

theorem own : ownKnob Try.prog.godebug = none := by kernel_rfl
theorem laidOut : laidOutB Try.prog = true := by kernel_rfl

set_option maxRecDepth 100000 in
theorem lifted (os : Os) (started : os.Started) (H : Type) (enc : TypeId × Value → H) :
    ReturnsInHanded {} Try.checked os 6 .any (Rows.fnExactReadSigSpec.pre6 enc Try.prog Try.f6 Rows.fnExactReadSigRow.domain false) (Rows.fnExactReadSigSpec.post enc Try.prog Try.f6 false true false false) := by
  refine returnsInHanded_of_change (C := Try.checked) own started (by kernel_rfl) Try.func6
    (ChangeSpec.witness6 (enc := enc) (C := Try.checked) false ⟨#[], #[.string ByteArray.empty], []⟩ 8 (by kernel_rfl) (by kernel_rfl) (by kernel_rfl) (by kernel_rfl)) ?_
  intro W base args ds gs before hval0 hW hcnd _
  have hval : ∀ (j : Nat) t v, Try.f6.params[j]? = some t → args[j]? = some v → Value.okWide Try.prog W .any base t v := hval0
  have hW' := hW
  obtain ⟨p, q, hA0, hV, rfl, hfz, hnd⟩ := hW
  have hA : DataW.TrodAll enc Try.prog W 0 (fun _ => true) true Try.f6.params.toList args.toList ds p := hA0
  rw [Try.params6] at hA hval
  obtain ⟨v0, vs0, d0, ds0, p0, q0, hargs, rfl, rfl, h0, r0⟩ := trodAll_cons hA
  obtain ⟨rfl, rfl, rfl⟩ := trodAll_nil r0
  obtain rfl : args = #[v0] := by cases args; simp_all
  obtain ⟨rfl, rfl⟩ := trodVars_none hV
  have k0 := h0
  have lt0 : ∀ x ∈ p0, x.block < W.heap.size := by obtain ⟨m, hm⟩ := k0; exact DataW.trod_lt m _ _ _ hm
  obtain ⟨a0, rfl, rfl, rfl, w0⟩ := open_string Try.underlying9 (hval 0 9 v0 rfl rfl) h0
  clear hA0 hval0
  refine (walk a0 W w0).mono fun e W' ⟨he, bel⟩ => ?_
  subst he
  exact ⟨_, rfl, _, _, _, [], _, [], hW', trodAll_mk1 (shut_bool Try.underlying4 _), (trodAll_cons_mk (Below.trod laidOut (by kernel_rfl) (of_decide_eq_true (by kernel_rfl)) k0 bel lt0) trodAll_mk0), rfl, bel.frame _, fun h => by cases h⟩

theorem over : Rows.fnExactReadSigRow.holds Try.pinned (OpenSpec.ofChange Rows.fnExactReadSigSpec) :=
  OpenClaim.holds_of_wide 6 Try.f6 rfl rfl rfl rfl rfl rfl rfl ⟨rfl, rfl, rfl, rfl, rfl⟩ rfl rfl rfl rfl rfl (by kernel_rfl) Try.func6 (by kernel_rfl)
    (of_decide_eq_true (by kernel_rfl)) (by unfold Func.isWrapper; first | (rw [if_pos (by decide +kernel)]; kernel_rfl) | (rw [if_neg (by decide +kernel)]; exact ⟨rfl, rfl⟩))
    (fun os started H enc _ => lifted os started H enc)

/-- The statement. -/
theorem proved : Rows.FnExactReadSigSaid :=
  over
#print axioms proved

end Go.Proofs.Ytnlddjlbioelnaa.fnExactReadSig
