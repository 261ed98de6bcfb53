/-
  For every disk, list of operations, number and list of numbers (of at most 2^20 bytes, files, operations and numbers; more are passed by) the program's CutActs and the reference's return the same, the arguments stay, and what the program handed out is its caller's: 'FnExactCutActs' returns true. No conditions.
-/
import Derived.Test.YtdecehecjlbbiaaFrameA
import Derived.Test.YtdecehecjlbbiaaAct2
import Derived.Test.YtdecehecjlbbiaaActs3
import Derived.Test.YtdecehecjlbbiaaInts2
namespace Go.Proofs.Ytdecehecjlbbiaa.fnExactCutActs
open Go.ChangeShapes Go.WideShapes Go.ChangeAt Go.RowKit
open Go.ChangeMaps (open_string shut_string)
set_option linter.unusedVariables false

set_option maxHeartbeats 8000000 in
set_option maxRecDepth 100000 in
theorem walk (a0 : Option Addr) (len0 cap0 : Nat) (z0 : List Fl) (a1 : Option Addr) (len1 cap1 : Nat) (z1 : List Ac) (a2 : Int) (a3 : Option Addr) (len3 cap3 : Nat) (z3 : List Int) (w : World) (w0 : IsFiles w a0 len0 cap0 z0) (w1 : IsActs w a1 len1 cap1 z1) (w2 : (Lit.int .i64 a2).wf = true) (w3 : IsRow .i64 w a3 len3 cap3 z3) :
    Calls Try.prog 13 #[.agg #[.slice a0 len0 cap0], .slice a1 len1 cap1, .int .i64 a2, .slice a3 len3 cap3] w fun e w' => e = .returned (.bool true) ∧ Below w.heap.size w w' := by
  obtain ⟨rfl, hmax0, heach0, hrd0⟩ := w0
  obtain ⟨rfl, hmax1, heach1, hwf1, hrd1⟩ := w1
  obtain ⟨y3, hzl3, hmax3, hrd3⟩ := rdI_of_row w3
  clear w3
  subst hzl3
  unfold maxLen at hmax0 heach0 hmax1 heach1 hmax3
  have hB := (Below.refl w.heap.size w).alloc (Nat.le_refl _) (.cells #[.slice a0 z0.length cap0] 24)
  have hz := alloc_size w (.cells #[.slice a0 z0.length cap0] 24)
  have b0 := Blk.new w 24 [.slice a0 z0.length cap0] _ rfl
  have R0 := Lib.hid (fun W hW => (hrd0.below hB (Nat.le_refl _)).below (C := (w.heap.size + 1)) (w' := W) hW (by rw [hz]; exact Nat.le_refl _))
  have R1 := Lib.hid (fun W hW => (hrd1.below hB (Nat.le_refl _)).below (C := (w.heap.size + 1)) (w' := W) hW (by rw [hz]; exact Nat.le_refl _))
  have R3 := Lib.hid (fun W hW => (hrd3.below hB (Nat.le_refl _)).below (C := (w.heap.size + 1)) (w' := W) hW (by rw [hz]; exact Nat.le_refl _))
  have LS : Hid (∀ W, Below (w.heap.size + 1) (w.alloc (.cells #[.slice a0 z0.length cap0] 24)) W → (w.heap.size + 1) ≤ W.heap.size) := Lib.hid fun W hW => by have := hW.size; rw [hz] at this; exact this
  have HB0 := Lib.hid hB
  have B0 := Lib.hid b0
  clear b0 hz
  clear hB
  by_cases hs3 : y3.length ≤ 1048576
  · skip
    have CZ0 := fun W h => szDisk_any a0 cap0 z0 1048576 W hmax0 heach0 (by omega) (by omega) h
    by_cases ht0 : ((z0.length : Int) + sumFl z0) ≤ 1048576
    · rw [szFl_yes ht0] at CZ0
      have hl0 : z0.length ≤ 1048576 := by omega
      have hzs0 : ∀ x ∈ z0, x.1.size ≤ 1048576 ∧ x.2.1.size ≤ 1048576 := fun x hx => by have := sumFl_mem hx; omega
      have hL0_0 : ¬ ((1048576 - z0.length - (sumFl z0 : Int) : Int) < 0) := by omega
      have hL1_0 : (1048576 - z0.length - (sumFl z0 : Int) : Int) ≤ 1048576 := by omega
      generalize (1048576 - z0.length - (sumFl z0 : Int) : Int) = L0 at *
      have DZ0 := Lib.hid CZ0
      clear CZ0 ht0
      have CZ1 := fun W h => szActS_any a1 cap1 z1 L0 W hmax1 heach1 (by omega) (by omega) h
      by_cases ht1 : ((z1.length : Int) + sumAc z1) ≤ L0
      · rw [szAc_yes ht1] at CZ1
        have hl1 : z1.length ≤ 1048576 := by omega
        have hzs1 : ∀ x ∈ z1, AcSmall x 1048576 := fun x hx => by have := sumAc_mem hx; unfold acLen at this; exact ⟨by omega, by omega, by omega⟩
        have hL0_1 : ¬ ((L0 - z1.length - (sumAc z1 : Int) : Int) < 0) := by omega
        have hL1_1 : (L0 - z1.length - (sumAc z1 : Int) : Int) ≤ 1048576 := by omega
        generalize (L0 - z1.length - (sumAc z1 : Int) : Int) = L1 at *
        have DZ1 := Lib.hid CZ1
        clear CZ1 ht1
        have hl3 := hs3
        have CS := fun v a c b d W h hq hi => sCut_any v z0 a c z1 a2 b d y3 W ⟨hl0, hzs0⟩ hl1 (fun x hx => (hzs1 x hx).2.1) h hq hi
        have CI := fun v a c b d W h hq hi => iCut_any v z0 a c z1 a2 b d y3 W ⟨hl0, hzs0⟩ hl1 (fun x hx => (hzs1 x hx).2.1) h hq hi
        have CT0 := Lib.hid (fun W h => toDisk_any a0 cap0 z0 W hl0 h)
        have CE0 := Lib.hid (fun v1 v2 W h1 h2 => eqDisk_any v1 v2 z0 W hl0 h1 h2)
        have CT1 := Lib.hid (fun W h => toActS_any a1 cap1 z1 W hl1 h)
        have CE1 := Lib.hid (fun a c a' c' W h1 h2 => eqActS_any a a' c c' z1 W hl1 h1 h2)
        have CT3 := Lib.hid (fun W h => toIntS_any a3 cap3 y3 W hl3 h)
        have CE3 := Lib.hid (fun a c a' c' W h1 h2 => eqIntS_any a a' c c' y3 y3 W (by omega) (by omega) h1 h2)
        have CM0 := fun v u B W h => markDisk_any v u z0 B 1 W hl0 (by omega) (by omega) h
        simp only [Int.natCast_one] at CM0
        have hk0 : (1 : Int) + 3 * z0.length = ((1 + 3 * z0.length : Nat) : Int) := by push_cast; omega
        rw [hk0] at CM0
        have hK0a : 0 < 1 + 3 * z0.length := by omega
        have hK0b : 1 + 3 * z0.length ≤ 1099500000000 - 8388608 * 40 := by omega
        generalize 1 + 3 * z0.length = K0 at *
        clear hk0
        have DM0 := Lib.hid CM0
        clear CM0
        have CM1 := fun v B W h => markActS_any v z1 B K0 W hl1 (by omega) (by omega) h
        have hk1 : (K0 : Int) + 4 * z1.length = ((K0 + 4 * z1.length : Nat) : Int) := by push_cast; omega
        rw [hk1] at CM1
        have hK1a : 0 < K0 + 4 * z1.length := by omega
        have hK1b : K0 + 4 * z1.length ≤ 1099500000000 - 8388608 * 39 := by omega
        generalize K0 + 4 * z1.length = K1 at *
        clear hk1
        have DM1 := Lib.hid CM1
        clear CM1
        have CM3 := fun v B W h => markIntS_any v y3 B K1 W hl3 (by omega) (by omega) h
        have hk3 : (K1 : Int) + y3.length = ((K1 + y3.length : Nat) : Int) := by push_cast; omega
        rw [hk3] at CM3
        have hK3a : 0 < K1 + y3.length := by omega
        have hK3b : K1 + y3.length ≤ 1099500000000 - 8388608 * 37 := by omega
        generalize K1 + y3.length = K3 at *
        clear hk3
        have DM3 := Lib.hid CM3
        clear CM3
        have hn1 : ¬ ((K3 : Int) < 0) := by omega
        have hrl : (cutV z0 z1 a2 y3).1.length ≤ 1048576 := cutV_len z0 z1 a2 y3 ⟨hl0, hzs0⟩
        generalize cutV z0 z1 a2 y3 = rv at *
        obtain ⟨rl, rb⟩ := rv
        simp only at CS CI hrl
        have CE := Lib.hid (fun v1 v2 W h1 h2 => eqDisk_any v1 v2 rl W hrl h1 h2)
        have CMG := fun v u B W h => markDisk_any v u rl B 1 W hrl (by omega) (by omega) h
        have CHG := fun v W h => heldDisk_any v rl.length 1 W hrl (by omega) (by omega) h
        simp only [Int.natCast_one] at CMG CHG
        have hn2 : ¬ ((1 : Int) + 3 * rl.length < 0) := by omega
        have e2 : (((1 : Int) + 3 * rl.length) != ((1 : Int) + 3 * rl.length)) = false := by simp
        generalize (1 : Int) + 3 * rl.length = KR at *
        have DMG := Lib.hid CMG
        have DHG := Lib.hid CHG
        have DS := Lib.hid CS
        have DI := Lib.hid CI
        have e1 : (rb != rb) = false := by simp
        clear CS CI CMG CHG hrd0 hrd1 hrd3 hmax0 hmax1 hmax3 heach0 heach1 hzs0 hzs1
        go_enter Try.func13, Try.ntmps13
        go_wp2_with fail
        generalize w.alloc (.cells #[.slice a0 z0.length cap0] 24) = Wb at *
        have HB := Lib.hid (Below.refl (w.heap.size + 1) Wb)
        refine (DZ0.out _ (R0.out _ HB.out)).mono ?_
        rintro e w1_ ⟨rfl, hb⟩
        have HB_ := Lib.hid (HB.out.trans (hb.mono (LS.out _ HB.out)))
        have B0_ := Lib.hid (Blk.below B0.out hb (Blk.lt B0.out))
        clear HB B0
        have HB := HB_
        have B0 := B0_
        clear HB_ B0_
        clear hb
        go_wp2_with fail
        refine (DZ1.out _ (R1.out _ HB.out)).mono ?_
        rintro e w2_ ⟨rfl, hb⟩
        have HB_ := Lib.hid (HB.out.trans (hb.mono (LS.out _ HB.out)))
        have B0_ := Lib.hid (Blk.below B0.out hb (Blk.lt B0.out))
        clear HB B0
        have HB := HB_
        have B0 := B0_
        clear HB_ B0_
        clear hb
        have c_B00 := Blk.cell B0.out 0
        simp only [List.getElem?_cons_zero] at c_B00
        go_wp2_with fail
        refine (CT0.out _ (R0.out _ HB.out)).mono ?_
        rintro e w3_ ⟨⟨v3, u3, rfl, ho⟩, hb⟩
        clear c_B00
        obtain ⟨rfl, ho⟩ := ho
        obtain ⟨q3, k3, rfl⟩ := Own.shape ho
        have M_B0_P0 : Hid (Value.ownBlock (.slice q3 z0.length k3) = some (w.heap.size) → False) := Lib.hid (fun e => by have h1 := (Own.block ho _ e).1; have h2 := Blk.lt B0.out; omega)
        have L_P0 : Hid (∀ k, Value.ownBlock (.slice q3 z0.length k3) = some k → (w.heap.size + 1) ≤ k) := Lib.hid (fun k hk => Nat.le_trans (LS.out _ HB.out) (Own.block ho k hk).1)
        have HB_ := Lib.hid (HB.out.trans (hb.mono (LS.out _ HB.out)))
        have B0_ := Lib.hid (Blk.below B0.out hb (Blk.lt B0.out))
        clear HB B0
        have HB := HB_
        have B0 := B0_
        clear HB_ B0_
        clear hb
        have P0 := Lib.hid ho
        clear ho
        go_wp2_with fail
        refine (CT1.out _ (R1.out _ HB.out)).mono ?_
        rintro e w4_ ⟨⟨v4, rfl, ho⟩, hb⟩
        obtain ⟨q4, k4, rfl⟩ := Own.shape ho
        have A_P0_P1 := Lib.hid (apart_of (fun k hk => (Own.block P0.out k hk).2) (fun k hk => (Own.block ho k hk).1))
        have M_B0_P1 : Hid (Value.ownBlock (.slice q4 z1.length k4) = some (w.heap.size) → False) := Lib.hid (fun e => by have h1 := (Own.block ho _ e).1; have h2 := Blk.lt B0.out; omega)
        have L_P1 : Hid (∀ k, Value.ownBlock (.slice q4 z1.length k4) = some k → (w.heap.size + 1) ≤ k) := Lib.hid (fun k hk => Nat.le_trans (LS.out _ HB.out) (Own.block ho k hk).1)
        have HB_ := Lib.hid (HB.out.trans (hb.mono (LS.out _ HB.out)))
        have B0_ := Lib.hid (Blk.below B0.out hb (Blk.lt B0.out))
        have P0_ := Lib.hid (P0.out.below hb (Nat.le_refl _))
        clear HB B0 P0
        have HB := HB_
        have B0 := B0_
        have P0 := P0_
        clear HB_ B0_ P0_
        clear hb
        have P1 := Lib.hid ho
        clear ho
        go_wp2_with fail
        refine (CT3.out _ (R3.out _ HB.out)).mono ?_
        rintro e w5_ ⟨⟨v5, rfl, ho⟩, hb⟩
        obtain ⟨q5, k5, rfl⟩ := Own.shape ho
        have A_P0_P3 := Lib.hid (apart_of (fun k hk => (Own.block P0.out k hk).2) (fun k hk => (Own.block ho k hk).1))
        have A_P1_P3 := Lib.hid (apart_of (fun k hk => (Own.block P1.out k hk).2) (fun k hk => (Own.block ho k hk).1))
        have M_B0_P3 : Hid (Value.ownBlock (.slice q5 y3.length k5) = some (w.heap.size) → False) := Lib.hid (fun e => by have h1 := (Own.block ho _ e).1; have h2 := Blk.lt B0.out; omega)
        have L_P3 : Hid (∀ k, Value.ownBlock (.slice q5 y3.length k5) = some k → (w.heap.size + 1) ≤ k) := Lib.hid (fun k hk => Nat.le_trans (LS.out _ HB.out) (Own.block ho k hk).1)
        have HB_ := Lib.hid (HB.out.trans (hb.mono (LS.out _ HB.out)))
        have B0_ := Lib.hid (Blk.below B0.out hb (Blk.lt B0.out))
        have P0_ := Lib.hid (P0.out.below hb (Nat.le_refl _))
        have P1_ := Lib.hid (P1.out.below hb (Nat.le_refl _))
        clear HB B0 P0 P1
        have HB := HB_
        have B0 := B0_
        have P0 := P0_
        have P1 := P1_
        clear HB_ B0_ P0_ P1_
        clear hb
        have P3 := Lib.hid ho
        clear ho
        obtain ⟨_, _, eq_, RC_P1⟩ := OwnA.rdc P1.out
        cases eq_
        replace RC_P1 := Lib.hid RC_P1
        obtain ⟨_, _, eq_, RX_P3⟩ := OwnI.rd P3.out
        cases eq_
        replace RX_P3 := Lib.hid RX_P3
        go_wp2_with fail
        refine (DS.out _ _ _ _ _ _ (OwnK.rd ⟨rfl, P0.out⟩) RC_P1.out RX_P3.out).mono ?_
        rintro e w6_ ⟨⟨v6, u6, rfl, ho⟩, hb⟩
        obtain ⟨rfl, ho⟩ := ho
        obtain ⟨q6, k6, rfl⟩ := Own.shape ho
        have A_P0_WO := Lib.hid (apart_of (fun k hk => (Own.block P0.out k hk).2) (fun k hk => (Own.block ho k hk).1))
        have A_P1_WO := Lib.hid (apart_of (fun k hk => (Own.block P1.out k hk).2) (fun k hk => (Own.block ho k hk).1))
        have A_P3_WO := Lib.hid (apart_of (fun k hk => (Own.block P3.out k hk).2) (fun k hk => (Own.block ho k hk).1))
        have M_B0_WO : Hid (Value.ownBlock (.slice q6 rl.length k6) = some (w.heap.size) → False) := Lib.hid (fun e => by have h1 := (Own.block ho _ e).1; have h2 := Blk.lt B0.out; omega)
        have L_WO : Hid (∀ k, Value.ownBlock (.slice q6 rl.length k6) = some k → (w.heap.size + 1) ≤ k) := Lib.hid (fun k hk => Nat.le_trans (LS.out _ HB.out) (Own.block ho k hk).1)
        have HB_ := Lib.hid (HB.out.trans (hb.mono (LS.out _ HB.out)))
        have B0_ := Lib.hid (Blk.below B0.out hb (Blk.lt B0.out))
        have P0_ := Lib.hid (P0.out.below hb (Nat.le_refl _))
        have P1_ := Lib.hid (P1.out.below hb (Nat.le_refl _))
        have P3_ := Lib.hid (P3.out.below hb (Nat.le_refl _))
        clear HB B0 P0 P1 P3
        have HB := HB_
        have B0 := B0_
        have P0 := P0_
        have P1 := P1_
        have P3 := P3_
        clear HB_ B0_ P0_ P1_ P3_
        clear hb
        have WO := Lib.hid ho
        clear ho
        clear RC_P1 RX_P3
        clear P0
        clear P1
        clear P3
        have M_BWO_WO : Hid (Value.ownBlock (.slice q6 rl.length k6) = some (w6_.heap.size) → False) := Lib.hid (fun e => by have h2 := (Own.block WO.out _ e).2; omega)
        have hb := (Below.refl w6_.heap.size w6_).alloc (Nat.le_refl _) (.cells #[.slice q6 rl.length k6] 29)
        have BWO := Lib.hid (Blk.new w6_ 29 [.slice q6 rl.length k6] _ rfl)
        have HB_ := Lib.hid (HB.out.trans (hb.mono (LS.out _ HB.out)))
        have B0_ := Lib.hid (Blk.below B0.out hb (Blk.lt B0.out))
        have WO_ := Lib.hid (WO.out.below hb (Nat.le_refl _))
        clear HB B0 WO
        have HB := HB_
        have B0 := B0_
        have WO := WO_
        clear HB_ B0_ WO_
        clear hb
        have c_B00 := Blk.cell B0.out 0
        simp only [List.getElem?_cons_zero] at c_B00
        go_wp2_with fail
        refine (CT0.out _ (R0.out _ HB.out)).mono ?_
        rintro e w7_ ⟨⟨v7, u7, rfl, ho⟩, hb⟩
        clear c_B00
        obtain ⟨rfl, ho⟩ := ho
        obtain ⟨q7, k7, rfl⟩ := Own.shape ho
        have A_WO_X0 := Lib.hid (apart_of (fun k hk => (Own.block WO.out k hk).2) (fun k hk => (Own.block ho k hk).1))
        have M_B0_X0 : Hid (Value.ownBlock (.slice q7 z0.length k7) = some (w.heap.size) → False) := Lib.hid (fun e => by have h1 := (Own.block ho _ e).1; have h2 := Blk.lt B0.out; omega)
        have M_BWO_X0 : Hid (Value.ownBlock (.slice q7 z0.length k7) = some (w6_.heap.size) → False) := Lib.hid (fun e => by have h1 := (Own.block ho _ e).1; have h2 := Blk.lt BWO.out; omega)
        have L_X0 : Hid (∀ k, Value.ownBlock (.slice q7 z0.length k7) = some k → (w.heap.size + 1) ≤ k) := Lib.hid (fun k hk => Nat.le_trans (LS.out _ HB.out) (Own.block ho k hk).1)
        have HB_ := Lib.hid (HB.out.trans (hb.mono (LS.out _ HB.out)))
        have B0_ := Lib.hid (Blk.below B0.out hb (Blk.lt B0.out))
        have WO_ := Lib.hid (WO.out.below hb (Nat.le_refl _))
        have BWO_ := Lib.hid (Blk.below BWO.out hb (Blk.lt BWO.out))
        clear HB B0 WO BWO
        have HB := HB_
        have B0 := B0_
        have WO := WO_
        have BWO := BWO_
        clear HB_ B0_ WO_ BWO_
        clear hb
        have X0 := Lib.hid ho
        clear ho
        have M_BX0_WO : Hid (Value.ownBlock (.slice q6 rl.length k6) = some (w7_.heap.size) → False) := Lib.hid (fun e => by have h2 := (Own.block WO.out _ e).2; omega)
        have M_BX0_X0 : Hid (Value.ownBlock (.slice q7 z0.length k7) = some (w7_.heap.size) → False) := Lib.hid (fun e => by have h2 := (Own.block X0.out _ e).2; omega)
        have hb := (Below.refl w7_.heap.size w7_).alloc (Nat.le_refl _) (.cells #[.slice q7 z0.length k7] 29)
        have BX0 := Lib.hid (Blk.new w7_ 29 [.slice q7 z0.length k7] _ rfl)
        have HB_ := Lib.hid (HB.out.trans (hb.mono (LS.out _ HB.out)))
        have B0_ := Lib.hid (Blk.below B0.out hb (Blk.lt B0.out))
        have WO_ := Lib.hid (WO.out.below hb (Nat.le_refl _))
        have BWO_ := Lib.hid (Blk.below BWO.out hb (Blk.lt BWO.out))
        have X0_ := Lib.hid (X0.out.below hb (Nat.le_refl _))
        clear HB B0 WO BWO X0
        have HB := HB_
        have B0 := B0_
        have WO := WO_
        have BWO := BWO_
        have X0 := X0_
        clear HB_ B0_ WO_ BWO_ X0_
        clear hb
        go_wp2_with fail
        refine (CT1.out _ (R1.out _ HB.out)).mono ?_
        rintro e w8_ ⟨⟨v8, rfl, ho⟩, hb⟩
        obtain ⟨q8, k8, rfl⟩ := Own.shape ho
        have A_WO_X1 := Lib.hid (apart_of (fun k hk => (Own.block WO.out k hk).2) (fun k hk => (Own.block ho k hk).1))
        have A_X0_X1 := Lib.hid (apart_of (fun k hk => (Own.block X0.out k hk).2) (fun k hk => (Own.block ho k hk).1))
        have M_B0_X1 : Hid (Value.ownBlock (.slice q8 z1.length k8) = some (w.heap.size) → False) := Lib.hid (fun e => by have h1 := (Own.block ho _ e).1; have h2 := Blk.lt B0.out; omega)
        have M_BWO_X1 : Hid (Value.ownBlock (.slice q8 z1.length k8) = some (w6_.heap.size) → False) := Lib.hid (fun e => by have h1 := (Own.block ho _ e).1; have h2 := Blk.lt BWO.out; omega)
        have M_BX0_X1 : Hid (Value.ownBlock (.slice q8 z1.length k8) = some (w7_.heap.size) → False) := Lib.hid (fun e => by have h1 := (Own.block ho _ e).1; have h2 := Blk.lt BX0.out; omega)
        have L_X1 : Hid (∀ k, Value.ownBlock (.slice q8 z1.length k8) = some k → (w.heap.size + 1) ≤ k) := Lib.hid (fun k hk => Nat.le_trans (LS.out _ HB.out) (Own.block ho k hk).1)
        have HB_ := Lib.hid (HB.out.trans (hb.mono (LS.out _ HB.out)))
        have B0_ := Lib.hid (Blk.below B0.out hb (Blk.lt B0.out))
        have WO_ := Lib.hid (WO.out.below hb (Nat.le_refl _))
        have BWO_ := Lib.hid (Blk.below BWO.out hb (Blk.lt BWO.out))
        have X0_ := Lib.hid (X0.out.below hb (Nat.le_refl _))
        have BX0_ := Lib.hid (Blk.below BX0.out hb (Blk.lt BX0.out))
        clear HB B0 WO BWO X0 BX0
        have HB := HB_
        have B0 := B0_
        have WO := WO_
        have BWO := BWO_
        have X0 := X0_
        have BX0 := BX0_
        clear HB_ B0_ WO_ BWO_ X0_ BX0_
        clear hb
        have X1 := Lib.hid ho
        clear ho
        go_wp2_with fail
        refine (CT3.out _ (R3.out _ HB.out)).mono ?_
        rintro e w9_ ⟨⟨v9, rfl, ho⟩, hb⟩
        obtain ⟨q9, k9, rfl⟩ := Own.shape ho
        have A_WO_X3 := Lib.hid (apart_of (fun k hk => (Own.block WO.out k hk).2) (fun k hk => (Own.block ho k hk).1))
        have A_X0_X3 := Lib.hid (apart_of (fun k hk => (Own.block X0.out k hk).2) (fun k hk => (Own.block ho k hk).1))
        have A_X1_X3 := Lib.hid (apart_of (fun k hk => (Own.block X1.out k hk).2) (fun k hk => (Own.block ho k hk).1))
        have M_B0_X3 : Hid (Value.ownBlock (.slice q9 y3.length k9) = some (w.heap.size) → False) := Lib.hid (fun e => by have h1 := (Own.block ho _ e).1; have h2 := Blk.lt B0.out; omega)
        have M_BWO_X3 : Hid (Value.ownBlock (.slice q9 y3.length k9) = some (w6_.heap.size) → False) := Lib.hid (fun e => by have h1 := (Own.block ho _ e).1; have h2 := Blk.lt BWO.out; omega)
        have M_BX0_X3 : Hid (Value.ownBlock (.slice q9 y3.length k9) = some (w7_.heap.size) → False) := Lib.hid (fun e => by have h1 := (Own.block ho _ e).1; have h2 := Blk.lt BX0.out; omega)
        have L_X3 : Hid (∀ k, Value.ownBlock (.slice q9 y3.length k9) = some k → (w.heap.size + 1) ≤ k) := Lib.hid (fun k hk => Nat.le_trans (LS.out _ HB.out) (Own.block ho k hk).1)
        have HB_ := Lib.hid (HB.out.trans (hb.mono (LS.out _ HB.out)))
        have B0_ := Lib.hid (Blk.below B0.out hb (Blk.lt B0.out))
        have WO_ := Lib.hid (WO.out.below hb (Nat.le_refl _))
        have BWO_ := Lib.hid (Blk.below BWO.out hb (Blk.lt BWO.out))
        have X0_ := Lib.hid (X0.out.below hb (Nat.le_refl _))
        have BX0_ := Lib.hid (Blk.below BX0.out hb (Blk.lt BX0.out))
        have X1_ := Lib.hid (X1.out.below hb (Nat.le_refl _))
        clear HB B0 WO BWO X0 BX0 X1
        have HB := HB_
        have B0 := B0_
        have WO := WO_
        have BWO := BWO_
        have X0 := X0_
        have BX0 := BX0_
        have X1 := X1_
        clear HB_ B0_ WO_ BWO_ X0_ BX0_ X1_
        clear hb
        have X3 := Lib.hid ho
        clear ho
        obtain ⟨_, _, eq_, RC_X1⟩ := OwnA.rdc X1.out
        cases eq_
        replace RC_X1 := Lib.hid RC_X1
        obtain ⟨_, _, eq_, RX_X3⟩ := OwnI.rd X3.out
        cases eq_
        replace RX_X3 := Lib.hid RX_X3
        have c_BX00 := Blk.cell BX0.out 0
        simp only [List.getElem?_cons_zero] at c_BX00
        go_wp2_with fail
        refine (DI.out _ _ _ _ _ _ (OwnK.rd ⟨rfl, X0.out⟩) RC_X1.out RX_X3.out).mono ?_
        rintro e w10_ ⟨⟨v10, u10, rfl, ho⟩, hb⟩
        clear c_BX00
        obtain ⟨rfl, ho⟩ := ho
        obtain ⟨q10, k10, rfl⟩ := Own.shape ho
        have A_WO_GO := Lib.hid (apart_of (fun k hk => (Own.block WO.out k hk).2) (fun k hk => (Own.block ho k hk).1))
        have A_X0_GO := Lib.hid (apart_of (fun k hk => (Own.block X0.out k hk).2) (fun k hk => (Own.block ho k hk).1))
        have A_X1_GO := Lib.hid (apart_of (fun k hk => (Own.block X1.out k hk).2) (fun k hk => (Own.block ho k hk).1))
        have A_X3_GO := Lib.hid (apart_of (fun k hk => (Own.block X3.out k hk).2) (fun k hk => (Own.block ho k hk).1))
        have M_B0_GO : Hid (Value.ownBlock (.slice q10 rl.length k10) = some (w.heap.size) → False) := Lib.hid (fun e => by have h1 := (Own.block ho _ e).1; have h2 := Blk.lt B0.out; omega)
        have M_BWO_GO : Hid (Value.ownBlock (.slice q10 rl.length k10) = some (w6_.heap.size) → False) := Lib.hid (fun e => by have h1 := (Own.block ho _ e).1; have h2 := Blk.lt BWO.out; omega)
        have M_BX0_GO : Hid (Value.ownBlock (.slice q10 rl.length k10) = some (w7_.heap.size) → False) := Lib.hid (fun e => by have h1 := (Own.block ho _ e).1; have h2 := Blk.lt BX0.out; omega)
        have L_GO : Hid (∀ k, Value.ownBlock (.slice q10 rl.length k10) = some k → (w.heap.size + 1) ≤ k) := Lib.hid (fun k hk => Nat.le_trans (LS.out _ HB.out) (Own.block ho k hk).1)
        have HB_ := Lib.hid (HB.out.trans (hb.mono (LS.out _ HB.out)))
        have B0_ := Lib.hid (Blk.below B0.out hb (Blk.lt B0.out))
        have WO_ := Lib.hid (WO.out.below hb (Nat.le_refl _))
        have BWO_ := Lib.hid (Blk.below BWO.out hb (Blk.lt BWO.out))
        have X0_ := Lib.hid (X0.out.below hb (Nat.le_refl _))
        have BX0_ := Lib.hid (Blk.below BX0.out hb (Blk.lt BX0.out))
        have X1_ := Lib.hid (X1.out.below hb (Nat.le_refl _))
        have X3_ := Lib.hid (X3.out.below hb (Nat.le_refl _))
        clear HB B0 WO BWO X0 BX0 X1 X3
        have HB := HB_
        have B0 := B0_
        have WO := WO_
        have BWO := BWO_
        have X0 := X0_
        have BX0 := BX0_
        have X1 := X1_
        have X3 := X3_
        clear HB_ B0_ WO_ BWO_ X0_ BX0_ X1_ X3_
        clear hb
        have GO := Lib.hid ho
        clear ho
        clear RC_X1 RX_X3
        have M_BGO_WO : Hid (Value.ownBlock (.slice q6 rl.length k6) = some (w10_.heap.size) → False) := Lib.hid (fun e => by have h2 := (Own.block WO.out _ e).2; omega)
        have M_BGO_X0 : Hid (Value.ownBlock (.slice q7 z0.length k7) = some (w10_.heap.size) → False) := Lib.hid (fun e => by have h2 := (Own.block X0.out _ e).2; omega)
        have M_BGO_X1 : Hid (Value.ownBlock (.slice q8 z1.length k8) = some (w10_.heap.size) → False) := Lib.hid (fun e => by have h2 := (Own.block X1.out _ e).2; omega)
        have M_BGO_X3 : Hid (Value.ownBlock (.slice q9 y3.length k9) = some (w10_.heap.size) → False) := Lib.hid (fun e => by have h2 := (Own.block X3.out _ e).2; omega)
        have M_BGO_GO : Hid (Value.ownBlock (.slice q10 rl.length k10) = some (w10_.heap.size) → False) := Lib.hid (fun e => by have h2 := (Own.block GO.out _ e).2; omega)
        have hb := (Below.refl w10_.heap.size w10_).alloc (Nat.le_refl _) (.cells #[.slice q10 rl.length k10] 29)
        have BGO := Lib.hid (Blk.new w10_ 29 [.slice q10 rl.length k10] _ rfl)
        have HB_ := Lib.hid (HB.out.trans (hb.mono (LS.out _ HB.out)))
        have B0_ := Lib.hid (Blk.below B0.out hb (Blk.lt B0.out))
        have WO_ := Lib.hid (WO.out.below hb (Nat.le_refl _))
        have BWO_ := Lib.hid (Blk.below BWO.out hb (Blk.lt BWO.out))
        have X0_ := Lib.hid (X0.out.below hb (Nat.le_refl _))
        have BX0_ := Lib.hid (Blk.below BX0.out hb (Blk.lt BX0.out))
        have X1_ := Lib.hid (X1.out.below hb (Nat.le_refl _))
        have X3_ := Lib.hid (X3.out.below hb (Nat.le_refl _))
        have GO_ := Lib.hid (GO.out.below hb (Nat.le_refl _))
        clear HB B0 WO BWO X0 BX0 X1 X3 GO
        have HB := HB_
        have B0 := B0_
        have WO := WO_
        have BWO := BWO_
        have X0 := X0_
        have BX0 := BX0_
        have X1 := X1_
        have X3 := X3_
        have GO := GO_
        clear HB_ B0_ WO_ BWO_ X0_ BX0_ X1_ X3_ GO_
        clear hb
        have c_BGO0 := Blk.cell BGO.out 0
        have c_BWO0 := Blk.cell BWO.out 0
        simp only [List.getElem?_cons_zero] at c_BGO0 c_BWO0
        go_wp2_with fail
        refine (CE.out _ _ _ (OwnK.rd ⟨rfl, GO.out⟩) (OwnK.rd ⟨rfl, WO.out⟩)).mono ?_
        rintro e w11 ⟨rfl, hb⟩
        clear c_BGO0 c_BWO0
        have HB_ := Lib.hid (HB.out.trans (hb.mono (LS.out _ HB.out)))
        have B0_ := Lib.hid (Blk.below B0.out hb (Blk.lt B0.out))
        have WO_ := Lib.hid (WO.out.below hb (Nat.le_refl _))
        have BWO_ := Lib.hid (Blk.below BWO.out hb (Blk.lt BWO.out))
        have X0_ := Lib.hid (X0.out.below hb (Nat.le_refl _))
        have BX0_ := Lib.hid (Blk.below BX0.out hb (Blk.lt BX0.out))
        have X1_ := Lib.hid (X1.out.below hb (Nat.le_refl _))
        have X3_ := Lib.hid (X3.out.below hb (Nat.le_refl _))
        have GO_ := Lib.hid (GO.out.below hb (Nat.le_refl _))
        have BGO_ := Lib.hid (Blk.below BGO.out hb (Blk.lt BGO.out))
        clear HB B0 WO BWO X0 BX0 X1 X3 GO BGO
        have HB := HB_
        have B0 := B0_
        have WO := WO_
        have BWO := BWO_
        have X0 := X0_
        have BX0 := BX0_
        have X1 := X1_
        have X3 := X3_
        have GO := GO_
        have BGO := BGO_
        clear HB_ B0_ WO_ BWO_ X0_ BX0_ X1_ X3_ GO_ BGO_
        clear hb
        have HK : Hid (∀ W, Below (w11).heap.size (w11) W → W.cell? ⟨w7_.heap.size, 0, none⟩ = some (.slice q7 z0.length k7) ∧ W.cell? ⟨w.heap.size, 0, none⟩ = some (.slice a0 z0.length cap0)) := Lib.hid fun W hW => ⟨(Blk.below BX0.out hW (Blk.lt BX0.out)).cell 0, (Blk.below B0.out hW (Blk.lt B0.out)).cell 0⟩
        obtain ⟨c0, c1⟩ := HK.out _ (Below.refl _ _)
        go_wp2_with fail
        go_region_held3 (fun W => W.cell? ⟨w7_.heap.size, 0, none⟩ = some (.slice q7 z0.length k7) ∧ W.cell? ⟨w.heap.size, 0, none⟩ = some (.slice a0 z0.length cap0))
          (first | exact HK.out _ hk2 | exact HK.out _ hk1 | go_keep)
          (first
            | (go_at_call 17; refine (CT0.out _ ?_).mono ?_; (exact R0.out (w11) HB.out); rintro e wa ⟨⟨va, ua, rfl, hoa⟩, hba⟩; have hk1 : Below (w11).heap.size (w11) wa := ⟨hba.os, hba.tape, hba.output, hba.size, hba.block⟩; have QA := Lib.hid (OwnK.rd hoa))
            | (go_at_call 19; refine (CE0.out _ _ _ ?_ ?_).mono ?_; (exact ((OwnK.rd ⟨rfl, X0.out⟩).below hk1 (Nat.le_refl _))); (exact QA.out); rintro e wb ⟨rfl, hbb⟩; have hkb : Below wa.heap.size wa wb := ⟨hbb.os, hbb.tape, hbb.output, hbb.size, hbb.block⟩; have hk2 := hk1.trans (hkb.mono hk1.size)))
        clear c0 c1
        replace hk2 := Lib.hid hk2
        clear hk1 hkb hba hbb QA hoa
        have hb := hk2.out
        have HB_ := Lib.hid (HB.out.trans (hb.mono (LS.out _ HB.out)))
        have B0_ := Lib.hid (Blk.below B0.out hb (Blk.lt B0.out))
        have WO_ := Lib.hid (WO.out.below hb (Nat.le_refl _))
        have BWO_ := Lib.hid (Blk.below BWO.out hb (Blk.lt BWO.out))
        have X0_ := Lib.hid (X0.out.below hb (Nat.le_refl _))
        have BX0_ := Lib.hid (Blk.below BX0.out hb (Blk.lt BX0.out))
        have X1_ := Lib.hid (X1.out.below hb (Nat.le_refl _))
        have X3_ := Lib.hid (X3.out.below hb (Nat.le_refl _))
        have GO_ := Lib.hid (GO.out.below hb (Nat.le_refl _))
        have BGO_ := Lib.hid (Blk.below BGO.out hb (Blk.lt BGO.out))
        clear HB B0 WO BWO X0 BX0 X1 X3 GO BGO
        have HB := HB_
        have B0 := B0_
        have WO := WO_
        have BWO := BWO_
        have X0 := X0_
        have BX0 := BX0_
        have X1 := X1_
        have X3 := X3_
        have GO := GO_
        have BGO := BGO_
        clear HB_ B0_ WO_ BWO_ X0_ BX0_ X1_ X3_ GO_ BGO_
        clear hb hk2 HK
        go_wp2_with fail
        refine (CT1.out _ (R1.out _ HB.out)).mono ?_
        rintro e w13_ ⟨⟨v13, rfl, ho⟩, hb⟩
        obtain ⟨q13, k13, rfl⟩ := Own.shape ho
        have A_WO_Q1 := Lib.hid (apart_of (fun k hk => (Own.block WO.out k hk).2) (fun k hk => (Own.block ho k hk).1))
        have A_X0_Q1 := Lib.hid (apart_of (fun k hk => (Own.block X0.out k hk).2) (fun k hk => (Own.block ho k hk).1))
        have A_X1_Q1 := Lib.hid (apart_of (fun k hk => (Own.block X1.out k hk).2) (fun k hk => (Own.block ho k hk).1))
        have A_X3_Q1 := Lib.hid (apart_of (fun k hk => (Own.block X3.out k hk).2) (fun k hk => (Own.block ho k hk).1))
        have A_GO_Q1 := Lib.hid (apart_of (fun k hk => (Own.block GO.out k hk).2) (fun k hk => (Own.block ho k hk).1))
        have M_B0_Q1 : Hid (Value.ownBlock (.slice q13 z1.length k13) = some (w.heap.size) → False) := Lib.hid (fun e => by have h1 := (Own.block ho _ e).1; have h2 := Blk.lt B0.out; omega)
        have M_BWO_Q1 : Hid (Value.ownBlock (.slice q13 z1.length k13) = some (w6_.heap.size) → False) := Lib.hid (fun e => by have h1 := (Own.block ho _ e).1; have h2 := Blk.lt BWO.out; omega)
        have M_BX0_Q1 : Hid (Value.ownBlock (.slice q13 z1.length k13) = some (w7_.heap.size) → False) := Lib.hid (fun e => by have h1 := (Own.block ho _ e).1; have h2 := Blk.lt BX0.out; omega)
        have M_BGO_Q1 : Hid (Value.ownBlock (.slice q13 z1.length k13) = some (w10_.heap.size) → False) := Lib.hid (fun e => by have h1 := (Own.block ho _ e).1; have h2 := Blk.lt BGO.out; omega)
        have L_Q1 : Hid (∀ k, Value.ownBlock (.slice q13 z1.length k13) = some k → (w.heap.size + 1) ≤ k) := Lib.hid (fun k hk => Nat.le_trans (LS.out _ HB.out) (Own.block ho k hk).1)
        have HB_ := Lib.hid (HB.out.trans (hb.mono (LS.out _ HB.out)))
        have B0_ := Lib.hid (Blk.below B0.out hb (Blk.lt B0.out))
        have WO_ := Lib.hid (WO.out.below hb (Nat.le_refl _))
        have BWO_ := Lib.hid (Blk.below BWO.out hb (Blk.lt BWO.out))
        have X0_ := Lib.hid (X0.out.below hb (Nat.le_refl _))
        have BX0_ := Lib.hid (Blk.below BX0.out hb (Blk.lt BX0.out))
        have X1_ := Lib.hid (X1.out.below hb (Nat.le_refl _))
        have X3_ := Lib.hid (X3.out.below hb (Nat.le_refl _))
        have GO_ := Lib.hid (GO.out.below hb (Nat.le_refl _))
        have BGO_ := Lib.hid (Blk.below BGO.out hb (Blk.lt BGO.out))
        clear HB B0 WO BWO X0 BX0 X1 X3 GO BGO
        have HB := HB_
        have B0 := B0_
        have WO := WO_
        have BWO := BWO_
        have X0 := X0_
        have BX0 := BX0_
        have X1 := X1_
        have X3 := X3_
        have GO := GO_
        have BGO := BGO_
        clear HB_ B0_ WO_ BWO_ X0_ BX0_ X1_ X3_ GO_ BGO_
        clear hb
        have Q1 := Lib.hid ho
        clear ho
        obtain ⟨_, _, eq_, RX_X1⟩ := OwnA.rd X1.out
        cases eq_
        replace RX_X1 := Lib.hid RX_X1
        obtain ⟨_, _, eq_, RX_Q1⟩ := OwnA.rd Q1.out
        cases eq_
        replace RX_Q1 := Lib.hid RX_Q1
        go_wp2_with fail
        refine (CE1.out _ _ _ _ _ RX_X1.out RX_Q1.out).mono ?_
        rintro e w14 ⟨rfl, hb⟩
        have HB_ := Lib.hid (HB.out.trans (hb.mono (LS.out _ HB.out)))
        have B0_ := Lib.hid (Blk.below B0.out hb (Blk.lt B0.out))
        have WO_ := Lib.hid (WO.out.below hb (Nat.le_refl _))
        have BWO_ := Lib.hid (Blk.below BWO.out hb (Blk.lt BWO.out))
        have X0_ := Lib.hid (X0.out.below hb (Nat.le_refl _))
        have BX0_ := Lib.hid (Blk.below BX0.out hb (Blk.lt BX0.out))
        have X1_ := Lib.hid (X1.out.below hb (Nat.le_refl _))
        have X3_ := Lib.hid (X3.out.below hb (Nat.le_refl _))
        have GO_ := Lib.hid (GO.out.below hb (Nat.le_refl _))
        have BGO_ := Lib.hid (Blk.below BGO.out hb (Blk.lt BGO.out))
        have Q1_ := Lib.hid (Q1.out.below hb (Nat.le_refl _))
        clear HB B0 WO BWO X0 BX0 X1 X3 GO BGO Q1
        have HB := HB_
        have B0 := B0_
        have WO := WO_
        have BWO := BWO_
        have X0 := X0_
        have BX0 := BX0_
        have X1 := X1_
        have X3 := X3_
        have GO := GO_
        have BGO := BGO_
        have Q1 := Q1_
        clear HB_ B0_ WO_ BWO_ X0_ BX0_ X1_ X3_ GO_ BGO_ Q1_
        clear hb
        clear RX_X1 RX_Q1
        clear Q1
        go_wp2_with fail
        refine (CT3.out _ (R3.out _ HB.out)).mono ?_
        rintro e w15_ ⟨⟨v15, rfl, ho⟩, hb⟩
        obtain ⟨q15, k15, rfl⟩ := Own.shape ho
        have A_WO_Q3 := Lib.hid (apart_of (fun k hk => (Own.block WO.out k hk).2) (fun k hk => (Own.block ho k hk).1))
        have A_X0_Q3 := Lib.hid (apart_of (fun k hk => (Own.block X0.out k hk).2) (fun k hk => (Own.block ho k hk).1))
        have A_X1_Q3 := Lib.hid (apart_of (fun k hk => (Own.block X1.out k hk).2) (fun k hk => (Own.block ho k hk).1))
        have A_X3_Q3 := Lib.hid (apart_of (fun k hk => (Own.block X3.out k hk).2) (fun k hk => (Own.block ho k hk).1))
        have A_GO_Q3 := Lib.hid (apart_of (fun k hk => (Own.block GO.out k hk).2) (fun k hk => (Own.block ho k hk).1))
        have M_B0_Q3 : Hid (Value.ownBlock (.slice q15 y3.length k15) = some (w.heap.size) → False) := Lib.hid (fun e => by have h1 := (Own.block ho _ e).1; have h2 := Blk.lt B0.out; omega)
        have M_BWO_Q3 : Hid (Value.ownBlock (.slice q15 y3.length k15) = some (w6_.heap.size) → False) := Lib.hid (fun e => by have h1 := (Own.block ho _ e).1; have h2 := Blk.lt BWO.out; omega)
        have M_BX0_Q3 : Hid (Value.ownBlock (.slice q15 y3.length k15) = some (w7_.heap.size) → False) := Lib.hid (fun e => by have h1 := (Own.block ho _ e).1; have h2 := Blk.lt BX0.out; omega)
        have M_BGO_Q3 : Hid (Value.ownBlock (.slice q15 y3.length k15) = some (w10_.heap.size) → False) := Lib.hid (fun e => by have h1 := (Own.block ho _ e).1; have h2 := Blk.lt BGO.out; omega)
        have L_Q3 : Hid (∀ k, Value.ownBlock (.slice q15 y3.length k15) = some k → (w.heap.size + 1) ≤ k) := Lib.hid (fun k hk => Nat.le_trans (LS.out _ HB.out) (Own.block ho k hk).1)
        have HB_ := Lib.hid (HB.out.trans (hb.mono (LS.out _ HB.out)))
        have B0_ := Lib.hid (Blk.below B0.out hb (Blk.lt B0.out))
        have WO_ := Lib.hid (WO.out.below hb (Nat.le_refl _))
        have BWO_ := Lib.hid (Blk.below BWO.out hb (Blk.lt BWO.out))
        have X0_ := Lib.hid (X0.out.below hb (Nat.le_refl _))
        have BX0_ := Lib.hid (Blk.below BX0.out hb (Blk.lt BX0.out))
        have X1_ := Lib.hid (X1.out.below hb (Nat.le_refl _))
        have X3_ := Lib.hid (X3.out.below hb (Nat.le_refl _))
        have GO_ := Lib.hid (GO.out.below hb (Nat.le_refl _))
        have BGO_ := Lib.hid (Blk.below BGO.out hb (Blk.lt BGO.out))
        clear HB B0 WO BWO X0 BX0 X1 X3 GO BGO
        have HB := HB_
        have B0 := B0_
        have WO := WO_
        have BWO := BWO_
        have X0 := X0_
        have BX0 := BX0_
        have X1 := X1_
        have X3 := X3_
        have GO := GO_
        have BGO := BGO_
        clear HB_ B0_ WO_ BWO_ X0_ BX0_ X1_ X3_ GO_ BGO_
        clear hb
        have Q3 := Lib.hid ho
        clear ho
        obtain ⟨_, _, eq_, RX_X3⟩ := OwnI.rd X3.out
        cases eq_
        replace RX_X3 := Lib.hid RX_X3
        obtain ⟨_, _, eq_, RX_Q3⟩ := OwnI.rd Q3.out
        cases eq_
        replace RX_Q3 := Lib.hid RX_Q3
        go_wp2_with fail
        refine (CE3.out _ _ _ _ _ RX_X3.out RX_Q3.out).mono ?_
        rintro e w16 ⟨rfl, hb⟩
        have HB_ := Lib.hid (HB.out.trans (hb.mono (LS.out _ HB.out)))
        have B0_ := Lib.hid (Blk.below B0.out hb (Blk.lt B0.out))
        have WO_ := Lib.hid (WO.out.below hb (Nat.le_refl _))
        have BWO_ := Lib.hid (Blk.below BWO.out hb (Blk.lt BWO.out))
        have X0_ := Lib.hid (X0.out.below hb (Nat.le_refl _))
        have BX0_ := Lib.hid (Blk.below BX0.out hb (Blk.lt BX0.out))
        have X1_ := Lib.hid (X1.out.below hb (Nat.le_refl _))
        have X3_ := Lib.hid (X3.out.below hb (Nat.le_refl _))
        have GO_ := Lib.hid (GO.out.below hb (Nat.le_refl _))
        have BGO_ := Lib.hid (Blk.below BGO.out hb (Blk.lt BGO.out))
        have Q3_ := Lib.hid (Q3.out.below hb (Nat.le_refl _))
        clear HB B0 WO BWO X0 BX0 X1 X3 GO BGO Q3
        have HB := HB_
        have B0 := B0_
        have WO := WO_
        have BWO := BWO_
        have X0 := X0_
        have BX0 := BX0_
        have X1 := X1_
        have X3 := X3_
        have GO := GO_
        have BGO := BGO_
        have Q3 := Q3_
        clear HB_ B0_ WO_ BWO_ X0_ BX0_ X1_ X3_ GO_ BGO_ Q3_
        clear hb
        clear RX_X3 RX_Q3
        clear Q3
        have c_BX00 := Blk.cell BX0.out 0
        simp only [List.getElem?_cons_zero] at c_BX00
        go_wp2_with fail
        refine (DM0.out _ _ _ _ ⟨rfl, X0.out⟩).mono ?_
        rintro e w17 ⟨rfl, ho, hg⟩
        clear c_BX00
        clear ho
        have HB_ := Lib.hid (HB.out.grown hg (LS.out _ HB.out) (fun k hk => L_X0.out k hk))
        have B0_ := Lib.hid (Blk.kept B0.out hg (fun e => M_B0_X0.out e.symm))
        have WO_ := Lib.hid (Own.kept WO.out hg (apart_sym A_WO_X0.out))
        have BWO_ := Lib.hid (Blk.kept BWO.out hg (fun e => M_BWO_X0.out e.symm))
        have BX0_ := Lib.hid (Blk.kept BX0.out hg (fun e => M_BX0_X0.out e.symm))
        have X1_ := Lib.hid (Own.kept X1.out hg A_X0_X1.out)
        have X3_ := Lib.hid (Own.kept X3.out hg A_X0_X3.out)
        have GO_ := Lib.hid (Own.kept GO.out hg A_X0_GO.out)
        have BGO_ := Lib.hid (Blk.kept BGO.out hg (fun e => M_BGO_X0.out e.symm))
        clear X0
        clear HB B0 WO BWO BX0 X1 X3 GO BGO
        have HB := HB_
        have B0 := B0_
        have WO := WO_
        have BWO := BWO_
        have BX0 := BX0_
        have X1 := X1_
        have X3 := X3_
        have GO := GO_
        have BGO := BGO_
        clear HB_ B0_ WO_ BWO_ BX0_ X1_ X3_ GO_ BGO_
        clear hg
        clear BX0
        go_wp2_with fail
        refine (DM1.out _ _ _ X1.out).mono ?_
        rintro e w18 ⟨rfl, ho, hg⟩
        clear ho
        have HB_ := Lib.hid (HB.out.grown hg (LS.out _ HB.out) (fun k hk => L_X1.out k hk))
        have B0_ := Lib.hid (Blk.kept B0.out hg (fun e => M_B0_X1.out e.symm))
        have WO_ := Lib.hid (Own.kept WO.out hg (apart_sym A_WO_X1.out))
        have BWO_ := Lib.hid (Blk.kept BWO.out hg (fun e => M_BWO_X1.out e.symm))
        have X3_ := Lib.hid (Own.kept X3.out hg A_X1_X3.out)
        have GO_ := Lib.hid (Own.kept GO.out hg A_X1_GO.out)
        have BGO_ := Lib.hid (Blk.kept BGO.out hg (fun e => M_BGO_X1.out e.symm))
        clear X1
        clear HB B0 WO BWO X3 GO BGO
        have HB := HB_
        have B0 := B0_
        have WO := WO_
        have BWO := BWO_
        have X3 := X3_
        have GO := GO_
        have BGO := BGO_
        clear HB_ B0_ WO_ BWO_ X3_ GO_ BGO_
        clear hg
        go_wp2_with fail
        refine (DM3.out _ _ _ X3.out).mono ?_
        rintro e w19 ⟨rfl, ho, hg⟩
        clear ho
        have HB_ := Lib.hid (HB.out.grown hg (LS.out _ HB.out) (fun k hk => L_X3.out k hk))
        have B0_ := Lib.hid (Blk.kept B0.out hg (fun e => M_B0_X3.out e.symm))
        have WO_ := Lib.hid (Own.kept WO.out hg (apart_sym A_WO_X3.out))
        have BWO_ := Lib.hid (Blk.kept BWO.out hg (fun e => M_BWO_X3.out e.symm))
        have GO_ := Lib.hid (Own.kept GO.out hg A_X3_GO.out)
        have BGO_ := Lib.hid (Blk.kept BGO.out hg (fun e => M_BGO_X3.out e.symm))
        clear X3
        clear HB B0 WO BWO GO BGO
        have HB := HB_
        have B0 := B0_
        have WO := WO_
        have BWO := BWO_
        have GO := GO_
        have BGO := BGO_
        clear HB_ B0_ WO_ BWO_ GO_ BGO_
        clear hg
        have c_BGO0 := Blk.cell BGO.out 0
        have c_BWO0 := Blk.cell BWO.out 0
        simp only [List.getElem?_cons_zero] at c_BGO0 c_BWO0
        go_wp2_with fail
        refine (CE.out _ _ _ (OwnK.rd ⟨rfl, GO.out⟩) (OwnK.rd ⟨rfl, WO.out⟩)).mono ?_
        rintro e w20 ⟨rfl, hb⟩
        clear c_BGO0 c_BWO0
        have HB_ := Lib.hid (HB.out.trans (hb.mono (LS.out _ HB.out)))
        have B0_ := Lib.hid (Blk.below B0.out hb (Blk.lt B0.out))
        have WO_ := Lib.hid (WO.out.below hb (Nat.le_refl _))
        have BWO_ := Lib.hid (Blk.below BWO.out hb (Blk.lt BWO.out))
        have GO_ := Lib.hid (GO.out.below hb (Nat.le_refl _))
        have BGO_ := Lib.hid (Blk.below BGO.out hb (Blk.lt BGO.out))
        clear HB B0 WO BWO GO BGO
        have HB := HB_
        have B0 := B0_
        have WO := WO_
        have BWO := BWO_
        have GO := GO_
        have BGO := BGO_
        clear HB_ B0_ WO_ BWO_ GO_ BGO_
        clear hb
        have c_BGO0 := Blk.cell BGO.out 0
        simp only [List.getElem?_cons_zero] at c_BGO0
        go_wp2_with fail
        refine (DMG.out _ _ _ _ ⟨rfl, GO.out⟩).mono ?_
        rintro e w21 ⟨rfl, ho, hg⟩
        clear c_BGO0
        have HB_ := Lib.hid (HB.out.grown hg (LS.out _ HB.out) (fun k hk => L_GO.out k hk))
        have B0_ := Lib.hid (Blk.kept B0.out hg (fun e => M_B0_GO.out e.symm))
        have WO_ := Lib.hid (Own.kept WO.out hg (apart_sym A_WO_GO.out))
        have BWO_ := Lib.hid (Blk.kept BWO.out hg (fun e => M_BWO_GO.out e.symm))
        have BGO_ := Lib.hid (Blk.kept BGO.out hg (fun e => M_BGO_GO.out e.symm))
        clear GO
        clear HB B0 WO BWO BGO
        have HB := HB_
        have B0 := B0_
        have WO := WO_
        have BWO := BWO_
        have BGO := BGO_
        clear HB_ B0_ WO_ BWO_ BGO_
        clear hg
        have GR := Lib.hid ho.rd
        clear ho
        have c_BGO0 := Blk.cell BGO.out 0
        simp only [List.getElem?_cons_zero] at c_BGO0
        go_wp2_with fail
        refine (DHG.out _ _ GR.out).mono ?_
        rintro e w22 ⟨rfl, hb⟩
        clear c_BGO0
        have HB_ := Lib.hid (HB.out.trans (hb.mono (LS.out _ HB.out)))
        have B0_ := Lib.hid (Blk.below B0.out hb (Blk.lt B0.out))
        have WO_ := Lib.hid (WO.out.below hb (Nat.le_refl _))
        have BWO_ := Lib.hid (Blk.below BWO.out hb (Blk.lt BWO.out))
        have BGO_ := Lib.hid (Blk.below BGO.out hb (Blk.lt BGO.out))
        have GR_ := Lib.hid (GR.out.below hb (Nat.le_refl _))
        clear HB B0 WO BWO BGO GR
        have HB := HB_
        have B0 := B0_
        have WO := WO_
        have BWO := BWO_
        have BGO := BGO_
        have GR := GR_
        clear HB_ B0_ WO_ BWO_ BGO_ GR_
        clear hb
        have c_B00 := Blk.cell B0.out 0
        simp only [List.getElem?_cons_zero] at c_B00
        go_wp2_with fail
        refine (CT0.out _ (R0.out _ HB.out)).mono ?_
        rintro e w23_ ⟨⟨v23, u23, rfl, ho⟩, hb⟩
        clear c_B00
        obtain ⟨rfl, ho⟩ := ho
        obtain ⟨q23, k23, rfl⟩ := Own.shape ho
        have A_WO_H0 := Lib.hid (apart_of (fun k hk => (Own.block WO.out k hk).2) (fun k hk => (Own.block ho k hk).1))
        have M_B0_H0 : Hid (Value.ownBlock (.slice q23 z0.length k23) = some (w.heap.size) → False) := Lib.hid (fun e => by have h1 := (Own.block ho _ e).1; have h2 := Blk.lt B0.out; omega)
        have M_BWO_H0 : Hid (Value.ownBlock (.slice q23 z0.length k23) = some (w6_.heap.size) → False) := Lib.hid (fun e => by have h1 := (Own.block ho _ e).1; have h2 := Blk.lt BWO.out; omega)
        have M_BGO_H0 : Hid (Value.ownBlock (.slice q23 z0.length k23) = some (w10_.heap.size) → False) := Lib.hid (fun e => by have h1 := (Own.block ho _ e).1; have h2 := Blk.lt BGO.out; omega)
        have L_H0 : Hid (∀ k, Value.ownBlock (.slice q23 z0.length k23) = some k → (w.heap.size + 1) ≤ k) := Lib.hid (fun k hk => Nat.le_trans (LS.out _ HB.out) (Own.block ho k hk).1)
        have HB_ := Lib.hid (HB.out.trans (hb.mono (LS.out _ HB.out)))
        have B0_ := Lib.hid (Blk.below B0.out hb (Blk.lt B0.out))
        have WO_ := Lib.hid (WO.out.below hb (Nat.le_refl _))
        have BWO_ := Lib.hid (Blk.below BWO.out hb (Blk.lt BWO.out))
        have BGO_ := Lib.hid (Blk.below BGO.out hb (Blk.lt BGO.out))
        have GR_ := Lib.hid (GR.out.below hb (Nat.le_refl _))
        clear HB B0 WO BWO BGO GR
        have HB := HB_
        have B0 := B0_
        have WO := WO_
        have BWO := BWO_
        have BGO := BGO_
        have GR := GR_
        clear HB_ B0_ WO_ BWO_ BGO_ GR_
        clear hb
        have H0 := Lib.hid ho
        clear ho
        go_wp2_with fail
        refine (CT1.out _ (R1.out _ HB.out)).mono ?_
        rintro e w24_ ⟨⟨v24, rfl, ho⟩, hb⟩
        obtain ⟨q24, k24, rfl⟩ := Own.shape ho
        have A_WO_H1 := Lib.hid (apart_of (fun k hk => (Own.block WO.out k hk).2) (fun k hk => (Own.block ho k hk).1))
        have A_H0_H1 := Lib.hid (apart_of (fun k hk => (Own.block H0.out k hk).2) (fun k hk => (Own.block ho k hk).1))
        have M_B0_H1 : Hid (Value.ownBlock (.slice q24 z1.length k24) = some (w.heap.size) → False) := Lib.hid (fun e => by have h1 := (Own.block ho _ e).1; have h2 := Blk.lt B0.out; omega)
        have M_BWO_H1 : Hid (Value.ownBlock (.slice q24 z1.length k24) = some (w6_.heap.size) → False) := Lib.hid (fun e => by have h1 := (Own.block ho _ e).1; have h2 := Blk.lt BWO.out; omega)
        have M_BGO_H1 : Hid (Value.ownBlock (.slice q24 z1.length k24) = some (w10_.heap.size) → False) := Lib.hid (fun e => by have h1 := (Own.block ho _ e).1; have h2 := Blk.lt BGO.out; omega)
        have L_H1 : Hid (∀ k, Value.ownBlock (.slice q24 z1.length k24) = some k → (w.heap.size + 1) ≤ k) := Lib.hid (fun k hk => Nat.le_trans (LS.out _ HB.out) (Own.block ho k hk).1)
        have HB_ := Lib.hid (HB.out.trans (hb.mono (LS.out _ HB.out)))
        have B0_ := Lib.hid (Blk.below B0.out hb (Blk.lt B0.out))
        have WO_ := Lib.hid (WO.out.below hb (Nat.le_refl _))
        have BWO_ := Lib.hid (Blk.below BWO.out hb (Blk.lt BWO.out))
        have BGO_ := Lib.hid (Blk.below BGO.out hb (Blk.lt BGO.out))
        have GR_ := Lib.hid (GR.out.below hb (Nat.le_refl _))
        have H0_ := Lib.hid (H0.out.below hb (Nat.le_refl _))
        clear HB B0 WO BWO BGO GR H0
        have HB := HB_
        have B0 := B0_
        have WO := WO_
        have BWO := BWO_
        have BGO := BGO_
        have GR := GR_
        have H0 := H0_
        clear HB_ B0_ WO_ BWO_ BGO_ GR_ H0_
        clear hb
        have H1 := Lib.hid ho
        clear ho
        go_wp2_with fail
        refine (CT3.out _ (R3.out _ HB.out)).mono ?_
        rintro e w25_ ⟨⟨v25, rfl, ho⟩, hb⟩
        obtain ⟨q25, k25, rfl⟩ := Own.shape ho
        have A_WO_H3 := Lib.hid (apart_of (fun k hk => (Own.block WO.out k hk).2) (fun k hk => (Own.block ho k hk).1))
        have A_H0_H3 := Lib.hid (apart_of (fun k hk => (Own.block H0.out k hk).2) (fun k hk => (Own.block ho k hk).1))
        have A_H1_H3 := Lib.hid (apart_of (fun k hk => (Own.block H1.out k hk).2) (fun k hk => (Own.block ho k hk).1))
        have M_B0_H3 : Hid (Value.ownBlock (.slice q25 y3.length k25) = some (w.heap.size) → False) := Lib.hid (fun e => by have h1 := (Own.block ho _ e).1; have h2 := Blk.lt B0.out; omega)
        have M_BWO_H3 : Hid (Value.ownBlock (.slice q25 y3.length k25) = some (w6_.heap.size) → False) := Lib.hid (fun e => by have h1 := (Own.block ho _ e).1; have h2 := Blk.lt BWO.out; omega)
        have M_BGO_H3 : Hid (Value.ownBlock (.slice q25 y3.length k25) = some (w10_.heap.size) → False) := Lib.hid (fun e => by have h1 := (Own.block ho _ e).1; have h2 := Blk.lt BGO.out; omega)
        have L_H3 : Hid (∀ k, Value.ownBlock (.slice q25 y3.length k25) = some k → (w.heap.size + 1) ≤ k) := Lib.hid (fun k hk => Nat.le_trans (LS.out _ HB.out) (Own.block ho k hk).1)
        have HB_ := Lib.hid (HB.out.trans (hb.mono (LS.out _ HB.out)))
        have B0_ := Lib.hid (Blk.below B0.out hb (Blk.lt B0.out))
        have WO_ := Lib.hid (WO.out.below hb (Nat.le_refl _))
        have BWO_ := Lib.hid (Blk.below BWO.out hb (Blk.lt BWO.out))
        have BGO_ := Lib.hid (Blk.below BGO.out hb (Blk.lt BGO.out))
        have GR_ := Lib.hid (GR.out.below hb (Nat.le_refl _))
        have H0_ := Lib.hid (H0.out.below hb (Nat.le_refl _))
        have H1_ := Lib.hid (H1.out.below hb (Nat.le_refl _))
        clear HB B0 WO BWO BGO GR H0 H1
        have HB := HB_
        have B0 := B0_
        have WO := WO_
        have BWO := BWO_
        have BGO := BGO_
        have GR := GR_
        have H0 := H0_
        have H1 := H1_
        clear HB_ B0_ WO_ BWO_ BGO_ GR_ H0_ H1_
        clear hb
        have H3 := Lib.hid ho
        clear ho
        obtain ⟨_, _, eq_, RC_H1⟩ := OwnA.rdc H1.out
        cases eq_
        replace RC_H1 := Lib.hid RC_H1
        obtain ⟨_, _, eq_, RX_H3⟩ := OwnI.rd H3.out
        cases eq_
        replace RX_H3 := Lib.hid RX_H3
        go_wp2_with fail
        refine (DI.out _ _ _ _ _ _ (OwnK.rd ⟨rfl, H0.out⟩) RC_H1.out RX_H3.out).mono ?_
        rintro e w26_ ⟨⟨v26, u26, rfl, ho⟩, hb⟩
        obtain ⟨rfl, ho⟩ := ho
        obtain ⟨q26, k26, rfl⟩ := Own.shape ho
        have A_WO_HO := Lib.hid (apart_of (fun k hk => (Own.block WO.out k hk).2) (fun k hk => (Own.block ho k hk).1))
        have A_H0_HO := Lib.hid (apart_of (fun k hk => (Own.block H0.out k hk).2) (fun k hk => (Own.block ho k hk).1))
        have A_H1_HO := Lib.hid (apart_of (fun k hk => (Own.block H1.out k hk).2) (fun k hk => (Own.block ho k hk).1))
        have A_H3_HO := Lib.hid (apart_of (fun k hk => (Own.block H3.out k hk).2) (fun k hk => (Own.block ho k hk).1))
        have M_B0_HO : Hid (Value.ownBlock (.slice q26 rl.length k26) = some (w.heap.size) → False) := Lib.hid (fun e => by have h1 := (Own.block ho _ e).1; have h2 := Blk.lt B0.out; omega)
        have M_BWO_HO : Hid (Value.ownBlock (.slice q26 rl.length k26) = some (w6_.heap.size) → False) := Lib.hid (fun e => by have h1 := (Own.block ho _ e).1; have h2 := Blk.lt BWO.out; omega)
        have M_BGO_HO : Hid (Value.ownBlock (.slice q26 rl.length k26) = some (w10_.heap.size) → False) := Lib.hid (fun e => by have h1 := (Own.block ho _ e).1; have h2 := Blk.lt BGO.out; omega)
        have L_HO : Hid (∀ k, Value.ownBlock (.slice q26 rl.length k26) = some k → (w.heap.size + 1) ≤ k) := Lib.hid (fun k hk => Nat.le_trans (LS.out _ HB.out) (Own.block ho k hk).1)
        have HB_ := Lib.hid (HB.out.trans (hb.mono (LS.out _ HB.out)))
        have B0_ := Lib.hid (Blk.below B0.out hb (Blk.lt B0.out))
        have WO_ := Lib.hid (WO.out.below hb (Nat.le_refl _))
        have BWO_ := Lib.hid (Blk.below BWO.out hb (Blk.lt BWO.out))
        have BGO_ := Lib.hid (Blk.below BGO.out hb (Blk.lt BGO.out))
        have GR_ := Lib.hid (GR.out.below hb (Nat.le_refl _))
        have H0_ := Lib.hid (H0.out.below hb (Nat.le_refl _))
        have H1_ := Lib.hid (H1.out.below hb (Nat.le_refl _))
        have H3_ := Lib.hid (H3.out.below hb (Nat.le_refl _))
        clear HB B0 WO BWO BGO GR H0 H1 H3
        have HB := HB_
        have B0 := B0_
        have WO := WO_
        have BWO := BWO_
        have BGO := BGO_
        have GR := GR_
        have H0 := H0_
        have H1 := H1_
        have H3 := H3_
        clear HB_ B0_ WO_ BWO_ BGO_ GR_ H0_ H1_ H3_
        clear hb
        have HO := Lib.hid ho
        clear ho
        clear RC_H1 RX_H3
        clear H0
        clear H1
        clear H3
        have M_BHO_WO : Hid (Value.ownBlock (.slice q6 rl.length k6) = some (w26_.heap.size) → False) := Lib.hid (fun e => by have h2 := (Own.block WO.out _ e).2; omega)
        have M_BHO_HO : Hid (Value.ownBlock (.slice q26 rl.length k26) = some (w26_.heap.size) → False) := Lib.hid (fun e => by have h2 := (Own.block HO.out _ e).2; omega)
        have hb := (Below.refl w26_.heap.size w26_).alloc (Nat.le_refl _) (.cells #[.slice q26 rl.length k26] 29)
        have BHO := Lib.hid (Blk.new w26_ 29 [.slice q26 rl.length k26] _ rfl)
        have HB_ := Lib.hid (HB.out.trans (hb.mono (LS.out _ HB.out)))
        have B0_ := Lib.hid (Blk.below B0.out hb (Blk.lt B0.out))
        have WO_ := Lib.hid (WO.out.below hb (Nat.le_refl _))
        have BWO_ := Lib.hid (Blk.below BWO.out hb (Blk.lt BWO.out))
        have BGO_ := Lib.hid (Blk.below BGO.out hb (Blk.lt BGO.out))
        have GR_ := Lib.hid (GR.out.below hb (Nat.le_refl _))
        have HO_ := Lib.hid (HO.out.below hb (Nat.le_refl _))
        clear HB B0 WO BWO BGO GR HO
        have HB := HB_
        have B0 := B0_
        have WO := WO_
        have BWO := BWO_
        have BGO := BGO_
        have GR := GR_
        have HO := HO_
        clear HB_ B0_ WO_ BWO_ BGO_ GR_ HO_
        clear hb
        have c_BHO0 := Blk.cell BHO.out 0
        have c_BWO0 := Blk.cell BWO.out 0
        simp only [List.getElem?_cons_zero] at c_BHO0 c_BWO0
        go_wp2_with fail
        refine (CE.out _ _ _ (OwnK.rd ⟨rfl, HO.out⟩) (OwnK.rd ⟨rfl, WO.out⟩)).mono ?_
        rintro e w27 ⟨rfl, hb⟩
        clear c_BHO0 c_BWO0
        have HB_ := Lib.hid (HB.out.trans (hb.mono (LS.out _ HB.out)))
        have B0_ := Lib.hid (Blk.below B0.out hb (Blk.lt B0.out))
        have WO_ := Lib.hid (WO.out.below hb (Nat.le_refl _))
        have BWO_ := Lib.hid (Blk.below BWO.out hb (Blk.lt BWO.out))
        have BGO_ := Lib.hid (Blk.below BGO.out hb (Blk.lt BGO.out))
        have GR_ := Lib.hid (GR.out.below hb (Nat.le_refl _))
        have HO_ := Lib.hid (HO.out.below hb (Nat.le_refl _))
        have BHO_ := Lib.hid (Blk.below BHO.out hb (Blk.lt BHO.out))
        clear HB B0 WO BWO BGO GR HO BHO
        have HB := HB_
        have B0 := B0_
        have WO := WO_
        have BWO := BWO_
        have BGO := BGO_
        have GR := GR_
        have HO := HO_
        have BHO := BHO_
        clear HB_ B0_ WO_ BWO_ BGO_ GR_ HO_ BHO_
        clear hb
        have c_BGO0 := Blk.cell BGO.out 0
        simp only [List.getElem?_cons_zero] at c_BGO0
        go_wp2_with fail
        refine (DHG.out _ _ GR.out).mono ?_
        rintro e w28 ⟨rfl, hb⟩
        clear c_BGO0
        have HB_ := Lib.hid (HB.out.trans (hb.mono (LS.out _ HB.out)))
        have B0_ := Lib.hid (Blk.below B0.out hb (Blk.lt B0.out))
        have WO_ := Lib.hid (WO.out.below hb (Nat.le_refl _))
        have BWO_ := Lib.hid (Blk.below BWO.out hb (Blk.lt BWO.out))
        have BGO_ := Lib.hid (Blk.below BGO.out hb (Blk.lt BGO.out))
        have GR_ := Lib.hid (GR.out.below hb (Nat.le_refl _))
        have HO_ := Lib.hid (HO.out.below hb (Nat.le_refl _))
        have BHO_ := Lib.hid (Blk.below BHO.out hb (Blk.lt BHO.out))
        clear HB B0 WO BWO BGO GR HO BHO
        have HB := HB_
        have B0 := B0_
        have WO := WO_
        have BWO := BWO_
        have BGO := BGO_
        have GR := GR_
        have HO := HO_
        have BHO := BHO_
        clear HB_ B0_ WO_ BWO_ BGO_ GR_ HO_ BHO_
        clear hb
        go_wp2_with fail
        go_ret
        exact ⟨rfl, HB0.out.trans (HB.out.mono (Nat.le_succ _))⟩
      · rw [szAc_no ht1] at CZ1
        have DZ1 := Lib.hid CZ1
        clear CZ1 ht1 hrd0 hrd1 hrd3
        go_enter Try.func13, Try.ntmps13
        go_wp2_with fail
        generalize w.alloc (.cells #[.slice a0 z0.length cap0] 24) = Wb at *
        have HB := Lib.hid (Below.refl (w.heap.size + 1) Wb)
        refine (DZ0.out _ (R0.out _ HB.out)).mono ?_
        rintro e w1_ ⟨rfl, hb⟩
        have HB_ := Lib.hid (HB.out.trans (hb.mono (LS.out _ HB.out)))
        have B0_ := Lib.hid (Blk.below B0.out hb (Blk.lt B0.out))
        clear HB B0
        have HB := HB_
        have B0 := B0_
        clear HB_ B0_
        clear hb
        go_wp2_with fail
        refine (DZ1.out _ (R1.out _ HB.out)).mono ?_
        rintro e w2_ ⟨rfl, hb⟩
        have HB_ := Lib.hid (HB.out.trans (hb.mono (LS.out _ HB.out)))
        have B0_ := Lib.hid (Blk.below B0.out hb (Blk.lt B0.out))
        clear HB B0
        have HB := HB_
        have B0 := B0_
        clear HB_ B0_
        clear hb
        go_wp2_with fail
        go_ret
        exact ⟨rfl, HB0.out.trans (HB.out.mono (Nat.le_succ _))⟩
    · rw [szFl_no ht0] at CZ0
      have DZ0 := Lib.hid CZ0
      clear CZ0 ht0 hrd0 hrd1 hrd3
      go_enter Try.func13, Try.ntmps13
      go_wp2_with fail
      generalize w.alloc (.cells #[.slice a0 z0.length cap0] 24) = Wb at *
      have HB := Lib.hid (Below.refl (w.heap.size + 1) Wb)
      refine (DZ0.out _ (R0.out _ HB.out)).mono ?_
      rintro e w1_ ⟨rfl, hb⟩
      have HB_ := Lib.hid (HB.out.trans (hb.mono (LS.out _ HB.out)))
      have B0_ := Lib.hid (Blk.below B0.out hb (Blk.lt B0.out))
      clear HB B0
      have HB := HB_
      have B0 := B0_
      clear HB_ B0_
      clear hb
      go_wp2_with fail
      go_ret
      exact ⟨rfl, HB0.out.trans (HB.out.mono (Nat.le_succ _))⟩
  · clear hrd0 hrd1 hrd3
    go_enter Try.func13, Try.ntmps13
    go_wp2_with fail
    go_ret
    exact ⟨rfl, HB0.out⟩

theorem own : ownKnob Try.prog.godebug = none := by kernel_rfl
theorem laidOut : laidOutB Try.prog = true := by kernel_rfl

set_option maxRecDepth 100000 in
theorem lifted (os : Os) (started : os.Started) (H : Type) (enc : TypeId × Value → H) :
    ReturnsInHanded {} Try.checked os 13 .any (Rows.fnExactCutActsSpec.pre6 enc Try.prog Try.f13 Rows.fnExactCutActsRow.domain false) (Rows.fnExactCutActsSpec.post enc Try.prog Try.f13 false true false false) := by
  refine returnsInHanded_of_change (C := Try.checked) own started (by kernel_rfl) Try.func13
    (ChangeSpec.witness6 (enc := enc) (C := Try.checked) false ⟨#[], #[.agg #[.slice none 0 0], .slice none 0 0, .int .i64 0, .slice none 0 0], []⟩ 8 (by kernel_rfl) (by kernel_rfl) (by kernel_rfl) (by kernel_rfl)) ?_
  intro W base args ds gs before hval0 hW hcnd _
  have hval : ∀ (j : Nat) t v, Try.f13.params[j]? = some t → args[j]? = some v → Value.okWide Try.prog W .any base t v := hval0
  have hW' := hW
  obtain ⟨p, q, hA0, hV, rfl, hfz, hnd⟩ := hW
  have hA : DataW.TrodAll enc Try.prog W 0 (fun _ => true) true Try.f13.params.toList args.toList ds p := hA0
  rw [Try.params13] at hA hval
  obtain ⟨v0, vs0, d0, ds0, p0, q0, hargs, rfl, rfl, h0, r0⟩ := trodAll_cons hA
  obtain ⟨v1, vs1, d1, ds1, p1, q1, rfl, rfl, rfl, h1, r1⟩ := trodAll_cons r0
  obtain ⟨v2, vs2, d2, ds2, p2, q2, rfl, rfl, rfl, h2, r2⟩ := trodAll_cons r1
  obtain ⟨v3, vs3, d3, ds3, p3, q3, rfl, rfl, rfl, h3, r3⟩ := trodAll_cons r2
  obtain ⟨rfl, rfl, rfl⟩ := trodAll_nil r3
  obtain rfl : args = #[v0, v1, v2, v3] := by cases args; simp_all
  obtain ⟨rfl, rfl⟩ := trodVars_none hV
  have k0 := h0
  have lt0 : ∀ x ∈ p0, x.block < W.heap.size := by obtain ⟨m, hm⟩ := k0; exact DataW.trod_lt m _ _ _ hm
  obtain ⟨a0, len0, cap0, z0, rfl, w0⟩ := isDisk_of Try.underlying24 (by kernel_rfl) (by kernel_rfl) Try.underlying22 Try.underlying110 (by kernel_rfl) (by kernel_rfl) Try.underlying9 Try.underlying9 Try.underlying3 (hval 0 24 v0 rfl rfl) h0
  have k1 := h1
  have lt1 : ∀ x ∈ p1, x.block < W.heap.size := by obtain ⟨m, hm⟩ := k1; exact DataW.trod_lt m _ _ _ hm
  obtain ⟨a1, len1, cap1, rfl⟩ := okWide_slice Try.underlying70 (hval 1 70 v1 rfl rfl)
  obtain ⟨z1, w1⟩ := isActs_of Try.underlying70 Try.underlying64 (by kernel_rfl) (by kernel_rfl) Try.underlying3 Try.underlying9 Try.underlying9 Try.underlying9 h1
  have k2 := h2
  have lt2 : ∀ x ∈ p2, x.block < W.heap.size := by obtain ⟨m, hm⟩ := k2; exact DataW.trod_lt m _ _ _ hm
  obtain ⟨a2, rfl, rfl, rfl, w2⟩ := open_int Try.underlying3 (hval 2 3 v2 rfl rfl) h2
  have k3 := h3
  have lt3 : ∀ x ∈ p3, x.block < W.heap.size := by obtain ⟨m, hm⟩ := k3; exact DataW.trod_lt m _ _ _ hm
  obtain ⟨a3, len3, cap3, rfl⟩ := okWide_slice Try.underlying36 (hval 3 36 v3 rfl rfl)
  obtain ⟨z3, w3⟩ := isRow_of Try.underlying36 Try.underlying3 (by kernel_rfl) h3
  clear hA0 hval0
  refine (walk a0 len0 cap0 z0 a1 len1 cap1 z1 a2 a3 len3 cap3 z3 W w0 w1 w2 w3).mono fun e W' ⟨he, bel⟩ => ?_
  subst he
  exact ⟨_, rfl, _, _, _, [], _, [], hW', trodAll_mk1 (shut_bool Try.underlying4 _), (trodAll_cons_mk (Below.trod laidOut (by kernel_rfl) (of_decide_eq_true (by kernel_rfl)) k0 bel lt0) (trodAll_cons_mk (Below.trod laidOut (by kernel_rfl) (of_decide_eq_true (by kernel_rfl)) k1 bel lt1) (trodAll_cons_mk (Below.trod laidOut (by kernel_rfl) (of_decide_eq_true (by kernel_rfl)) k2 bel lt2) (trodAll_cons_mk (Below.trod laidOut (by kernel_rfl) (of_decide_eq_true (by kernel_rfl)) k3 bel lt3) trodAll_mk0)))), rfl, bel.frame _, fun h => by cases h⟩

theorem over : Rows.fnExactCutActsRow.holds Try.pinned (OpenSpec.ofChange Rows.fnExactCutActsSpec) :=
  OpenClaim.holds_of_wide 13 Try.f13 rfl rfl rfl rfl rfl rfl rfl ⟨rfl, rfl, rfl, rfl, rfl⟩ rfl rfl rfl rfl rfl (by kernel_rfl) Try.func13 (by kernel_rfl)
    (of_decide_eq_true (by kernel_rfl)) (by unfold Func.isWrapper; first | (rw [if_pos (by decide +kernel)]; kernel_rfl) | (rw [if_neg (by decide +kernel)]; exact ⟨rfl, rfl⟩))
    (fun os started H enc _ => lifted os started H enc)

/-- The statement. -/
theorem proved : Rows.FnExactCutActsSaid :=
  over
#print axioms proved

end Go.Proofs.Ytdecehecjlbbiaa.fnExactCutActs
