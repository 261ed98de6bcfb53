/-
  For every disk, name and list of records (of at most 2^20 bytes, files and records; more are passed by) the program's AnewActs and the reference's return the same, the arguments stay, and what the program handed out is its caller's: 'FnExactAnewActs' returns true. No conditions.
-/
import Derived.Test.YtdecehecjlbbiaaFrameA
import Derived.Test.YtdecehecjlbbiaaFrameS
import Derived.Test.YtdecehecjlbbiaaLog3
import Derived.Test.YtdecehecjlbbiaaInts2
namespace Go.Proofs.Ytdecehecjlbbiaa.fnExactAnewActs
open Go.ChangeShapes Go.WideShapes Go.ChangeAt Go.RowKit
open Go.ChangeMaps (open_string shut_string)
set_option linter.unusedVariables false

set_option maxHeartbeats 8000000 in
set_option maxRecDepth 100000 in
theorem walk (a0 : Option Addr) (len0 cap0 : Nat) (z0 : List Fl) (a1 : ByteArray) (a2 : Option Addr) (len2 cap2 : Nat) (z2 : List ByteArray) (w : World) (w0 : IsFiles w a0 len0 cap0 z0) (w1 : a1.size ≤ maxLen) (w2 : IsStrs w a2 len2 cap2 z2) :
    Calls Try.prog 10 #[.agg #[.slice a0 len0 cap0], .string a1, .slice a2 len2 cap2] w fun e w' => e = .returned (.bool true) ∧ Below w.heap.size w w' := by
  obtain ⟨rfl, hmax0, heach0, hrd0⟩ := w0
  obtain ⟨rfl, hmax2, heach2, hrd2⟩ := w2
  unfold maxLen at w1 hmax0 heach0 hmax2 heach2
  have hB := (Below.refl w.heap.size w).alloc (Nat.le_refl _) (.cells #[.slice a0 z0.length cap0] 24)
  have hz := alloc_size w (.cells #[.slice a0 z0.length cap0] 24)
  have b0 := Blk.new w 24 [.slice a0 z0.length cap0] _ rfl
  have R0 := Lib.hid (fun W hW => (hrd0.below hB (Nat.le_refl _)).below (C := (w.heap.size + 1)) (w' := W) hW (by rw [hz]; exact Nat.le_refl _))
  have R2 := Lib.hid (fun W hW => (hrd2.below hB (Nat.le_refl _)).below (C := (w.heap.size + 1)) (w' := W) hW (by rw [hz]; exact Nat.le_refl _))
  have LS : Hid (∀ W, Below (w.heap.size + 1) (w.alloc (.cells #[.slice a0 z0.length cap0] 24)) W → (w.heap.size + 1) ≤ W.heap.size) := Lib.hid fun W hW => by have := hW.size; rw [hz] at this; exact this
  have HB0 := Lib.hid hB
  have B0 := Lib.hid b0
  clear b0 hz
  clear hB
  by_cases hs1 : a1.size ≤ 1048576
  · skip
    have CZ0 := fun W h => szDisk_any a0 cap0 z0 1048576 W hmax0 heach0 (by omega) (by omega) h
    by_cases ht0 : ((z0.length : Int) + sumFl z0) ≤ 1048576
    · rw [szFl_yes ht0] at CZ0
      have hl0 : z0.length ≤ 1048576 := by omega
      have hzs0 : ∀ x ∈ z0, x.1.size ≤ 1048576 ∧ x.2.1.size ≤ 1048576 := fun x hx => by have := sumFl_mem hx; omega
      have hL0_0 : ¬ ((1048576 - z0.length - (sumFl z0 : Int) : Int) < 0) := by omega
      have hL1_0 : (1048576 - z0.length - (sumFl z0 : Int) : Int) ≤ 1048576 := by omega
      generalize (1048576 - z0.length - (sumFl z0 : Int) : Int) = L0 at *
      have DZ0 := Lib.hid CZ0
      clear CZ0 ht0
      have CZ2 := fun W h => szStringS_any a2 cap2 z2 L0 W hmax2 heach2 (by omega) (by omega) h
      by_cases ht2 : ((totS z2 : Nat) : Int) ≤ L0
      · rw [szV_yes ht2] at CZ2
        have hl2 : z2.length ≤ 1048576 := by unfold totS at ht2; omega
        have hzs2 : ∀ x ∈ z2, x.size ≤ 1048576 := fun x hx => by have := totS_mem hx; omega
        have hL0_2 : ¬ ((L0 - (totS z2 : Nat) : Int) < 0) := by omega
        have hL1_2 : (L0 - (totS z2 : Nat) : Int) ≤ 1048576 := by omega
        generalize (L0 - (totS z2 : Nat) : Int) = L2 at *
        have DZ2 := Lib.hid CZ2
        clear CZ2 ht2
        have CS := fun v a c W h hq => sAnewActs_any v z0 a1 a c z2 W hl0 hzs0 hl2 hzs2 h hq
        have CI := fun v a c W h hq => iAnewActs_any v z0 a1 a c z2 W hl0 hzs0 hl2 hzs2 h hq
        have CT0 := Lib.hid (fun W h => toDisk_any a0 cap0 z0 W hl0 h)
        have CE0 := Lib.hid (fun v1 v2 W h1 h2 => eqDisk_any v1 v2 z0 W hl0 h1 h2)
        have CT2 := Lib.hid (fun W h => toStringS_any a2 cap2 z2 W hl2 h)
        have CE2 := Lib.hid (fun a c a' c' W h1 h2 => eqStringS_any a a' c c' z2 z2 W (by omega) (by omega) h1 h2)
        have CM0 := fun v u B W h => markDisk_any v u z0 B 1 W hl0 (by omega) (by omega) h
        simp only [Int.natCast_one] at CM0
        have hk0 : (1 : Int) + 3 * z0.length = ((1 + 3 * z0.length : Nat) : Int) := by push_cast; omega
        rw [hk0] at CM0
        have hK0a : 0 < 1 + 3 * z0.length := by omega
        have hK0b : 1 + 3 * z0.length ≤ 1099500000000 - 8388608 * 40 := by omega
        generalize 1 + 3 * z0.length = K0 at *
        clear hk0
        have DM0 := Lib.hid CM0
        clear CM0
        have CM2 := fun v B W h => markStringS_any v z2 B K0 W hl2 (by omega) (by omega) h
        have hk2 : (K0 : Int) + z2.length = ((K0 + z2.length : Nat) : Int) := by push_cast; omega
        rw [hk2] at CM2
        have hK2a : 0 < K0 + z2.length := by omega
        have hK2b : K0 + z2.length ≤ 1099500000000 - 8388608 * 38 := by omega
        generalize K0 + z2.length = K2 at *
        clear hk2
        have DM2 := Lib.hid CM2
        clear CM2
        have hn1 : ¬ ((K2 : Int) < 0) := by omega
        have hrl : (anewV z0 a1 z2).1.length ≤ 1048576 := anewV_len z0 a1 z2
        generalize anewV z0 a1 z2 = rv at *
        obtain ⟨rl, rb⟩ := rv
        simp only at CS CI hrl
        have CE := Lib.hid (fun a c a' c' W h1 h2 => eqActS_any a a' c c' rl W hrl h1 h2)
        have CMG := fun v B W h => markActS_any v rl B 1 W hrl (by omega) (by omega) h
        have CHG := fun a c W h => heldActS_any a c rl.length 1 W hrl (by omega) (by omega) h
        simp only [Int.natCast_one] at CMG CHG
        have hn2 : ¬ ((1 : Int) + 4 * rl.length < 0) := by omega
        have e2 : (((1 : Int) + 4 * rl.length) != ((1 : Int) + 4 * rl.length)) = false := by simp
        generalize (1 : Int) + 4 * rl.length = KR at *
        have DMG := Lib.hid CMG
        have DHG := Lib.hid CHG
        have DS := Lib.hid CS
        have DI := Lib.hid CI
        have e1 : (rb != rb) = false := by simp
        clear CS CI CMG CHG hrd0 hrd2 hmax0 hmax2 heach0 heach2 hzs0 hzs2
        go_enter Try.func10, Try.ntmps10
        go_wp2_with fail
        generalize w.alloc (.cells #[.slice a0 z0.length cap0] 24) = Wb at *
        have HB := Lib.hid (Below.refl (w.heap.size + 1) Wb)
        refine (DZ0.out _ (R0.out _ HB.out)).mono ?_
        rintro e w1_ ⟨rfl, hb⟩
        have HB_ := Lib.hid (HB.out.trans (hb.mono (LS.out _ HB.out)))
        have B0_ := Lib.hid (Blk.below B0.out hb (Blk.lt B0.out))
        clear HB B0
        have HB := HB_
        have B0 := B0_
        clear HB_ B0_
        clear hb
        go_wp2_with fail
        refine (DZ2.out _ (R2.out _ HB.out)).mono ?_
        rintro e _ ⟨rfl, rfl⟩
        have c_B00 := Blk.cell B0.out 0
        simp only [List.getElem?_cons_zero] at c_B00
        go_wp2_with fail
        refine (CT0.out _ (R0.out _ HB.out)).mono ?_
        rintro e w3_ ⟨⟨v3, u3, rfl, ho⟩, hb⟩
        clear c_B00
        obtain ⟨rfl, ho⟩ := ho
        obtain ⟨q3, k3, rfl⟩ := Own.shape ho
        have M_B0_P0 : Hid (Value.ownBlock (.slice q3 z0.length k3) = some (w.heap.size) → False) := Lib.hid (fun e => by have h1 := (Own.block ho _ e).1; have h2 := Blk.lt B0.out; omega)
        have L_P0 : Hid (∀ k, Value.ownBlock (.slice q3 z0.length k3) = some k → (w.heap.size + 1) ≤ k) := Lib.hid (fun k hk => Nat.le_trans (LS.out _ HB.out) (Own.block ho k hk).1)
        have HB_ := Lib.hid (HB.out.trans (hb.mono (LS.out _ HB.out)))
        have B0_ := Lib.hid (Blk.below B0.out hb (Blk.lt B0.out))
        clear HB B0
        have HB := HB_
        have B0 := B0_
        clear HB_ B0_
        clear hb
        have P0 := Lib.hid ho
        clear ho
        go_wp2_with fail
        refine (CT2.out _ (R2.out _ HB.out)).mono ?_
        rintro e w4_ ⟨⟨v4, rfl, ho⟩, hb⟩
        obtain ⟨q4, k4, rfl⟩ := Own.shape ho
        have A_P0_P2 := Lib.hid (apart_of (fun k hk => (Own.block P0.out k hk).2) (fun k hk => (Own.block ho k hk).1))
        have M_B0_P2 : Hid (Value.ownBlock (.slice q4 z2.length k4) = some (w.heap.size) → False) := Lib.hid (fun e => by have h1 := (Own.block ho _ e).1; have h2 := Blk.lt B0.out; omega)
        have L_P2 : Hid (∀ k, Value.ownBlock (.slice q4 z2.length k4) = some k → (w.heap.size + 1) ≤ k) := Lib.hid (fun k hk => Nat.le_trans (LS.out _ HB.out) (Own.block ho k hk).1)
        have HB_ := Lib.hid (HB.out.trans (hb.mono (LS.out _ HB.out)))
        have B0_ := Lib.hid (Blk.below B0.out hb (Blk.lt B0.out))
        have P0_ := Lib.hid (P0.out.below hb (Nat.le_refl _))
        clear HB B0 P0
        have HB := HB_
        have B0 := B0_
        have P0 := P0_
        clear HB_ B0_ P0_
        clear hb
        have P2 := Lib.hid ho
        clear ho
        obtain ⟨_, _, eq_, RX_P2⟩ := OwnS.rd P2.out
        cases eq_
        replace RX_P2 := Lib.hid RX_P2
        go_wp2_with fail
        refine (DS.out _ _ _ _ (OwnK.rd ⟨rfl, P0.out⟩) RX_P2.out).mono ?_
        rintro e w5_ ⟨⟨v5, rfl, ho⟩, hb⟩
        obtain ⟨q5, k5, rfl⟩ := Own.shape ho
        have A_P0_WO := Lib.hid (apart_of (fun k hk => (Own.block P0.out k hk).2) (fun k hk => (Own.block ho k hk).1))
        have A_P2_WO := Lib.hid (apart_of (fun k hk => (Own.block P2.out k hk).2) (fun k hk => (Own.block ho k hk).1))
        have M_B0_WO : Hid (Value.ownBlock (.slice q5 rl.length k5) = some (w.heap.size) → False) := Lib.hid (fun e => by have h1 := (Own.block ho _ e).1; have h2 := Blk.lt B0.out; omega)
        have L_WO : Hid (∀ k, Value.ownBlock (.slice q5 rl.length k5) = some k → (w.heap.size + 1) ≤ k) := Lib.hid (fun k hk => Nat.le_trans (LS.out _ HB.out) (Own.block ho k hk).1)
        have HB_ := Lib.hid (HB.out.trans (hb.mono (LS.out _ HB.out)))
        have B0_ := Lib.hid (Blk.below B0.out hb (Blk.lt B0.out))
        have P0_ := Lib.hid (P0.out.below hb (Nat.le_refl _))
        have P2_ := Lib.hid (P2.out.below hb (Nat.le_refl _))
        clear HB B0 P0 P2
        have HB := HB_
        have B0 := B0_
        have P0 := P0_
        have P2 := P2_
        clear HB_ B0_ P0_ P2_
        clear hb
        have WO := Lib.hid ho
        clear ho
        clear RX_P2
        clear P0
        clear P2
        have c_B00 := Blk.cell B0.out 0
        simp only [List.getElem?_cons_zero] at c_B00
        go_wp2_with fail
        refine (CT0.out _ (R0.out _ HB.out)).mono ?_
        rintro e w6_ ⟨⟨v6, u6, rfl, ho⟩, hb⟩
        clear c_B00
        obtain ⟨rfl, ho⟩ := ho
        obtain ⟨q6, k6, rfl⟩ := Own.shape ho
        have A_WO_X0 := Lib.hid (apart_of (fun k hk => (Own.block WO.out k hk).2) (fun k hk => (Own.block ho k hk).1))
        have M_B0_X0 : Hid (Value.ownBlock (.slice q6 z0.length k6) = some (w.heap.size) → False) := Lib.hid (fun e => by have h1 := (Own.block ho _ e).1; have h2 := Blk.lt B0.out; omega)
        have L_X0 : Hid (∀ k, Value.ownBlock (.slice q6 z0.length k6) = some k → (w.heap.size + 1) ≤ k) := Lib.hid (fun k hk => Nat.le_trans (LS.out _ HB.out) (Own.block ho k hk).1)
        have HB_ := Lib.hid (HB.out.trans (hb.mono (LS.out _ HB.out)))
        have B0_ := Lib.hid (Blk.below B0.out hb (Blk.lt B0.out))
        have WO_ := Lib.hid (WO.out.below hb (Nat.le_refl _))
        clear HB B0 WO
        have HB := HB_
        have B0 := B0_
        have WO := WO_
        clear HB_ B0_ WO_
        clear hb
        have X0 := Lib.hid ho
        clear ho
        have M_BX0_WO : Hid (Value.ownBlock (.slice q5 rl.length k5) = some (w6_.heap.size) → False) := Lib.hid (fun e => by have h2 := (Own.block WO.out _ e).2; omega)
        have M_BX0_X0 : Hid (Value.ownBlock (.slice q6 z0.length k6) = some (w6_.heap.size) → False) := Lib.hid (fun e => by have h2 := (Own.block X0.out _ e).2; omega)
        have hb := (Below.refl w6_.heap.size w6_).alloc (Nat.le_refl _) (.cells #[.slice q6 z0.length k6] 29)
        have BX0 := Lib.hid (Blk.new w6_ 29 [.slice q6 z0.length k6] _ rfl)
        have HB_ := Lib.hid (HB.out.trans (hb.mono (LS.out _ HB.out)))
        have B0_ := Lib.hid (Blk.below B0.out hb (Blk.lt B0.out))
        have WO_ := Lib.hid (WO.out.below hb (Nat.le_refl _))
        have X0_ := Lib.hid (X0.out.below hb (Nat.le_refl _))
        clear HB B0 WO X0
        have HB := HB_
        have B0 := B0_
        have WO := WO_
        have X0 := X0_
        clear HB_ B0_ WO_ X0_
        clear hb
        go_wp2_with fail
        refine (CT2.out _ (R2.out _ HB.out)).mono ?_
        rintro e w7_ ⟨⟨v7, rfl, ho⟩, hb⟩
        obtain ⟨q7, k7, rfl⟩ := Own.shape ho
        have A_WO_X2 := Lib.hid (apart_of (fun k hk => (Own.block WO.out k hk).2) (fun k hk => (Own.block ho k hk).1))
        have A_X0_X2 := Lib.hid (apart_of (fun k hk => (Own.block X0.out k hk).2) (fun k hk => (Own.block ho k hk).1))
        have M_B0_X2 : Hid (Value.ownBlock (.slice q7 z2.length k7) = some (w.heap.size) → False) := Lib.hid (fun e => by have h1 := (Own.block ho _ e).1; have h2 := Blk.lt B0.out; omega)
        have M_BX0_X2 : Hid (Value.ownBlock (.slice q7 z2.length k7) = some (w6_.heap.size) → False) := Lib.hid (fun e => by have h1 := (Own.block ho _ e).1; have h2 := Blk.lt BX0.out; omega)
        have L_X2 : Hid (∀ k, Value.ownBlock (.slice q7 z2.length k7) = some k → (w.heap.size + 1) ≤ k) := Lib.hid (fun k hk => Nat.le_trans (LS.out _ HB.out) (Own.block ho k hk).1)
        have HB_ := Lib.hid (HB.out.trans (hb.mono (LS.out _ HB.out)))
        have B0_ := Lib.hid (Blk.below B0.out hb (Blk.lt B0.out))
        have WO_ := Lib.hid (WO.out.below hb (Nat.le_refl _))
        have X0_ := Lib.hid (X0.out.below hb (Nat.le_refl _))
        have BX0_ := Lib.hid (Blk.below BX0.out hb (Blk.lt BX0.out))
        clear HB B0 WO X0 BX0
        have HB := HB_
        have B0 := B0_
        have WO := WO_
        have X0 := X0_
        have BX0 := BX0_
        clear HB_ B0_ WO_ X0_ BX0_
        clear hb
        have X2 := Lib.hid ho
        clear ho
        obtain ⟨_, _, eq_, RX_X2⟩ := OwnS.rd X2.out
        cases eq_
        replace RX_X2 := Lib.hid RX_X2
        have c_BX00 := Blk.cell BX0.out 0
        simp only [List.getElem?_cons_zero] at c_BX00
        go_wp2_with fail
        refine (DI.out _ _ _ _ (OwnK.rd ⟨rfl, X0.out⟩) RX_X2.out).mono ?_
        rintro e w8_ ⟨⟨v8, rfl, ho⟩, hb⟩
        clear c_BX00
        obtain ⟨q8, k8, rfl⟩ := Own.shape ho
        have A_WO_GO := Lib.hid (apart_of (fun k hk => (Own.block WO.out k hk).2) (fun k hk => (Own.block ho k hk).1))
        have A_X0_GO := Lib.hid (apart_of (fun k hk => (Own.block X0.out k hk).2) (fun k hk => (Own.block ho k hk).1))
        have A_X2_GO := Lib.hid (apart_of (fun k hk => (Own.block X2.out k hk).2) (fun k hk => (Own.block ho k hk).1))
        have M_B0_GO : Hid (Value.ownBlock (.slice q8 rl.length k8) = some (w.heap.size) → False) := Lib.hid (fun e => by have h1 := (Own.block ho _ e).1; have h2 := Blk.lt B0.out; omega)
        have M_BX0_GO : Hid (Value.ownBlock (.slice q8 rl.length k8) = some (w6_.heap.size) → False) := Lib.hid (fun e => by have h1 := (Own.block ho _ e).1; have h2 := Blk.lt BX0.out; omega)
        have L_GO : Hid (∀ k, Value.ownBlock (.slice q8 rl.length k8) = some k → (w.heap.size + 1) ≤ k) := Lib.hid (fun k hk => Nat.le_trans (LS.out _ HB.out) (Own.block ho k hk).1)
        have HB_ := Lib.hid (HB.out.trans (hb.mono (LS.out _ HB.out)))
        have B0_ := Lib.hid (Blk.below B0.out hb (Blk.lt B0.out))
        have WO_ := Lib.hid (WO.out.below hb (Nat.le_refl _))
        have X0_ := Lib.hid (X0.out.below hb (Nat.le_refl _))
        have BX0_ := Lib.hid (Blk.below BX0.out hb (Blk.lt BX0.out))
        have X2_ := Lib.hid (X2.out.below hb (Nat.le_refl _))
        clear HB B0 WO X0 BX0 X2
        have HB := HB_
        have B0 := B0_
        have WO := WO_
        have X0 := X0_
        have BX0 := BX0_
        have X2 := X2_
        clear HB_ B0_ WO_ X0_ BX0_ X2_
        clear hb
        have GO := Lib.hid ho
        clear ho
        clear RX_X2
        obtain ⟨_, _, eq_, RX_GO⟩ := OwnA.rd GO.out
        cases eq_
        replace RX_GO := Lib.hid RX_GO
        obtain ⟨_, _, eq_, RX_WO⟩ := OwnA.rd WO.out
        cases eq_
        replace RX_WO := Lib.hid RX_WO
        go_wp2_with fail
        refine (CE.out _ _ _ _ _ RX_GO.out RX_WO.out).mono ?_
        rintro e w9 ⟨rfl, hb⟩
        have HB_ := Lib.hid (HB.out.trans (hb.mono (LS.out _ HB.out)))
        have B0_ := Lib.hid (Blk.below B0.out hb (Blk.lt B0.out))
        have WO_ := Lib.hid (WO.out.below hb (Nat.le_refl _))
        have X0_ := Lib.hid (X0.out.below hb (Nat.le_refl _))
        have BX0_ := Lib.hid (Blk.below BX0.out hb (Blk.lt BX0.out))
        have X2_ := Lib.hid (X2.out.below hb (Nat.le_refl _))
        have GO_ := Lib.hid (GO.out.below hb (Nat.le_refl _))
        clear HB B0 WO X0 BX0 X2 GO
        have HB := HB_
        have B0 := B0_
        have WO := WO_
        have X0 := X0_
        have BX0 := BX0_
        have X2 := X2_
        have GO := GO_
        clear HB_ B0_ WO_ X0_ BX0_ X2_ GO_
        clear hb
        clear RX_GO RX_WO
        have HK : Hid (∀ W, Below (w9).heap.size (w9) W → W.cell? ⟨w6_.heap.size, 0, none⟩ = some (.slice q6 z0.length k6) ∧ W.cell? ⟨w.heap.size, 0, none⟩ = some (.slice a0 z0.length cap0)) := Lib.hid fun W hW => ⟨(Blk.below BX0.out hW (Blk.lt BX0.out)).cell 0, (Blk.below B0.out hW (Blk.lt B0.out)).cell 0⟩
        obtain ⟨c0, c1⟩ := HK.out _ (Below.refl _ _)
        go_wp2_with fail
        go_region_held3 (fun W => W.cell? ⟨w6_.heap.size, 0, none⟩ = some (.slice q6 z0.length k6) ∧ W.cell? ⟨w.heap.size, 0, none⟩ = some (.slice a0 z0.length cap0))
          (first | exact HK.out _ hk2 | exact HK.out _ hk1 | go_keep)
          (first
            | (go_at_call 17; refine (CT0.out _ ?_).mono ?_; (exact R0.out (w9) HB.out); rintro e wa ⟨⟨va, ua, rfl, hoa⟩, hba⟩; have hk1 : Below (w9).heap.size (w9) wa := ⟨hba.os, hba.tape, hba.output, hba.size, hba.block⟩; have QA := Lib.hid (OwnK.rd hoa))
            | (go_at_call 19; refine (CE0.out _ _ _ ?_ ?_).mono ?_; (exact ((OwnK.rd ⟨rfl, X0.out⟩).below hk1 (Nat.le_refl _))); (exact QA.out); rintro e wb ⟨rfl, hbb⟩; have hkb : Below wa.heap.size wa wb := ⟨hbb.os, hbb.tape, hbb.output, hbb.size, hbb.block⟩; have hk2 := hk1.trans (hkb.mono hk1.size)))
        clear c0 c1
        replace hk2 := Lib.hid hk2
        clear hk1 hkb hba hbb QA hoa
        have hb := hk2.out
        have HB_ := Lib.hid (HB.out.trans (hb.mono (LS.out _ HB.out)))
        have B0_ := Lib.hid (Blk.below B0.out hb (Blk.lt B0.out))
        have WO_ := Lib.hid (WO.out.below hb (Nat.le_refl _))
        have X0_ := Lib.hid (X0.out.below hb (Nat.le_refl _))
        have BX0_ := Lib.hid (Blk.below BX0.out hb (Blk.lt BX0.out))
        have X2_ := Lib.hid (X2.out.below hb (Nat.le_refl _))
        have GO_ := Lib.hid (GO.out.below hb (Nat.le_refl _))
        clear HB B0 WO X0 BX0 X2 GO
        have HB := HB_
        have B0 := B0_
        have WO := WO_
        have X0 := X0_
        have BX0 := BX0_
        have X2 := X2_
        have GO := GO_
        clear HB_ B0_ WO_ X0_ BX0_ X2_ GO_
        clear hb hk2 HK
        go_wp2_with fail
        refine (CT2.out _ (R2.out _ HB.out)).mono ?_
        rintro e w11_ ⟨⟨v11, rfl, ho⟩, hb⟩
        obtain ⟨q11, k11, rfl⟩ := Own.shape ho
        have A_WO_Q2 := Lib.hid (apart_of (fun k hk => (Own.block WO.out k hk).2) (fun k hk => (Own.block ho k hk).1))
        have A_X0_Q2 := Lib.hid (apart_of (fun k hk => (Own.block X0.out k hk).2) (fun k hk => (Own.block ho k hk).1))
        have A_X2_Q2 := Lib.hid (apart_of (fun k hk => (Own.block X2.out k hk).2) (fun k hk => (Own.block ho k hk).1))
        have A_GO_Q2 := Lib.hid (apart_of (fun k hk => (Own.block GO.out k hk).2) (fun k hk => (Own.block ho k hk).1))
        have M_B0_Q2 : Hid (Value.ownBlock (.slice q11 z2.length k11) = some (w.heap.size) → False) := Lib.hid (fun e => by have h1 := (Own.block ho _ e).1; have h2 := Blk.lt B0.out; omega)
        have M_BX0_Q2 : Hid (Value.ownBlock (.slice q11 z2.length k11) = some (w6_.heap.size) → False) := Lib.hid (fun e => by have h1 := (Own.block ho _ e).1; have h2 := Blk.lt BX0.out; omega)
        have L_Q2 : Hid (∀ k, Value.ownBlock (.slice q11 z2.length k11) = some k → (w.heap.size + 1) ≤ k) := Lib.hid (fun k hk => Nat.le_trans (LS.out _ HB.out) (Own.block ho k hk).1)
        have HB_ := Lib.hid (HB.out.trans (hb.mono (LS.out _ HB.out)))
        have B0_ := Lib.hid (Blk.below B0.out hb (Blk.lt B0.out))
        have WO_ := Lib.hid (WO.out.below hb (Nat.le_refl _))
        have X0_ := Lib.hid (X0.out.below hb (Nat.le_refl _))
        have BX0_ := Lib.hid (Blk.below BX0.out hb (Blk.lt BX0.out))
        have X2_ := Lib.hid (X2.out.below hb (Nat.le_refl _))
        have GO_ := Lib.hid (GO.out.below hb (Nat.le_refl _))
        clear HB B0 WO X0 BX0 X2 GO
        have HB := HB_
        have B0 := B0_
        have WO := WO_
        have X0 := X0_
        have BX0 := BX0_
        have X2 := X2_
        have GO := GO_
        clear HB_ B0_ WO_ X0_ BX0_ X2_ GO_
        clear hb
        have Q2 := Lib.hid ho
        clear ho
        obtain ⟨_, _, eq_, RX_X2⟩ := OwnS.rd X2.out
        cases eq_
        replace RX_X2 := Lib.hid RX_X2
        obtain ⟨_, _, eq_, RX_Q2⟩ := OwnS.rd Q2.out
        cases eq_
        replace RX_Q2 := Lib.hid RX_Q2
        go_wp2_with fail
        refine (CE2.out _ _ _ _ _ RX_X2.out RX_Q2.out).mono ?_
        rintro e w12 ⟨rfl, hb⟩
        have HB_ := Lib.hid (HB.out.trans (hb.mono (LS.out _ HB.out)))
        have B0_ := Lib.hid (Blk.below B0.out hb (Blk.lt B0.out))
        have WO_ := Lib.hid (WO.out.below hb (Nat.le_refl _))
        have X0_ := Lib.hid (X0.out.below hb (Nat.le_refl _))
        have BX0_ := Lib.hid (Blk.below BX0.out hb (Blk.lt BX0.out))
        have X2_ := Lib.hid (X2.out.below hb (Nat.le_refl _))
        have GO_ := Lib.hid (GO.out.below hb (Nat.le_refl _))
        have Q2_ := Lib.hid (Q2.out.below hb (Nat.le_refl _))
        clear HB B0 WO X0 BX0 X2 GO Q2
        have HB := HB_
        have B0 := B0_
        have WO := WO_
        have X0 := X0_
        have BX0 := BX0_
        have X2 := X2_
        have GO := GO_
        have Q2 := Q2_
        clear HB_ B0_ WO_ X0_ BX0_ X2_ GO_ Q2_
        clear hb
        clear RX_X2 RX_Q2
        clear Q2
        have c_BX00 := Blk.cell BX0.out 0
        simp only [List.getElem?_cons_zero] at c_BX00
        go_wp2_with fail
        refine (DM0.out _ _ _ _ ⟨rfl, X0.out⟩).mono ?_
        rintro e w13 ⟨rfl, ho, hg⟩
        clear c_BX00
        clear ho
        have HB_ := Lib.hid (HB.out.grown hg (LS.out _ HB.out) (fun k hk => L_X0.out k hk))
        have B0_ := Lib.hid (Blk.kept B0.out hg (fun e => M_B0_X0.out e.symm))
        have WO_ := Lib.hid (Own.kept WO.out hg (apart_sym A_WO_X0.out))
        have BX0_ := Lib.hid (Blk.kept BX0.out hg (fun e => M_BX0_X0.out e.symm))
        have X2_ := Lib.hid (Own.kept X2.out hg A_X0_X2.out)
        have GO_ := Lib.hid (Own.kept GO.out hg A_X0_GO.out)
        clear X0
        clear HB B0 WO BX0 X2 GO
        have HB := HB_
        have B0 := B0_
        have WO := WO_
        have BX0 := BX0_
        have X2 := X2_
        have GO := GO_
        clear HB_ B0_ WO_ BX0_ X2_ GO_
        clear hg
        clear BX0
        go_wp2_with fail
        refine (DM2.out _ _ _ X2.out).mono ?_
        rintro e w14 ⟨rfl, ho, hg⟩
        clear ho
        have HB_ := Lib.hid (HB.out.grown hg (LS.out _ HB.out) (fun k hk => L_X2.out k hk))
        have B0_ := Lib.hid (Blk.kept B0.out hg (fun e => M_B0_X2.out e.symm))
        have WO_ := Lib.hid (Own.kept WO.out hg (apart_sym A_WO_X2.out))
        have GO_ := Lib.hid (Own.kept GO.out hg A_X2_GO.out)
        clear X2
        clear HB B0 WO GO
        have HB := HB_
        have B0 := B0_
        have WO := WO_
        have GO := GO_
        clear HB_ B0_ WO_ GO_
        clear hg
        obtain ⟨_, _, eq_, RX_GO⟩ := OwnA.rd GO.out
        cases eq_
        replace RX_GO := Lib.hid RX_GO
        obtain ⟨_, _, eq_, RX_WO⟩ := OwnA.rd WO.out
        cases eq_
        replace RX_WO := Lib.hid RX_WO
        go_wp2_with fail
        refine (CE.out _ _ _ _ _ RX_GO.out RX_WO.out).mono ?_
        rintro e w15 ⟨rfl, hb⟩
        have HB_ := Lib.hid (HB.out.trans (hb.mono (LS.out _ HB.out)))
        have B0_ := Lib.hid (Blk.below B0.out hb (Blk.lt B0.out))
        have WO_ := Lib.hid (WO.out.below hb (Nat.le_refl _))
        have GO_ := Lib.hid (GO.out.below hb (Nat.le_refl _))
        clear HB B0 WO GO
        have HB := HB_
        have B0 := B0_
        have WO := WO_
        have GO := GO_
        clear HB_ B0_ WO_ GO_
        clear hb
        clear RX_GO RX_WO
        go_wp2_with fail
        refine (DMG.out _ _ _ GO.out).mono ?_
        rintro e w16 ⟨rfl, ho, hg⟩
        have HB_ := Lib.hid (HB.out.grown hg (LS.out _ HB.out) (fun k hk => L_GO.out k hk))
        have B0_ := Lib.hid (Blk.kept B0.out hg (fun e => M_B0_GO.out e.symm))
        have WO_ := Lib.hid (Own.kept WO.out hg (apart_sym A_WO_GO.out))
        clear GO
        clear HB B0 WO
        have HB := HB_
        have B0 := B0_
        have WO := WO_
        clear HB_ B0_ WO_
        clear hg
        obtain ⟨_, _, eq_, GR⟩ := OwnA.rd ho
        rw [marksA_length] at eq_
        cases eq_
        replace GR := Lib.hid GR
        clear ho
        go_wp2_with fail
        refine (DHG.out _ _ _ GR.out).mono ?_
        rintro e w17 ⟨rfl, hb⟩
        have HB_ := Lib.hid (HB.out.trans (hb.mono (LS.out _ HB.out)))
        have B0_ := Lib.hid (Blk.below B0.out hb (Blk.lt B0.out))
        have WO_ := Lib.hid (WO.out.below hb (Nat.le_refl _))
        have GR_ := Lib.hid (GR.out.below hb (Nat.le_refl _))
        clear HB B0 WO GR
        have HB := HB_
        have B0 := B0_
        have WO := WO_
        have GR := GR_
        clear HB_ B0_ WO_ GR_
        clear hb
        have c_B00 := Blk.cell B0.out 0
        simp only [List.getElem?_cons_zero] at c_B00
        go_wp2_with fail
        refine (CT0.out _ (R0.out _ HB.out)).mono ?_
        rintro e w18_ ⟨⟨v18, u18, rfl, ho⟩, hb⟩
        clear c_B00
        obtain ⟨rfl, ho⟩ := ho
        obtain ⟨q18, k18, rfl⟩ := Own.shape ho
        have A_WO_H0 := Lib.hid (apart_of (fun k hk => (Own.block WO.out k hk).2) (fun k hk => (Own.block ho k hk).1))
        have M_B0_H0 : Hid (Value.ownBlock (.slice q18 z0.length k18) = some (w.heap.size) → False) := Lib.hid (fun e => by have h1 := (Own.block ho _ e).1; have h2 := Blk.lt B0.out; omega)
        have L_H0 : Hid (∀ k, Value.ownBlock (.slice q18 z0.length k18) = some k → (w.heap.size + 1) ≤ k) := Lib.hid (fun k hk => Nat.le_trans (LS.out _ HB.out) (Own.block ho k hk).1)
        have HB_ := Lib.hid (HB.out.trans (hb.mono (LS.out _ HB.out)))
        have B0_ := Lib.hid (Blk.below B0.out hb (Blk.lt B0.out))
        have WO_ := Lib.hid (WO.out.below hb (Nat.le_refl _))
        have GR_ := Lib.hid (GR.out.below hb (Nat.le_refl _))
        clear HB B0 WO GR
        have HB := HB_
        have B0 := B0_
        have WO := WO_
        have GR := GR_
        clear HB_ B0_ WO_ GR_
        clear hb
        have H0 := Lib.hid ho
        clear ho
        go_wp2_with fail
        refine (CT2.out _ (R2.out _ HB.out)).mono ?_
        rintro e w19_ ⟨⟨v19, rfl, ho⟩, hb⟩
        obtain ⟨q19, k19, rfl⟩ := Own.shape ho
        have A_WO_H2 := Lib.hid (apart_of (fun k hk => (Own.block WO.out k hk).2) (fun k hk => (Own.block ho k hk).1))
        have A_H0_H2 := Lib.hid (apart_of (fun k hk => (Own.block H0.out k hk).2) (fun k hk => (Own.block ho k hk).1))
        have M_B0_H2 : Hid (Value.ownBlock (.slice q19 z2.length k19) = some (w.heap.size) → False) := Lib.hid (fun e => by have h1 := (Own.block ho _ e).1; have h2 := Blk.lt B0.out; omega)
        have L_H2 : Hid (∀ k, Value.ownBlock (.slice q19 z2.length k19) = some k → (w.heap.size + 1) ≤ k) := Lib.hid (fun k hk => Nat.le_trans (LS.out _ HB.out) (Own.block ho k hk).1)
        have HB_ := Lib.hid (HB.out.trans (hb.mono (LS.out _ HB.out)))
        have B0_ := Lib.hid (Blk.below B0.out hb (Blk.lt B0.out))
        have WO_ := Lib.hid (WO.out.below hb (Nat.le_refl _))
        have GR_ := Lib.hid (GR.out.below hb (Nat.le_refl _))
        have H0_ := Lib.hid (H0.out.below hb (Nat.le_refl _))
        clear HB B0 WO GR H0
        have HB := HB_
        have B0 := B0_
        have WO := WO_
        have GR := GR_
        have H0 := H0_
        clear HB_ B0_ WO_ GR_ H0_
        clear hb
        have H2 := Lib.hid ho
        clear ho
        obtain ⟨_, _, eq_, RX_H2⟩ := OwnS.rd H2.out
        cases eq_
        replace RX_H2 := Lib.hid RX_H2
        go_wp2_with fail
        refine (DI.out _ _ _ _ (OwnK.rd ⟨rfl, H0.out⟩) RX_H2.out).mono ?_
        rintro e w20_ ⟨⟨v20, rfl, ho⟩, hb⟩
        obtain ⟨q20, k20, rfl⟩ := Own.shape ho
        have A_WO_HO := Lib.hid (apart_of (fun k hk => (Own.block WO.out k hk).2) (fun k hk => (Own.block ho k hk).1))
        have A_H0_HO := Lib.hid (apart_of (fun k hk => (Own.block H0.out k hk).2) (fun k hk => (Own.block ho k hk).1))
        have A_H2_HO := Lib.hid (apart_of (fun k hk => (Own.block H2.out k hk).2) (fun k hk => (Own.block ho k hk).1))
        have M_B0_HO : Hid (Value.ownBlock (.slice q20 rl.length k20) = some (w.heap.size) → False) := Lib.hid (fun e => by have h1 := (Own.block ho _ e).1; have h2 := Blk.lt B0.out; omega)
        have L_HO : Hid (∀ k, Value.ownBlock (.slice q20 rl.length k20) = some k → (w.heap.size + 1) ≤ k) := Lib.hid (fun k hk => Nat.le_trans (LS.out _ HB.out) (Own.block ho k hk).1)
        have HB_ := Lib.hid (HB.out.trans (hb.mono (LS.out _ HB.out)))
        have B0_ := Lib.hid (Blk.below B0.out hb (Blk.lt B0.out))
        have WO_ := Lib.hid (WO.out.below hb (Nat.le_refl _))
        have GR_ := Lib.hid (GR.out.below hb (Nat.le_refl _))
        have H0_ := Lib.hid (H0.out.below hb (Nat.le_refl _))
        have H2_ := Lib.hid (H2.out.below hb (Nat.le_refl _))
        clear HB B0 WO GR H0 H2
        have HB := HB_
        have B0 := B0_
        have WO := WO_
        have GR := GR_
        have H0 := H0_
        have H2 := H2_
        clear HB_ B0_ WO_ GR_ H0_ H2_
        clear hb
        have HO := Lib.hid ho
        clear ho
        clear RX_H2
        clear H0
        clear H2
        obtain ⟨_, _, eq_, RX_HO⟩ := OwnA.rd HO.out
        cases eq_
        replace RX_HO := Lib.hid RX_HO
        obtain ⟨_, _, eq_, RX_WO⟩ := OwnA.rd WO.out
        cases eq_
        replace RX_WO := Lib.hid RX_WO
        go_wp2_with fail
        refine (CE.out _ _ _ _ _ RX_HO.out RX_WO.out).mono ?_
        rintro e w21 ⟨rfl, hb⟩
        have HB_ := Lib.hid (HB.out.trans (hb.mono (LS.out _ HB.out)))
        have B0_ := Lib.hid (Blk.below B0.out hb (Blk.lt B0.out))
        have WO_ := Lib.hid (WO.out.below hb (Nat.le_refl _))
        have GR_ := Lib.hid (GR.out.below hb (Nat.le_refl _))
        have HO_ := Lib.hid (HO.out.below hb (Nat.le_refl _))
        clear HB B0 WO GR HO
        have HB := HB_
        have B0 := B0_
        have WO := WO_
        have GR := GR_
        have HO := HO_
        clear HB_ B0_ WO_ GR_ HO_
        clear hb
        clear RX_HO RX_WO
        go_wp2_with fail
        refine (DHG.out _ _ _ GR.out).mono ?_
        rintro e w22 ⟨rfl, hb⟩
        have HB_ := Lib.hid (HB.out.trans (hb.mono (LS.out _ HB.out)))
        have B0_ := Lib.hid (Blk.below B0.out hb (Blk.lt B0.out))
        have WO_ := Lib.hid (WO.out.below hb (Nat.le_refl _))
        have GR_ := Lib.hid (GR.out.below hb (Nat.le_refl _))
        have HO_ := Lib.hid (HO.out.below hb (Nat.le_refl _))
        clear HB B0 WO GR HO
        have HB := HB_
        have B0 := B0_
        have WO := WO_
        have GR := GR_
        have HO := HO_
        clear HB_ B0_ WO_ GR_ HO_
        clear hb
        go_wp2_with fail
        go_ret
        exact ⟨rfl, HB0.out.trans (HB.out.mono (Nat.le_succ _))⟩
      · rw [szV_no ht2] at CZ2
        have DZ2 := Lib.hid CZ2
        clear CZ2 ht2 hrd0 hrd2
        go_enter Try.func10, Try.ntmps10
        go_wp2_with fail
        generalize w.alloc (.cells #[.slice a0 z0.length cap0] 24) = Wb at *
        have HB := Lib.hid (Below.refl (w.heap.size + 1) Wb)
        refine (DZ0.out _ (R0.out _ HB.out)).mono ?_
        rintro e w1_ ⟨rfl, hb⟩
        have HB_ := Lib.hid (HB.out.trans (hb.mono (LS.out _ HB.out)))
        have B0_ := Lib.hid (Blk.below B0.out hb (Blk.lt B0.out))
        clear HB B0
        have HB := HB_
        have B0 := B0_
        clear HB_ B0_
        clear hb
        go_wp2_with fail
        refine (DZ2.out _ (R2.out _ HB.out)).mono ?_
        rintro e _ ⟨rfl, rfl⟩
        go_wp2_with fail
        go_ret
        exact ⟨rfl, HB0.out.trans (HB.out.mono (Nat.le_succ _))⟩
    · rw [szFl_no ht0] at CZ0
      have DZ0 := Lib.hid CZ0
      clear CZ0 ht0 hrd0 hrd2
      go_enter Try.func10, Try.ntmps10
      go_wp2_with fail
      generalize w.alloc (.cells #[.slice a0 z0.length cap0] 24) = Wb at *
      have HB := Lib.hid (Below.refl (w.heap.size + 1) Wb)
      refine (DZ0.out _ (R0.out _ HB.out)).mono ?_
      rintro e w1_ ⟨rfl, hb⟩
      have HB_ := Lib.hid (HB.out.trans (hb.mono (LS.out _ HB.out)))
      have B0_ := Lib.hid (Blk.below B0.out hb (Blk.lt B0.out))
      clear HB B0
      have HB := HB_
      have B0 := B0_
      clear HB_ B0_
      clear hb
      go_wp2_with fail
      go_ret
      exact ⟨rfl, HB0.out.trans (HB.out.mono (Nat.le_succ _))⟩
  · clear hrd0 hrd2
    go_enter Try.func10, Try.ntmps10
    go_wp2_with fail
    go_ret
    exact ⟨rfl, HB0.out⟩

theorem own : ownKnob Try.prog.godebug = none := by kernel_rfl
theorem laidOut : laidOutB Try.prog = true := by kernel_rfl

set_option maxRecDepth 100000 in
theorem lifted (os : Os) (started : os.Started) (H : Type) (enc : TypeId × Value → H) :
    ReturnsInHanded {} Try.checked os 10 .any (Rows.fnExactAnewActsSpec.pre6 enc Try.prog Try.f10 Rows.fnExactAnewActsRow.domain false) (Rows.fnExactAnewActsSpec.post enc Try.prog Try.f10 false true false false) := by
  refine returnsInHanded_of_change (C := Try.checked) own started (by kernel_rfl) Try.func10
    (ChangeSpec.witness6 (enc := enc) (C := Try.checked) false ⟨#[], #[.agg #[.slice none 0 0], .string ByteArray.empty, .slice none 0 0], []⟩ 8 (by kernel_rfl) (by kernel_rfl) (by kernel_rfl) (by kernel_rfl)) ?_
  intro W base args ds gs before hval0 hW hcnd _
  have hval : ∀ (j : Nat) t v, Try.f10.params[j]? = some t → args[j]? = some v → Value.okWide Try.prog W .any base t v := hval0
  have hW' := hW
  obtain ⟨p, q, hA0, hV, rfl, hfz, hnd⟩ := hW
  have hA : DataW.TrodAll enc Try.prog W 0 (fun _ => true) true Try.f10.params.toList args.toList ds p := hA0
  rw [Try.params10] at hA hval
  obtain ⟨v0, vs0, d0, ds0, p0, q0, hargs, rfl, rfl, h0, r0⟩ := trodAll_cons hA
  obtain ⟨v1, vs1, d1, ds1, p1, q1, rfl, rfl, rfl, h1, r1⟩ := trodAll_cons r0
  obtain ⟨v2, vs2, d2, ds2, p2, q2, rfl, rfl, rfl, h2, r2⟩ := trodAll_cons r1
  obtain ⟨rfl, rfl, rfl⟩ := trodAll_nil r2
  obtain rfl : args = #[v0, v1, v2] := by cases args; simp_all
  obtain ⟨rfl, rfl⟩ := trodVars_none hV
  have k0 := h0
  have lt0 : ∀ x ∈ p0, x.block < W.heap.size := by obtain ⟨m, hm⟩ := k0; exact DataW.trod_lt m _ _ _ hm
  obtain ⟨a0, len0, cap0, z0, rfl, w0⟩ := isDisk_of Try.underlying24 (by kernel_rfl) (by kernel_rfl) Try.underlying22 Try.underlying110 (by kernel_rfl) (by kernel_rfl) Try.underlying9 Try.underlying9 Try.underlying3 (hval 0 24 v0 rfl rfl) h0
  have k1 := h1
  have lt1 : ∀ x ∈ p1, x.block < W.heap.size := by obtain ⟨m, hm⟩ := k1; exact DataW.trod_lt m _ _ _ hm
  obtain ⟨a1, rfl, rfl, rfl, w1⟩ := open_string Try.underlying9 (hval 1 9 v1 rfl rfl) h1
  have k2 := h2
  have lt2 : ∀ x ∈ p2, x.block < W.heap.size := by obtain ⟨m, hm⟩ := k2; exact DataW.trod_lt m _ _ _ hm
  obtain ⟨a2, len2, cap2, rfl⟩ := okWide_slice Try.underlying56 (hval 2 56 v2 rfl rfl)
  obtain ⟨z2, w2⟩ := isStrs_of Try.underlying56 Try.underlying9 (by kernel_rfl) h2
  clear hA0 hval0
  refine (walk a0 len0 cap0 z0 a1 a2 len2 cap2 z2 W w0 w1 w2).mono fun e W' ⟨he, bel⟩ => ?_
  subst he
  exact ⟨_, rfl, _, _, _, [], _, [], hW', trodAll_mk1 (shut_bool Try.underlying4 _), (trodAll_cons_mk (Below.trod laidOut (by kernel_rfl) (of_decide_eq_true (by kernel_rfl)) k0 bel lt0) (trodAll_cons_mk (Below.trod laidOut (by kernel_rfl) (of_decide_eq_true (by kernel_rfl)) k1 bel lt1) (trodAll_cons_mk (Below.trod laidOut (by kernel_rfl) (of_decide_eq_true (by kernel_rfl)) k2 bel lt2) trodAll_mk0))), rfl, bel.frame _, fun h => by cases h⟩

theorem over : Rows.fnExactAnewActsRow.holds Try.pinned (OpenSpec.ofChange Rows.fnExactAnewActsSpec) :=
  OpenClaim.holds_of_wide 10 Try.f10 rfl rfl rfl rfl rfl rfl rfl ⟨rfl, rfl, rfl, rfl, rfl⟩ rfl rfl rfl rfl rfl (by kernel_rfl) Try.func10 (by kernel_rfl)
    (of_decide_eq_true (by kernel_rfl)) (by unfold Func.isWrapper; first | (rw [if_pos (by decide +kernel)]; kernel_rfl) | (rw [if_neg (by decide +kernel)]; exact ⟨rfl, rfl⟩))
    (fun os started H enc _ => lifted os started H enc)

/-- The statement. -/
theorem proved : Rows.FnExactAnewActsSaid :=
  over
#print axioms proved

end Go.Proofs.Ytdecehecjlbbiaa.fnExactAnewActs
