/-
  For every disk and name (of at most 2^20 bytes and files in all; more are passed by) the program's LogTexts and the reference's return the same, the disk stays, and what the program handed out is its caller's: 'FnExactLogTexts' returns true. No conditions.
-/
import Derived.Test.YtdecehecjlbbiaaFrameF
import Derived.Test.YtdecehecjlbbiaaLog1
import Derived.Test.YtdecehecjlbbiaaInts2
namespace Go.Proofs.Ytdecehecjlbbiaa.fnExactLogTexts
open Go.ChangeShapes Go.WideShapes Go.ChangeAt Go.RowKit
open Go.ChangeMaps (open_string shut_string)
set_option linter.unusedVariables false

set_option maxHeartbeats 8000000 in
set_option maxRecDepth 100000 in
theorem walk (a0 : Option Addr) (len0 cap0 : Nat) (z0 : List Fl) (a1 : ByteArray) (w : World) (w0 : IsFiles w a0 len0 cap0 z0) (w1 : a1.size ≤ maxLen) :
    Calls Try.prog 9 #[.agg #[.slice a0 len0 cap0], .string a1] w fun e w' => e = .returned (.bool true) ∧ Below w.heap.size w w' := by
  obtain ⟨rfl, hmax0, heach0, hrd0⟩ := w0
  unfold maxLen at w1 hmax0 heach0
  have hB := (Below.refl w.heap.size w).alloc (Nat.le_refl _) (.cells #[.slice a0 z0.length cap0] 24)
  have hz := alloc_size w (.cells #[.slice a0 z0.length cap0] 24)
  have b0 := Blk.new w 24 [.slice a0 z0.length cap0] _ rfl
  have R0 := Lib.hid (fun W hW => (hrd0.below hB (Nat.le_refl _)).below (C := (w.heap.size + 1)) (w' := W) hW (by rw [hz]; exact Nat.le_refl _))
  have LS : Hid (∀ W, Below (w.heap.size + 1) (w.alloc (.cells #[.slice a0 z0.length cap0] 24)) W → (w.heap.size + 1) ≤ W.heap.size) := Lib.hid fun W hW => by have := hW.size; rw [hz] at this; exact this
  have HB0 := Lib.hid hB
  have B0 := Lib.hid b0
  clear b0 hz
  clear hB
  by_cases hs1 : a1.size ≤ 1048576
  · skip
    have CZ0 := fun W h => szDisk_any a0 cap0 z0 1048576 W hmax0 heach0 (by omega) (by omega) h
    by_cases ht0 : ((z0.length : Int) + sumFl z0) ≤ 1048576
    · rw [szFl_yes ht0] at CZ0
      have hl0 : z0.length ≤ 1048576 := by omega
      have hzs0 : ∀ x ∈ z0, x.1.size ≤ 1048576 ∧ x.2.1.size ≤ 1048576 := fun x hx => by have := sumFl_mem hx; omega
      have hL0_0 : ¬ ((1048576 - z0.length - (sumFl z0 : Int) : Int) < 0) := by omega
      have hL1_0 : (1048576 - z0.length - (sumFl z0 : Int) : Int) ≤ 1048576 := by omega
      generalize (1048576 - z0.length - (sumFl z0 : Int) : Int) = L0 at *
      have DZ0 := Lib.hid CZ0
      clear CZ0 ht0
      have CS := fun v W h => sLogTexts_any v z0 a1 W hl0 hzs0 h
      have CI := fun v W h => iLogTexts_any v z0 a1 W hl0 hzs0 h
      have CT0 := Lib.hid (fun W h => toDisk_any a0 cap0 z0 W hl0 h)
      have CE0 := Lib.hid (fun v1 v2 W h1 h2 => eqDisk_any v1 v2 z0 W hl0 h1 h2)
      have CM0 := fun v u B W h => markDisk_any v u z0 B 1 W hl0 (by omega) (by omega) h
      simp only [Int.natCast_one] at CM0
      have hk0 : (1 : Int) + 3 * z0.length = ((1 + 3 * z0.length : Nat) : Int) := by push_cast; omega
      rw [hk0] at CM0
      have hK0a : 0 < 1 + 3 * z0.length := by omega
      have hK0b : 1 + 3 * z0.length ≤ 1099500000000 - 8388608 * 40 := by omega
      generalize 1 + 3 * z0.length = K0 at *
      clear hk0
      have DM0 := Lib.hid CM0
      clear CM0
      have hn1 : ¬ ((K0 : Int) < 0) := by omega
      have hrl : (logL z0 a1).length ≤ 1048576 := Nat.le_trans (logL_len a1) (by omega)
      generalize logL z0 a1 = rv at *
      obtain ⟨rl, hrv⟩ : ∃ rl, rv = rl := ⟨_, rfl⟩
      subst hrv
      have CE := Lib.hid (fun a c a' c' W h1 h2 => eqStringS_any a a' c c' rv rv W (by omega) (by omega) h1 h2)
      have CMG := fun v B W h => markStringS_any v rv B 1 W hrl (by omega) (by omega) h
      have CHG := fun a c W h => heldStringS_any a c rv.length 1 W hrl (by omega) (by omega) h
      simp only [Int.natCast_one] at CMG CHG
      have hn2 : ¬ ((1 : Int) + rv.length < 0) := by omega
      have e2 : (((1 : Int) + rv.length) != ((1 : Int) + rv.length)) = false := by simp
      generalize (1 : Int) + rv.length = KR at *
      have DMG := Lib.hid CMG
      have DHG := Lib.hid CHG
      have DS := Lib.hid CS
      have DI := Lib.hid CI
      clear CS CI CMG CHG hrd0 hmax0 heach0 hzs0
      go_enter Try.func9, Try.ntmps9
      go_wp2_with fail
      generalize w.alloc (.cells #[.slice a0 z0.length cap0] 24) = Wb at *
      have HB := Lib.hid (Below.refl (w.heap.size + 1) Wb)
      refine (DZ0.out _ (R0.out _ HB.out)).mono ?_
      rintro e w1_ ⟨rfl, hb⟩
      have HB_ := Lib.hid (HB.out.trans (hb.mono (LS.out _ HB.out)))
      have B0_ := Lib.hid (Blk.below B0.out hb (Blk.lt B0.out))
      clear HB B0
      have HB := HB_
      have B0 := B0_
      clear HB_ B0_
      clear hb
      have c_B00 := Blk.cell B0.out 0
      simp only [List.getElem?_cons_zero] at c_B00
      go_wp2_with fail
      refine (CT0.out _ (R0.out _ HB.out)).mono ?_
      rintro e w2_ ⟨⟨v2, u2, rfl, ho⟩, hb⟩
      clear c_B00
      obtain ⟨rfl, ho⟩ := ho
      obtain ⟨q2, k2, rfl⟩ := Own.shape ho
      have M_B0_P0 : Hid (Value.ownBlock (.slice q2 z0.length k2) = some (w.heap.size) → False) := Lib.hid (fun e => by have h1 := (Own.block ho _ e).1; have h2 := Blk.lt B0.out; omega)
      have L_P0 : Hid (∀ k, Value.ownBlock (.slice q2 z0.length k2) = some k → (w.heap.size + 1) ≤ k) := Lib.hid (fun k hk => Nat.le_trans (LS.out _ HB.out) (Own.block ho k hk).1)
      have HB_ := Lib.hid (HB.out.trans (hb.mono (LS.out _ HB.out)))
      have B0_ := Lib.hid (Blk.below B0.out hb (Blk.lt B0.out))
      clear HB B0
      have HB := HB_
      have B0 := B0_
      clear HB_ B0_
      clear hb
      have P0 := Lib.hid ho
      clear ho
      go_wp2_with fail
      refine (DS.out _ _ (OwnK.rd ⟨rfl, P0.out⟩)).mono ?_
      rintro e w3_ ⟨⟨v3, rfl, ho⟩, hb⟩
      obtain ⟨q3, k3, rfl⟩ := Own.shape ho
      have A_P0_WO := Lib.hid (apart_of (fun k hk => (Own.block P0.out k hk).2) (fun k hk => (Own.block ho k hk).1))
      have M_B0_WO : Hid (Value.ownBlock (.slice q3 rv.length k3) = some (w.heap.size) → False) := Lib.hid (fun e => by have h1 := (Own.block ho _ e).1; have h2 := Blk.lt B0.out; omega)
      have L_WO : Hid (∀ k, Value.ownBlock (.slice q3 rv.length k3) = some k → (w.heap.size + 1) ≤ k) := Lib.hid (fun k hk => Nat.le_trans (LS.out _ HB.out) (Own.block ho k hk).1)
      have HB_ := Lib.hid (HB.out.trans (hb.mono (LS.out _ HB.out)))
      have B0_ := Lib.hid (Blk.below B0.out hb (Blk.lt B0.out))
      have P0_ := Lib.hid (P0.out.below hb (Nat.le_refl _))
      clear HB B0 P0
      have HB := HB_
      have B0 := B0_
      have P0 := P0_
      clear HB_ B0_ P0_
      clear hb
      have WO := Lib.hid ho
      clear ho
      clear P0
      have c_B00 := Blk.cell B0.out 0
      simp only [List.getElem?_cons_zero] at c_B00
      go_wp2_with fail
      refine (CT0.out _ (R0.out _ HB.out)).mono ?_
      rintro e w4_ ⟨⟨v4, u4, rfl, ho⟩, hb⟩
      clear c_B00
      obtain ⟨rfl, ho⟩ := ho
      obtain ⟨q4, k4, rfl⟩ := Own.shape ho
      have A_WO_X0 := Lib.hid (apart_of (fun k hk => (Own.block WO.out k hk).2) (fun k hk => (Own.block ho k hk).1))
      have M_B0_X0 : Hid (Value.ownBlock (.slice q4 z0.length k4) = some (w.heap.size) → False) := Lib.hid (fun e => by have h1 := (Own.block ho _ e).1; have h2 := Blk.lt B0.out; omega)
      have L_X0 : Hid (∀ k, Value.ownBlock (.slice q4 z0.length k4) = some k → (w.heap.size + 1) ≤ k) := Lib.hid (fun k hk => Nat.le_trans (LS.out _ HB.out) (Own.block ho k hk).1)
      have HB_ := Lib.hid (HB.out.trans (hb.mono (LS.out _ HB.out)))
      have B0_ := Lib.hid (Blk.below B0.out hb (Blk.lt B0.out))
      have WO_ := Lib.hid (WO.out.below hb (Nat.le_refl _))
      clear HB B0 WO
      have HB := HB_
      have B0 := B0_
      have WO := WO_
      clear HB_ B0_ WO_
      clear hb
      have X0 := Lib.hid ho
      clear ho
      have M_BX0_WO : Hid (Value.ownBlock (.slice q3 rv.length k3) = some (w4_.heap.size) → False) := Lib.hid (fun e => by have h2 := (Own.block WO.out _ e).2; omega)
      have M_BX0_X0 : Hid (Value.ownBlock (.slice q4 z0.length k4) = some (w4_.heap.size) → False) := Lib.hid (fun e => by have h2 := (Own.block X0.out _ e).2; omega)
      have hb := (Below.refl w4_.heap.size w4_).alloc (Nat.le_refl _) (.cells #[.slice q4 z0.length k4] 29)
      have BX0 := Lib.hid (Blk.new w4_ 29 [.slice q4 z0.length k4] _ rfl)
      have HB_ := Lib.hid (HB.out.trans (hb.mono (LS.out _ HB.out)))
      have B0_ := Lib.hid (Blk.below B0.out hb (Blk.lt B0.out))
      have WO_ := Lib.hid (WO.out.below hb (Nat.le_refl _))
      have X0_ := Lib.hid (X0.out.below hb (Nat.le_refl _))
      clear HB B0 WO X0
      have HB := HB_
      have B0 := B0_
      have WO := WO_
      have X0 := X0_
      clear HB_ B0_ WO_ X0_
      clear hb
      have c_BX00 := Blk.cell BX0.out 0
      simp only [List.getElem?_cons_zero] at c_BX00
      go_wp2_with fail
      refine (DI.out _ _ (OwnK.rd ⟨rfl, X0.out⟩)).mono ?_
      rintro e w5_ ⟨⟨v5, rfl, ho⟩, hb⟩
      clear c_BX00
      obtain ⟨q5, k5, rfl⟩ := Own.shape ho
      have A_WO_GO := Lib.hid (apart_of (fun k hk => (Own.block WO.out k hk).2) (fun k hk => (Own.block ho k hk).1))
      have A_X0_GO := Lib.hid (apart_of (fun k hk => (Own.block X0.out k hk).2) (fun k hk => (Own.block ho k hk).1))
      have M_B0_GO : Hid (Value.ownBlock (.slice q5 rv.length k5) = some (w.heap.size) → False) := Lib.hid (fun e => by have h1 := (Own.block ho _ e).1; have h2 := Blk.lt B0.out; omega)
      have M_BX0_GO : Hid (Value.ownBlock (.slice q5 rv.length k5) = some (w4_.heap.size) → False) := Lib.hid (fun e => by have h1 := (Own.block ho _ e).1; have h2 := Blk.lt BX0.out; omega)
      have L_GO : Hid (∀ k, Value.ownBlock (.slice q5 rv.length k5) = some k → (w.heap.size + 1) ≤ k) := Lib.hid (fun k hk => Nat.le_trans (LS.out _ HB.out) (Own.block ho k hk).1)
      have HB_ := Lib.hid (HB.out.trans (hb.mono (LS.out _ HB.out)))
      have B0_ := Lib.hid (Blk.below B0.out hb (Blk.lt B0.out))
      have WO_ := Lib.hid (WO.out.below hb (Nat.le_refl _))
      have X0_ := Lib.hid (X0.out.below hb (Nat.le_refl _))
      have BX0_ := Lib.hid (Blk.below BX0.out hb (Blk.lt BX0.out))
      clear HB B0 WO X0 BX0
      have HB := HB_
      have B0 := B0_
      have WO := WO_
      have X0 := X0_
      have BX0 := BX0_
      clear HB_ B0_ WO_ X0_ BX0_
      clear hb
      have GO := Lib.hid ho
      clear ho
      obtain ⟨_, _, eq_, RX_GO⟩ := OwnS.rd GO.out
      cases eq_
      replace RX_GO := Lib.hid RX_GO
      obtain ⟨_, _, eq_, RX_WO⟩ := OwnS.rd WO.out
      cases eq_
      replace RX_WO := Lib.hid RX_WO
      go_wp2_with fail
      refine (CE.out _ _ _ _ _ RX_GO.out RX_WO.out).mono ?_
      rintro e w6 ⟨rfl, hb⟩
      have HB_ := Lib.hid (HB.out.trans (hb.mono (LS.out _ HB.out)))
      have B0_ := Lib.hid (Blk.below B0.out hb (Blk.lt B0.out))
      have WO_ := Lib.hid (WO.out.below hb (Nat.le_refl _))
      have X0_ := Lib.hid (X0.out.below hb (Nat.le_refl _))
      have BX0_ := Lib.hid (Blk.below BX0.out hb (Blk.lt BX0.out))
      have GO_ := Lib.hid (GO.out.below hb (Nat.le_refl _))
      clear HB B0 WO X0 BX0 GO
      have HB := HB_
      have B0 := B0_
      have WO := WO_
      have X0 := X0_
      have BX0 := BX0_
      have GO := GO_
      clear HB_ B0_ WO_ X0_ BX0_ GO_
      clear hb
      clear RX_GO RX_WO
      have HK : Hid (∀ W, Below (w6).heap.size (w6) W → W.cell? ⟨w4_.heap.size, 0, none⟩ = some (.slice q4 z0.length k4) ∧ W.cell? ⟨w.heap.size, 0, none⟩ = some (.slice a0 z0.length cap0)) := Lib.hid fun W hW => ⟨(Blk.below BX0.out hW (Blk.lt BX0.out)).cell 0, (Blk.below B0.out hW (Blk.lt B0.out)).cell 0⟩
      obtain ⟨c0, c1⟩ := HK.out _ (Below.refl _ _)
      go_wp2_with fail
      go_region_held3 (fun W => W.cell? ⟨w4_.heap.size, 0, none⟩ = some (.slice q4 z0.length k4) ∧ W.cell? ⟨w.heap.size, 0, none⟩ = some (.slice a0 z0.length cap0))
        (first | exact HK.out _ hk2 | exact HK.out _ hk1 | go_keep)
        (first
          | (go_at_call 17; refine (CT0.out _ ?_).mono ?_; (exact R0.out (w6) HB.out); rintro e wa ⟨⟨va, ua, rfl, hoa⟩, hba⟩; have hk1 : Below (w6).heap.size (w6) wa := ⟨hba.os, hba.tape, hba.output, hba.size, hba.block⟩; have QA := Lib.hid (OwnK.rd hoa))
          | (go_at_call 19; refine (CE0.out _ _ _ ?_ ?_).mono ?_; (exact ((OwnK.rd ⟨rfl, X0.out⟩).below hk1 (Nat.le_refl _))); (exact QA.out); rintro e wb ⟨rfl, hbb⟩; have hkb : Below wa.heap.size wa wb := ⟨hbb.os, hbb.tape, hbb.output, hbb.size, hbb.block⟩; have hk2 := hk1.trans (hkb.mono hk1.size)))
      clear c0 c1
      replace hk2 := Lib.hid hk2
      clear hk1 hkb hba hbb QA hoa
      have hb := hk2.out
      have HB_ := Lib.hid (HB.out.trans (hb.mono (LS.out _ HB.out)))
      have B0_ := Lib.hid (Blk.below B0.out hb (Blk.lt B0.out))
      have WO_ := Lib.hid (WO.out.below hb (Nat.le_refl _))
      have X0_ := Lib.hid (X0.out.below hb (Nat.le_refl _))
      have BX0_ := Lib.hid (Blk.below BX0.out hb (Blk.lt BX0.out))
      have GO_ := Lib.hid (GO.out.below hb (Nat.le_refl _))
      clear HB B0 WO X0 BX0 GO
      have HB := HB_
      have B0 := B0_
      have WO := WO_
      have X0 := X0_
      have BX0 := BX0_
      have GO := GO_
      clear HB_ B0_ WO_ X0_ BX0_ GO_
      clear hb hk2 HK
      have c_BX00 := Blk.cell BX0.out 0
      simp only [List.getElem?_cons_zero] at c_BX00
      go_wp2_with fail
      refine (DM0.out _ _ _ _ ⟨rfl, X0.out⟩).mono ?_
      rintro e w8 ⟨rfl, ho, hg⟩
      clear c_BX00
      clear ho
      have HB_ := Lib.hid (HB.out.grown hg (LS.out _ HB.out) (fun k hk => L_X0.out k hk))
      have B0_ := Lib.hid (Blk.kept B0.out hg (fun e => M_B0_X0.out e.symm))
      have WO_ := Lib.hid (Own.kept WO.out hg (apart_sym A_WO_X0.out))
      have BX0_ := Lib.hid (Blk.kept BX0.out hg (fun e => M_BX0_X0.out e.symm))
      have GO_ := Lib.hid (Own.kept GO.out hg A_X0_GO.out)
      clear X0
      clear HB B0 WO BX0 GO
      have HB := HB_
      have B0 := B0_
      have WO := WO_
      have BX0 := BX0_
      have GO := GO_
      clear HB_ B0_ WO_ BX0_ GO_
      clear hg
      clear BX0
      obtain ⟨_, _, eq_, RX_GO⟩ := OwnS.rd GO.out
      cases eq_
      replace RX_GO := Lib.hid RX_GO
      obtain ⟨_, _, eq_, RX_WO⟩ := OwnS.rd WO.out
      cases eq_
      replace RX_WO := Lib.hid RX_WO
      go_wp2_with fail
      refine (CE.out _ _ _ _ _ RX_GO.out RX_WO.out).mono ?_
      rintro e w9 ⟨rfl, hb⟩
      have HB_ := Lib.hid (HB.out.trans (hb.mono (LS.out _ HB.out)))
      have B0_ := Lib.hid (Blk.below B0.out hb (Blk.lt B0.out))
      have WO_ := Lib.hid (WO.out.below hb (Nat.le_refl _))
      have GO_ := Lib.hid (GO.out.below hb (Nat.le_refl _))
      clear HB B0 WO GO
      have HB := HB_
      have B0 := B0_
      have WO := WO_
      have GO := GO_
      clear HB_ B0_ WO_ GO_
      clear hb
      clear RX_GO RX_WO
      go_wp2_with fail
      refine (DMG.out _ _ _ GO.out).mono ?_
      rintro e w10 ⟨rfl, ho, hg⟩
      have HB_ := Lib.hid (HB.out.grown hg (LS.out _ HB.out) (fun k hk => L_GO.out k hk))
      have B0_ := Lib.hid (Blk.kept B0.out hg (fun e => M_B0_GO.out e.symm))
      have WO_ := Lib.hid (Own.kept WO.out hg (apart_sym A_WO_GO.out))
      clear GO
      clear HB B0 WO
      have HB := HB_
      have B0 := B0_
      have WO := WO_
      clear HB_ B0_ WO_
      clear hg
      obtain ⟨_, _, eq_, GR⟩ := OwnS.rd ho
      rw [marks_length] at eq_
      cases eq_
      replace GR := Lib.hid GR
      clear ho
      go_wp2_with fail
      refine (DHG.out _ _ _ GR.out).mono ?_
      rintro e w11 ⟨rfl, hb⟩
      have HB_ := Lib.hid (HB.out.trans (hb.mono (LS.out _ HB.out)))
      have B0_ := Lib.hid (Blk.below B0.out hb (Blk.lt B0.out))
      have WO_ := Lib.hid (WO.out.below hb (Nat.le_refl _))
      have GR_ := Lib.hid (GR.out.below hb (Nat.le_refl _))
      clear HB B0 WO GR
      have HB := HB_
      have B0 := B0_
      have WO := WO_
      have GR := GR_
      clear HB_ B0_ WO_ GR_
      clear hb
      have c_B00 := Blk.cell B0.out 0
      simp only [List.getElem?_cons_zero] at c_B00
      go_wp2_with fail
      refine (CT0.out _ (R0.out _ HB.out)).mono ?_
      rintro e w12_ ⟨⟨v12, u12, rfl, ho⟩, hb⟩
      clear c_B00
      obtain ⟨rfl, ho⟩ := ho
      obtain ⟨q12, k12, rfl⟩ := Own.shape ho
      have A_WO_H0 := Lib.hid (apart_of (fun k hk => (Own.block WO.out k hk).2) (fun k hk => (Own.block ho k hk).1))
      have M_B0_H0 : Hid (Value.ownBlock (.slice q12 z0.length k12) = some (w.heap.size) → False) := Lib.hid (fun e => by have h1 := (Own.block ho _ e).1; have h2 := Blk.lt B0.out; omega)
      have L_H0 : Hid (∀ k, Value.ownBlock (.slice q12 z0.length k12) = some k → (w.heap.size + 1) ≤ k) := Lib.hid (fun k hk => Nat.le_trans (LS.out _ HB.out) (Own.block ho k hk).1)
      have HB_ := Lib.hid (HB.out.trans (hb.mono (LS.out _ HB.out)))
      have B0_ := Lib.hid (Blk.below B0.out hb (Blk.lt B0.out))
      have WO_ := Lib.hid (WO.out.below hb (Nat.le_refl _))
      have GR_ := Lib.hid (GR.out.below hb (Nat.le_refl _))
      clear HB B0 WO GR
      have HB := HB_
      have B0 := B0_
      have WO := WO_
      have GR := GR_
      clear HB_ B0_ WO_ GR_
      clear hb
      have H0 := Lib.hid ho
      clear ho
      go_wp2_with fail
      refine (DI.out _ _ (OwnK.rd ⟨rfl, H0.out⟩)).mono ?_
      rintro e w13_ ⟨⟨v13, rfl, ho⟩, hb⟩
      obtain ⟨q13, k13, rfl⟩ := Own.shape ho
      have A_WO_HO := Lib.hid (apart_of (fun k hk => (Own.block WO.out k hk).2) (fun k hk => (Own.block ho k hk).1))
      have A_H0_HO := Lib.hid (apart_of (fun k hk => (Own.block H0.out k hk).2) (fun k hk => (Own.block ho k hk).1))
      have M_B0_HO : Hid (Value.ownBlock (.slice q13 rv.length k13) = some (w.heap.size) → False) := Lib.hid (fun e => by have h1 := (Own.block ho _ e).1; have h2 := Blk.lt B0.out; omega)
      have L_HO : Hid (∀ k, Value.ownBlock (.slice q13 rv.length k13) = some k → (w.heap.size + 1) ≤ k) := Lib.hid (fun k hk => Nat.le_trans (LS.out _ HB.out) (Own.block ho k hk).1)
      have HB_ := Lib.hid (HB.out.trans (hb.mono (LS.out _ HB.out)))
      have B0_ := Lib.hid (Blk.below B0.out hb (Blk.lt B0.out))
      have WO_ := Lib.hid (WO.out.below hb (Nat.le_refl _))
      have GR_ := Lib.hid (GR.out.below hb (Nat.le_refl _))
      have H0_ := Lib.hid (H0.out.below hb (Nat.le_refl _))
      clear HB B0 WO GR H0
      have HB := HB_
      have B0 := B0_
      have WO := WO_
      have GR := GR_
      have H0 := H0_
      clear HB_ B0_ WO_ GR_ H0_
      clear hb
      have HO := Lib.hid ho
      clear ho
      clear H0
      obtain ⟨_, _, eq_, RX_HO⟩ := OwnS.rd HO.out
      cases eq_
      replace RX_HO := Lib.hid RX_HO
      obtain ⟨_, _, eq_, RX_WO⟩ := OwnS.rd WO.out
      cases eq_
      replace RX_WO := Lib.hid RX_WO
      go_wp2_with fail
      refine (CE.out _ _ _ _ _ RX_HO.out RX_WO.out).mono ?_
      rintro e w14 ⟨rfl, hb⟩
      have HB_ := Lib.hid (HB.out.trans (hb.mono (LS.out _ HB.out)))
      have B0_ := Lib.hid (Blk.below B0.out hb (Blk.lt B0.out))
      have WO_ := Lib.hid (WO.out.below hb (Nat.le_refl _))
      have GR_ := Lib.hid (GR.out.below hb (Nat.le_refl _))
      have HO_ := Lib.hid (HO.out.below hb (Nat.le_refl _))
      clear HB B0 WO GR HO
      have HB := HB_
      have B0 := B0_
      have WO := WO_
      have GR := GR_
      have HO := HO_
      clear HB_ B0_ WO_ GR_ HO_
      clear hb
      clear RX_HO RX_WO
      go_wp2_with fail
      refine (DHG.out _ _ _ GR.out).mono ?_
      rintro e w15 ⟨rfl, hb⟩
      have HB_ := Lib.hid (HB.out.trans (hb.mono (LS.out _ HB.out)))
      have B0_ := Lib.hid (Blk.below B0.out hb (Blk.lt B0.out))
      have WO_ := Lib.hid (WO.out.below hb (Nat.le_refl _))
      have GR_ := Lib.hid (GR.out.below hb (Nat.le_refl _))
      have HO_ := Lib.hid (HO.out.below hb (Nat.le_refl _))
      clear HB B0 WO GR HO
      have HB := HB_
      have B0 := B0_
      have WO := WO_
      have GR := GR_
      have HO := HO_
      clear HB_ B0_ WO_ GR_ HO_
      clear hb
      go_wp2_with fail
      go_ret
      exact ⟨rfl, HB0.out.trans (HB.out.mono (Nat.le_succ _))⟩
    · rw [szFl_no ht0] at CZ0
      have DZ0 := Lib.hid CZ0
      clear CZ0 ht0 hrd0
      go_enter Try.func9, Try.ntmps9
      go_wp2_with fail
      generalize w.alloc (.cells #[.slice a0 z0.length cap0] 24) = Wb at *
      have HB := Lib.hid (Below.refl (w.heap.size + 1) Wb)
      refine (DZ0.out _ (R0.out _ HB.out)).mono ?_
      rintro e w1_ ⟨rfl, hb⟩
      have HB_ := Lib.hid (HB.out.trans (hb.mono (LS.out _ HB.out)))
      have B0_ := Lib.hid (Blk.below B0.out hb (Blk.lt B0.out))
      clear HB B0
      have HB := HB_
      have B0 := B0_
      clear HB_ B0_
      clear hb
      go_wp2_with fail
      go_ret
      exact ⟨rfl, HB0.out.trans (HB.out.mono (Nat.le_succ _))⟩
  · clear hrd0
    go_enter Try.func9, Try.ntmps9
    go_wp2_with fail
    go_ret
    exact ⟨rfl, HB0.out⟩

theorem own : ownKnob Try.prog.godebug = none := by kernel_rfl
theorem laidOut : laidOutB Try.prog = true := by kernel_rfl

set_option maxRecDepth 100000 in
theorem lifted (os : Os) (started : os.Started) (H : Type) (enc : TypeId × Value → H) :
    ReturnsInHanded {} Try.checked os 9 .any (Rows.fnExactLogTextsSpec.pre6 enc Try.prog Try.f9 Rows.fnExactLogTextsRow.domain false) (Rows.fnExactLogTextsSpec.post enc Try.prog Try.f9 false true false false) := by
  refine returnsInHanded_of_change (C := Try.checked) own started (by kernel_rfl) Try.func9
    (ChangeSpec.witness6 (enc := enc) (C := Try.checked) false ⟨#[], #[.agg #[.slice none 0 0], .string ByteArray.empty], []⟩ 8 (by kernel_rfl) (by kernel_rfl) (by kernel_rfl) (by kernel_rfl)) ?_
  intro W base args ds gs before hval0 hW hcnd _
  have hval : ∀ (j : Nat) t v, Try.f9.params[j]? = some t → args[j]? = some v → Value.okWide Try.prog W .any base t v := hval0
  have hW' := hW
  obtain ⟨p, q, hA0, hV, rfl, hfz, hnd⟩ := hW
  have hA : DataW.TrodAll enc Try.prog W 0 (fun _ => true) true Try.f9.params.toList args.toList ds p := hA0
  rw [Try.params9] at hA hval
  obtain ⟨v0, vs0, d0, ds0, p0, q0, hargs, rfl, rfl, h0, r0⟩ := trodAll_cons hA
  obtain ⟨v1, vs1, d1, ds1, p1, q1, rfl, rfl, rfl, h1, r1⟩ := trodAll_cons r0
  obtain ⟨rfl, rfl, rfl⟩ := trodAll_nil r1
  obtain rfl : args = #[v0, v1] := by cases args; simp_all
  obtain ⟨rfl, rfl⟩ := trodVars_none hV
  have k0 := h0
  have lt0 : ∀ x ∈ p0, x.block < W.heap.size := by obtain ⟨m, hm⟩ := k0; exact DataW.trod_lt m _ _ _ hm
  obtain ⟨a0, len0, cap0, z0, rfl, w0⟩ := isDisk_of Try.underlying24 (by kernel_rfl) (by kernel_rfl) Try.underlying22 Try.underlying110 (by kernel_rfl) (by kernel_rfl) Try.underlying9 Try.underlying9 Try.underlying3 (hval 0 24 v0 rfl rfl) h0
  have k1 := h1
  have lt1 : ∀ x ∈ p1, x.block < W.heap.size := by obtain ⟨m, hm⟩ := k1; exact DataW.trod_lt m _ _ _ hm
  obtain ⟨a1, rfl, rfl, rfl, w1⟩ := open_string Try.underlying9 (hval 1 9 v1 rfl rfl) h1
  clear hA0 hval0
  refine (walk a0 len0 cap0 z0 a1 W w0 w1).mono fun e W' ⟨he, bel⟩ => ?_
  subst he
  exact ⟨_, rfl, _, _, _, [], _, [], hW', trodAll_mk1 (shut_bool Try.underlying4 _), (trodAll_cons_mk (Below.trod laidOut (by kernel_rfl) (of_decide_eq_true (by kernel_rfl)) k0 bel lt0) (trodAll_cons_mk (Below.trod laidOut (by kernel_rfl) (of_decide_eq_true (by kernel_rfl)) k1 bel lt1) trodAll_mk0)), rfl, bel.frame _, fun h => by cases h⟩

theorem over : Rows.fnExactLogTextsRow.holds Try.pinned (OpenSpec.ofChange Rows.fnExactLogTextsSpec) :=
  OpenClaim.holds_of_wide 9 Try.f9 rfl rfl rfl rfl rfl rfl rfl ⟨rfl, rfl, rfl, rfl, rfl⟩ rfl rfl rfl rfl rfl (by kernel_rfl) Try.func9 (by kernel_rfl)
    (of_decide_eq_true (by kernel_rfl)) (by unfold Func.isWrapper; first | (rw [if_pos (by decide +kernel)]; kernel_rfl) | (rw [if_neg (by decide +kernel)]; exact ⟨rfl, rfl⟩))
    (fun os started H enc _ => lifted os started H enc)

/-- The statement. -/
theorem proved : Rows.FnExactLogTextsSaid :=
  over
#print axioms proved

end Go.Proofs.Ytdecehecjlbbiaa.fnExactLogTexts
