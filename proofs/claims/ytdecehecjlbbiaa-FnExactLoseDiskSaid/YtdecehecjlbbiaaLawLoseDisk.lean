/-
  For every disk and every list of numbers (of at most 2^20 bytes, files and numbers; more are passed by) the program's LoseDisk and the reference's return the same, the arguments stay, and what the program handed out is its caller's: 'FnExactLoseDisk' returns true. No conditions.
-/
import Derived.Test.YtdecehecjlbbiaaFrameF
import Derived.Test.YtdecehecjlbbiaaDisk4
import Derived.Test.YtdecehecjlbbiaaInts2
namespace Go.Proofs.Ytdecehecjlbbiaa.fnExactLoseDisk
open Go.ChangeShapes Go.WideShapes Go.ChangeAt Go.RowKit
open Go.ChangeMaps (open_string shut_string)
set_option linter.unusedVariables false

set_option maxHeartbeats 4000000 in
set_option maxRecDepth 100000 in
theorem walk (a0 : Option Addr) (len0 cap0 : Nat) (z0 : List Fl) (a1 : Option Addr) (len1 cap1 : Nat) (z1 : List Int) (w : World) (w0 : IsFiles w a0 len0 cap0 z0) (w1 : IsRow .i64 w a1 len1 cap1 z1) :
    Calls Try.prog 6 #[.agg #[.slice a0 len0 cap0], .slice a1 len1 cap1] w fun e w' => e = .returned (.bool true) ∧ Below w.heap.size w w' := by
  obtain ⟨rfl, hmax, heach, hrd⟩ := w0
  unfold maxLen at hmax heach
  obtain ⟨z, hzl, hmax1, hrq⟩ := rdI_of_row w1
  clear w1
  subst hzl
  unfold maxLen at hmax1
  have hB := (Below.refl w.heap.size w).alloc (Nat.le_refl _) (.cells #[.slice a0 z0.length cap0] 24)
  have hz := alloc_size w (.cells #[.slice a0 z0.length cap0] 24)
  have b0 := Blk.new w 24 [.slice a0 z0.length cap0] _ rfl
  have C1 := szDisk_any a0 cap0 z0 1048576 _ hmax heach (by omega) (by omega) (hrd.below hB (Nat.le_refl _))
  have R := Lib.hid (fun W hW => (hrd.below hB (Nat.le_refl _)).below (C := w.heap.size + 1) (w' := W) hW (by rw [hz]; exact Nat.le_refl _))
  have LS : Hid (∀ W, Below (w.heap.size + 1) (w.alloc (.cells #[.slice a0 z0.length cap0] 24)) W → w.heap.size + 1 ≤ W.heap.size) := Lib.hid fun W hW => by have := hW.size; rw [hz] at this; exact this
  have HB0 := Lib.hid hB
  have B0 := Lib.hid b0
  have HZ := Lib.hid hz
  have RQ := Lib.hid (fun W hW => (hrq.below hB (Nat.le_refl _)).below (C := w.heap.size + 1) (w' := W) hW (by rw [hz]; exact Nat.le_refl _))
  by_cases hs1 : z.length ≤ 1048576
  · by_cases ht : (z0.length : Int) + sumFl z0 ≤ 1048576
    · have hl : z0.length ≤ 1048576 := by omega
      have hzs : ∀ x ∈ z0, x.1.size ≤ 1048576 ∧ x.2.1.size ≤ 1048576 := fun x hx => by have := sumFl_mem hx; omega
      rw [szFl_yes ht] at C1
      have hleft : ¬ ((1048576 : Int) - z0.length - (sumFl z0 : Int) < 0) := by omega
      have CS := Lib.hid (fun v a c W h hq => sLose_any v z0 a c z W hl hzs h hq)
      have CI := Lib.hid (fun v a c W h hq => iLose_any v z0 a c z W hl hzs h hq)
      have CT := Lib.hid (fun W h => toDisk_any a0 cap0 z0 W hl h)
      have CE := Lib.hid (fun v1 v2 W h1 h2 => eqDisk_any v1 v2 z0 W hl h1 h2)
      have CQ := Lib.hid (fun W h => toIntS_any a1 cap1 z W hs1 h)
      have CEQ := Lib.hid (fun a c a' c' W h1 h2 => eqIntS_any a a' c c' z z W (by omega) (by omega) h1 h2)
      have CMX := Lib.hid (fun v u B W h => markDisk_any v u z0 B 1 W hl (by omega) (by omega) h)
      have CMQ := Lib.hid (fun v B K W (hK : 0 < K) (hK' : K ≤ 1099510579200) h => markIntS_any v z B K W hs1 hK hK' h)
      have hrl : (loseV z0 z).1.length ≤ 1048576 := by unfold loseV; split; (rw [show (loseL z0 z).length = z0.length from loseTo_len _ _ _]; exact hl); simp
      generalize loseV z0 z = rv at *
      obtain ⟨rl, rb⟩ := rv
      simp only at CS CI hrl
      have CE2 := Lib.hid (fun v1 v2 W h1 h2 => eqDisk_any v1 v2 rl W hrl h1 h2)
      have CMG := Lib.hid (fun v u B W h => markDisk_any v u rl B 1 W hrl (by omega) (by omega) h)
      have CHG := Lib.hid (fun v W h => heldDisk_any v rl.length 1 W hrl (by omega) (by omega) h)
      simp only [Int.natCast_one] at CMX CMG CHG
      have e1 : (rb != rb) = false := by simp
      have hk1 : (1 : Int) + 3 * z0.length = ((1 + 3 * z0.length : Nat) : Int) := by push_cast; omega
      rw [hk1] at CMX
      generalize hK1 : 1 + 3 * z0.length = K1 at *
      have hK1a : 0 < K1 := by omega
      have hK1b : K1 ≤ 1099510579200 := by omega
      have hn1 : ¬ ((K1 : Int) + z.length < 0) := by omega
      have hn2 : ¬ ((1 : Int) + 3 * rl.length < 0) := by omega
      have e2 : (((1 : Int) + 3 * rl.length) != ((1 : Int) + 3 * rl.length)) = false := by simp
      generalize (1 : Int) + 3 * rl.length = K2 at *
      have D1 := Lib.hid C1
      clear hrd hmax heach ht hB hz b0 C1 hzs hk1 hK1 hrq
      generalize (1048576 : Int) - z0.length - (sumFl z0 : Int) = left at *
      go_enter Try.func6, Try.ntmps6
      go_wp2_with fail
      generalize w.alloc (.cells #[.slice a0 z0.length cap0] 24) = Wb at *
      have HB := Lib.hid (Below.refl (w.heap.size + 1) Wb)
      refine D1.out.mono ?_
      rintro e w1 ⟨rfl, hb⟩
      have HB_ := Lib.hid (HB.out.trans (hb.mono (LS.out _ HB.out)))
      have B0_ := Lib.hid (Blk.below B0.out hb (Blk.lt B0.out))
      clear HB B0
      have HB := HB_
      have B0 := B0_
      clear HB_ B0_
      clear hb
      have c_B00 := Blk.cell B0.out 0
      simp only [List.getElem?_cons_zero] at c_B00
      go_wp2_with fail
      refine (CT.out _ (R.out _ HB.out)).mono ?_
      rintro e w2 ⟨⟨v2, u2, rfl, ho⟩, hb⟩
      clear c_B00
      obtain ⟨rfl, ho⟩ := ho
      obtain ⟨q2, k2, rfl⟩ := Own.shape ho
      have M_B0_PO : Hid (Value.ownBlock (.slice q2 z0.length k2) = some (w.heap.size) → False) := Lib.hid (fun e => by have h1 := (Own.block ho _ e).1; have h2 := Blk.lt B0.out; omega)
      have L_PO : Hid (∀ k, Value.ownBlock (.slice q2 z0.length k2) = some k → (w.heap.size + 1) ≤ k) := Lib.hid (fun k hk => Nat.le_trans (LS.out _ HB.out) (Own.block ho k hk).1)
      have HB_ := Lib.hid (HB.out.trans (hb.mono (LS.out _ HB.out)))
      have B0_ := Lib.hid (Blk.below B0.out hb (Blk.lt B0.out))
      clear HB B0
      have HB := HB_
      have B0 := B0_
      clear HB_ B0_
      clear hb
      have PO := Lib.hid ho
      clear ho
      go_wp2_with fail
      refine (CQ.out _ (RQ.out _ HB.out)).mono ?_
      rintro e w3 ⟨⟨v3, rfl, ho⟩, hb⟩
      obtain ⟨q3, k3, rfl⟩ := Own.shape ho
      obtain ⟨_, _, eq_, PQ⟩ := OwnI.rd ho
      cases eq_
      replace PQ := Lib.hid PQ
      clear ho
      have HB_ := Lib.hid (HB.out.trans (hb.mono (LS.out _ HB.out)))
      have B0_ := Lib.hid (Blk.below B0.out hb (Blk.lt B0.out))
      have PO_ := Lib.hid (PO.out.below hb (Nat.le_refl _))
      clear HB B0 PO
      have HB := HB_
      have B0 := B0_
      have PO := PO_
      clear HB_ B0_ PO_
      clear hb
      go_wp2_with fail
      refine (CS.out _ _ _ _ (OwnK.rd ⟨rfl, PO.out⟩) PQ.out).mono ?_
      rintro e w4 ⟨⟨v4, u4, rfl, ho⟩, hb⟩
      obtain ⟨rfl, ho⟩ := ho
      obtain ⟨q4, k4, rfl⟩ := Own.shape ho
      have A_PO_WO := Lib.hid (apart_of (fun k hk => (Own.block PO.out k hk).2) (fun k hk => (Own.block ho k hk).1))
      have M_B0_WO : Hid (Value.ownBlock (.slice q4 rl.length k4) = some (w.heap.size) → False) := Lib.hid (fun e => by have h1 := (Own.block ho _ e).1; have h2 := Blk.lt B0.out; omega)
      have L_WO : Hid (∀ k, Value.ownBlock (.slice q4 rl.length k4) = some k → (w.heap.size + 1) ≤ k) := Lib.hid (fun k hk => Nat.le_trans (LS.out _ HB.out) (Own.block ho k hk).1)
      have HB_ := Lib.hid (HB.out.trans (hb.mono (LS.out _ HB.out)))
      have B0_ := Lib.hid (Blk.below B0.out hb (Blk.lt B0.out))
      have PO_ := Lib.hid (PO.out.below hb (Nat.le_refl _))
      have PQ_ := Lib.hid (PQ.out.below hb (Nat.le_refl _))
      clear HB B0 PO PQ
      have HB := HB_
      have B0 := B0_
      have PO := PO_
      have PQ := PQ_
      clear HB_ B0_ PO_ PQ_
      clear hb
      have WO := Lib.hid ho
      clear ho
      clear PO
      clear PQ
      have M_X6_WO : Hid (Value.ownBlock (.slice q4 rl.length k4) = some (w4.heap.size) → False) := Lib.hid (fun e => by have h2 := (Own.block WO.out _ e).2; omega)
      have hb := (Below.refl w4.heap.size w4).alloc (Nat.le_refl _) (.cells #[.slice q4 rl.length k4] 29)
      have X6 := Lib.hid (Blk.new w4 29 [.slice q4 rl.length k4] _ rfl)
      have HB_ := Lib.hid (HB.out.trans (hb.mono (LS.out _ HB.out)))
      have B0_ := Lib.hid (Blk.below B0.out hb (Blk.lt B0.out))
      have WO_ := Lib.hid (WO.out.below hb (Nat.le_refl _))
      clear HB B0 WO
      have HB := HB_
      have B0 := B0_
      have WO := WO_
      clear HB_ B0_ WO_
      clear hb
      have c_B00 := Blk.cell B0.out 0
      simp only [List.getElem?_cons_zero] at c_B00
      go_wp2_with fail
      refine (CT.out _ (R.out _ HB.out)).mono ?_
      rintro e w5 ⟨⟨v5, u5, rfl, ho⟩, hb⟩
      clear c_B00
      obtain ⟨rfl, ho⟩ := ho
      obtain ⟨q5, k5, rfl⟩ := Own.shape ho
      have A_WO_XO := Lib.hid (apart_of (fun k hk => (Own.block WO.out k hk).2) (fun k hk => (Own.block ho k hk).1))
      have M_B0_XO : Hid (Value.ownBlock (.slice q5 z0.length k5) = some (w.heap.size) → False) := Lib.hid (fun e => by have h1 := (Own.block ho _ e).1; have h2 := Blk.lt B0.out; omega)
      have M_X6_XO : Hid (Value.ownBlock (.slice q5 z0.length k5) = some (w4.heap.size) → False) := Lib.hid (fun e => by have h1 := (Own.block ho _ e).1; have h2 := Blk.lt X6.out; omega)
      have L_XO : Hid (∀ k, Value.ownBlock (.slice q5 z0.length k5) = some k → (w.heap.size + 1) ≤ k) := Lib.hid (fun k hk => Nat.le_trans (LS.out _ HB.out) (Own.block ho k hk).1)
      have HB_ := Lib.hid (HB.out.trans (hb.mono (LS.out _ HB.out)))
      have B0_ := Lib.hid (Blk.below B0.out hb (Blk.lt B0.out))
      have WO_ := Lib.hid (WO.out.below hb (Nat.le_refl _))
      have X6_ := Lib.hid (Blk.below X6.out hb (Blk.lt X6.out))
      clear HB B0 WO X6
      have HB := HB_
      have B0 := B0_
      have WO := WO_
      have X6 := X6_
      clear HB_ B0_ WO_ X6_
      clear hb
      have XO := Lib.hid ho
      clear ho
      have M_X8_WO : Hid (Value.ownBlock (.slice q4 rl.length k4) = some (w5.heap.size) → False) := Lib.hid (fun e => by have h2 := (Own.block WO.out _ e).2; omega)
      have M_X8_XO : Hid (Value.ownBlock (.slice q5 z0.length k5) = some (w5.heap.size) → False) := Lib.hid (fun e => by have h2 := (Own.block XO.out _ e).2; omega)
      have hb := (Below.refl w5.heap.size w5).alloc (Nat.le_refl _) (.cells #[.slice q5 z0.length k5] 29)
      have X8 := Lib.hid (Blk.new w5 29 [.slice q5 z0.length k5] _ rfl)
      have HB_ := Lib.hid (HB.out.trans (hb.mono (LS.out _ HB.out)))
      have B0_ := Lib.hid (Blk.below B0.out hb (Blk.lt B0.out))
      have WO_ := Lib.hid (WO.out.below hb (Nat.le_refl _))
      have X6_ := Lib.hid (Blk.below X6.out hb (Blk.lt X6.out))
      have XO_ := Lib.hid (XO.out.below hb (Nat.le_refl _))
      clear HB B0 WO X6 XO
      have HB := HB_
      have B0 := B0_
      have WO := WO_
      have X6 := X6_
      have XO := XO_
      clear HB_ B0_ WO_ X6_ XO_
      clear hb
      go_wp2_with fail
      refine (CQ.out _ (RQ.out _ HB.out)).mono ?_
      rintro e w6 ⟨⟨v6, rfl, ho⟩, hb⟩
      obtain ⟨q6, k6, rfl⟩ := Own.shape ho
      have A_WO_IO := Lib.hid (apart_of (fun k hk => (Own.block WO.out k hk).2) (fun k hk => (Own.block ho k hk).1))
      have A_XO_IO := Lib.hid (apart_of (fun k hk => (Own.block XO.out k hk).2) (fun k hk => (Own.block ho k hk).1))
      have M_B0_IO : Hid (Value.ownBlock (.slice q6 z.length k6) = some (w.heap.size) → False) := Lib.hid (fun e => by have h1 := (Own.block ho _ e).1; have h2 := Blk.lt B0.out; omega)
      have M_X6_IO : Hid (Value.ownBlock (.slice q6 z.length k6) = some (w4.heap.size) → False) := Lib.hid (fun e => by have h1 := (Own.block ho _ e).1; have h2 := Blk.lt X6.out; omega)
      have M_X8_IO : Hid (Value.ownBlock (.slice q6 z.length k6) = some (w5.heap.size) → False) := Lib.hid (fun e => by have h1 := (Own.block ho _ e).1; have h2 := Blk.lt X8.out; omega)
      have L_IO : Hid (∀ k, Value.ownBlock (.slice q6 z.length k6) = some k → (w.heap.size + 1) ≤ k) := Lib.hid (fun k hk => Nat.le_trans (LS.out _ HB.out) (Own.block ho k hk).1)
      have HB_ := Lib.hid (HB.out.trans (hb.mono (LS.out _ HB.out)))
      have B0_ := Lib.hid (Blk.below B0.out hb (Blk.lt B0.out))
      have WO_ := Lib.hid (WO.out.below hb (Nat.le_refl _))
      have X6_ := Lib.hid (Blk.below X6.out hb (Blk.lt X6.out))
      have XO_ := Lib.hid (XO.out.below hb (Nat.le_refl _))
      have X8_ := Lib.hid (Blk.below X8.out hb (Blk.lt X8.out))
      clear HB B0 WO X6 XO X8
      have HB := HB_
      have B0 := B0_
      have WO := WO_
      have X6 := X6_
      have XO := XO_
      have X8 := X8_
      clear HB_ B0_ WO_ X6_ XO_ X8_
      clear hb
      have IO := Lib.hid ho
      clear ho
      obtain ⟨_, _, eq_, IR⟩ := OwnI.rd IO.out
      cases eq_
      replace IR := Lib.hid IR
      have c_X80 := Blk.cell X8.out 0
      simp only [List.getElem?_cons_zero] at c_X80
      go_wp2_with fail
      refine (CI.out _ _ _ _ (OwnK.rd ⟨rfl, XO.out⟩) IR.out).mono ?_
      rintro e w7 ⟨⟨v7, u7, rfl, ho⟩, hb⟩
      clear c_X80
      obtain ⟨rfl, ho⟩ := ho
      obtain ⟨q7, k7, rfl⟩ := Own.shape ho
      have A_WO_GO := Lib.hid (apart_of (fun k hk => (Own.block WO.out k hk).2) (fun k hk => (Own.block ho k hk).1))
      have A_XO_GO := Lib.hid (apart_of (fun k hk => (Own.block XO.out k hk).2) (fun k hk => (Own.block ho k hk).1))
      have A_IO_GO := Lib.hid (apart_of (fun k hk => (Own.block IO.out k hk).2) (fun k hk => (Own.block ho k hk).1))
      have M_B0_GO : Hid (Value.ownBlock (.slice q7 rl.length k7) = some (w.heap.size) → False) := Lib.hid (fun e => by have h1 := (Own.block ho _ e).1; have h2 := Blk.lt B0.out; omega)
      have M_X6_GO : Hid (Value.ownBlock (.slice q7 rl.length k7) = some (w4.heap.size) → False) := Lib.hid (fun e => by have h1 := (Own.block ho _ e).1; have h2 := Blk.lt X6.out; omega)
      have M_X8_GO : Hid (Value.ownBlock (.slice q7 rl.length k7) = some (w5.heap.size) → False) := Lib.hid (fun e => by have h1 := (Own.block ho _ e).1; have h2 := Blk.lt X8.out; omega)
      have L_GO : Hid (∀ k, Value.ownBlock (.slice q7 rl.length k7) = some k → (w.heap.size + 1) ≤ k) := Lib.hid (fun k hk => Nat.le_trans (LS.out _ HB.out) (Own.block ho k hk).1)
      have HB_ := Lib.hid (HB.out.trans (hb.mono (LS.out _ HB.out)))
      have B0_ := Lib.hid (Blk.below B0.out hb (Blk.lt B0.out))
      have WO_ := Lib.hid (WO.out.below hb (Nat.le_refl _))
      have X6_ := Lib.hid (Blk.below X6.out hb (Blk.lt X6.out))
      have XO_ := Lib.hid (XO.out.below hb (Nat.le_refl _))
      have X8_ := Lib.hid (Blk.below X8.out hb (Blk.lt X8.out))
      have IO_ := Lib.hid (IO.out.below hb (Nat.le_refl _))
      clear HB B0 WO X6 XO X8 IO
      have HB := HB_
      have B0 := B0_
      have WO := WO_
      have X6 := X6_
      have XO := XO_
      have X8 := X8_
      have IO := IO_
      clear HB_ B0_ WO_ X6_ XO_ X8_ IO_
      clear hb
      have GO := Lib.hid ho
      clear ho
      clear IR
      have M_X10_WO : Hid (Value.ownBlock (.slice q4 rl.length k4) = some (w7.heap.size) → False) := Lib.hid (fun e => by have h2 := (Own.block WO.out _ e).2; omega)
      have M_X10_XO : Hid (Value.ownBlock (.slice q5 z0.length k5) = some (w7.heap.size) → False) := Lib.hid (fun e => by have h2 := (Own.block XO.out _ e).2; omega)
      have M_X10_IO : Hid (Value.ownBlock (.slice q6 z.length k6) = some (w7.heap.size) → False) := Lib.hid (fun e => by have h2 := (Own.block IO.out _ e).2; omega)
      have M_X10_GO : Hid (Value.ownBlock (.slice q7 rl.length k7) = some (w7.heap.size) → False) := Lib.hid (fun e => by have h2 := (Own.block GO.out _ e).2; omega)
      have hb := (Below.refl w7.heap.size w7).alloc (Nat.le_refl _) (.cells #[.slice q7 rl.length k7] 29)
      have X10 := Lib.hid (Blk.new w7 29 [.slice q7 rl.length k7] _ rfl)
      have HB_ := Lib.hid (HB.out.trans (hb.mono (LS.out _ HB.out)))
      have B0_ := Lib.hid (Blk.below B0.out hb (Blk.lt B0.out))
      have WO_ := Lib.hid (WO.out.below hb (Nat.le_refl _))
      have X6_ := Lib.hid (Blk.below X6.out hb (Blk.lt X6.out))
      have XO_ := Lib.hid (XO.out.below hb (Nat.le_refl _))
      have X8_ := Lib.hid (Blk.below X8.out hb (Blk.lt X8.out))
      have IO_ := Lib.hid (IO.out.below hb (Nat.le_refl _))
      have GO_ := Lib.hid (GO.out.below hb (Nat.le_refl _))
      clear HB B0 WO X6 XO X8 IO GO
      have HB := HB_
      have B0 := B0_
      have WO := WO_
      have X6 := X6_
      have XO := XO_
      have X8 := X8_
      have IO := IO_
      have GO := GO_
      clear HB_ B0_ WO_ X6_ XO_ X8_ IO_ GO_
      clear hb
      have c_X60 := Blk.cell X6.out 0
      simp only [List.getElem?_cons_zero] at c_X60
      go_wp2_with fail
      refine (CE2.out _ _ _ (OwnK.rd ⟨rfl, GO.out⟩) (OwnK.rd ⟨rfl, WO.out⟩)).mono ?_
      rintro e w8 ⟨rfl, hb⟩
      clear c_X60
      have HB_ := Lib.hid (HB.out.trans (hb.mono (LS.out _ HB.out)))
      have B0_ := Lib.hid (Blk.below B0.out hb (Blk.lt B0.out))
      have WO_ := Lib.hid (WO.out.below hb (Nat.le_refl _))
      have X6_ := Lib.hid (Blk.below X6.out hb (Blk.lt X6.out))
      have XO_ := Lib.hid (XO.out.below hb (Nat.le_refl _))
      have X8_ := Lib.hid (Blk.below X8.out hb (Blk.lt X8.out))
      have IO_ := Lib.hid (IO.out.below hb (Nat.le_refl _))
      have GO_ := Lib.hid (GO.out.below hb (Nat.le_refl _))
      have X10_ := Lib.hid (Blk.below X10.out hb (Blk.lt X10.out))
      clear HB B0 WO X6 XO X8 IO GO X10
      have HB := HB_
      have B0 := B0_
      have WO := WO_
      have X6 := X6_
      have XO := XO_
      have X8 := X8_
      have IO := IO_
      have GO := GO_
      have X10 := X10_
      clear HB_ B0_ WO_ X6_ XO_ X8_ IO_ GO_ X10_
      clear hb
      have HK : Hid (∀ W, Below (w8).heap.size (w8) W → W.cell? ⟨w5.heap.size, 0, none⟩ = some (.slice q5 z0.length k5) ∧ W.cell? ⟨w.heap.size, 0, none⟩ = some (.slice a0 z0.length cap0)) := Lib.hid fun W hW => ⟨(Blk.below X8.out hW (Blk.lt X8.out)).cell 0, (Blk.below B0.out hW (Blk.lt B0.out)).cell 0⟩
      obtain ⟨c0, c1⟩ := HK.out _ (Below.refl _ _)
      go_wp2_with fail
      go_region_held3 (fun W => W.cell? ⟨w5.heap.size, 0, none⟩ = some (.slice q5 z0.length k5) ∧ W.cell? ⟨w.heap.size, 0, none⟩ = some (.slice a0 z0.length cap0))
        (first | exact HK.out _ hk2 | exact HK.out _ hk1 | go_keep)
        (first
          | (go_at_call 17; refine (CT.out _ ?_).mono ?_; (exact R.out (w8) HB.out); rintro e wa ⟨⟨va, ua, rfl, hoa⟩, hba⟩; have hk1 : Below (w8).heap.size (w8) wa := ⟨hba.os, hba.tape, hba.output, hba.size, hba.block⟩; have QA := Lib.hid (OwnK.rd hoa))
          | (go_at_call 19; refine (CE.out _ _ _ ?_ ?_).mono ?_; (exact ((OwnK.rd ⟨rfl, XO.out⟩).below hk1 (Nat.le_refl _))); (exact QA.out); rintro e wb ⟨rfl, hbb⟩; have hkb : Below wa.heap.size wa wb := ⟨hbb.os, hbb.tape, hbb.output, hbb.size, hbb.block⟩; have hk2 := hk1.trans (hkb.mono hk1.size)))
      clear c0 c1
      replace hk2 := Lib.hid hk2
      clear hk1 hkb hba hbb QA hoa
      have hb := hk2.out
      have HB_ := Lib.hid (HB.out.trans (hb.mono (LS.out _ HB.out)))
      have B0_ := Lib.hid (Blk.below B0.out hb (Blk.lt B0.out))
      have WO_ := Lib.hid (WO.out.below hb (Nat.le_refl _))
      have X6_ := Lib.hid (Blk.below X6.out hb (Blk.lt X6.out))
      have XO_ := Lib.hid (XO.out.below hb (Nat.le_refl _))
      have X8_ := Lib.hid (Blk.below X8.out hb (Blk.lt X8.out))
      have IO_ := Lib.hid (IO.out.below hb (Nat.le_refl _))
      have GO_ := Lib.hid (GO.out.below hb (Nat.le_refl _))
      have X10_ := Lib.hid (Blk.below X10.out hb (Blk.lt X10.out))
      clear HB B0 WO X6 XO X8 IO GO X10
      have HB := HB_
      have B0 := B0_
      have WO := WO_
      have X6 := X6_
      have XO := XO_
      have X8 := X8_
      have IO := IO_
      have GO := GO_
      have X10 := X10_
      clear HB_ B0_ WO_ X6_ XO_ X8_ IO_ GO_ X10_
      clear hb hk2 HK
      go_wp2_with fail
      refine (CQ.out _ (RQ.out _ HB.out)).mono ?_
      rintro e w9 ⟨⟨v9, rfl, ho⟩, hb⟩
      obtain ⟨q9, k9, rfl⟩ := Own.shape ho
      obtain ⟨_, _, eq_, PQ⟩ := OwnI.rd ho
      cases eq_
      replace PQ := Lib.hid PQ
      clear ho
      have HB_ := Lib.hid (HB.out.trans (hb.mono (LS.out _ HB.out)))
      have B0_ := Lib.hid (Blk.below B0.out hb (Blk.lt B0.out))
      have WO_ := Lib.hid (WO.out.below hb (Nat.le_refl _))
      have X6_ := Lib.hid (Blk.below X6.out hb (Blk.lt X6.out))
      have XO_ := Lib.hid (XO.out.below hb (Nat.le_refl _))
      have X8_ := Lib.hid (Blk.below X8.out hb (Blk.lt X8.out))
      have IO_ := Lib.hid (IO.out.below hb (Nat.le_refl _))
      have GO_ := Lib.hid (GO.out.below hb (Nat.le_refl _))
      have X10_ := Lib.hid (Blk.below X10.out hb (Blk.lt X10.out))
      clear HB B0 WO X6 XO X8 IO GO X10
      have HB := HB_
      have B0 := B0_
      have WO := WO_
      have X6 := X6_
      have XO := XO_
      have X8 := X8_
      have IO := IO_
      have GO := GO_
      have X10 := X10_
      clear HB_ B0_ WO_ X6_ XO_ X8_ IO_ GO_ X10_
      clear hb
      obtain ⟨_, _, eq_, IR⟩ := OwnI.rd IO.out
      cases eq_
      replace IR := Lib.hid IR
      go_wp2_with fail
      refine (CEQ.out _ _ _ _ _ IR.out PQ.out).mono ?_
      rintro e w10 ⟨rfl, hb⟩
      have HB_ := Lib.hid (HB.out.trans (hb.mono (LS.out _ HB.out)))
      have B0_ := Lib.hid (Blk.below B0.out hb (Blk.lt B0.out))
      have WO_ := Lib.hid (WO.out.below hb (Nat.le_refl _))
      have X6_ := Lib.hid (Blk.below X6.out hb (Blk.lt X6.out))
      have XO_ := Lib.hid (XO.out.below hb (Nat.le_refl _))
      have X8_ := Lib.hid (Blk.below X8.out hb (Blk.lt X8.out))
      have IO_ := Lib.hid (IO.out.below hb (Nat.le_refl _))
      have GO_ := Lib.hid (GO.out.below hb (Nat.le_refl _))
      have X10_ := Lib.hid (Blk.below X10.out hb (Blk.lt X10.out))
      have PQ_ := Lib.hid (PQ.out.below hb (Nat.le_refl _))
      clear HB B0 WO X6 XO X8 IO GO X10 PQ
      have HB := HB_
      have B0 := B0_
      have WO := WO_
      have X6 := X6_
      have XO := XO_
      have X8 := X8_
      have IO := IO_
      have GO := GO_
      have X10 := X10_
      have PQ := PQ_
      clear HB_ B0_ WO_ X6_ XO_ X8_ IO_ GO_ X10_ PQ_
      clear hb
      clear PQ
      clear IR
      have c_X80 := Blk.cell X8.out 0
      simp only [List.getElem?_cons_zero] at c_X80
      go_wp2_with fail
      refine (CMX.out _ _ _ _ ⟨rfl, XO.out⟩).mono ?_
      rintro e w11 ⟨rfl, ho, hg⟩
      clear c_X80
      clear ho
      have HB_ := Lib.hid (HB.out.grown hg (LS.out _ HB.out) (fun k hk => L_XO.out k hk))
      have B0_ := Lib.hid (Blk.kept B0.out hg (fun e => M_B0_XO.out e.symm))
      have WO_ := Lib.hid (Own.kept WO.out hg (apart_sym A_WO_XO.out))
      have X6_ := Lib.hid (Blk.kept X6.out hg (fun e => M_X6_XO.out e.symm))
      have X8_ := Lib.hid (Blk.kept X8.out hg (fun e => M_X8_XO.out e.symm))
      have IO_ := Lib.hid (Own.kept IO.out hg A_XO_IO.out)
      have GO_ := Lib.hid (Own.kept GO.out hg A_XO_GO.out)
      have X10_ := Lib.hid (Blk.kept X10.out hg (fun e => M_X10_XO.out e.symm))
      clear XO
      clear HB B0 WO X6 X8 IO GO X10
      have HB := HB_
      have B0 := B0_
      have WO := WO_
      have X6 := X6_
      have X8 := X8_
      have IO := IO_
      have GO := GO_
      have X10 := X10_
      clear HB_ B0_ WO_ X6_ X8_ IO_ GO_ X10_
      clear hg
      go_wp2_with fail
      refine (CMQ.out _ _ _ _ hK1a hK1b IO.out).mono ?_
      rintro e w12 ⟨rfl, ho, hg⟩
      clear ho
      have HB_ := Lib.hid (HB.out.grown hg (LS.out _ HB.out) (fun k hk => L_IO.out k hk))
      have B0_ := Lib.hid (Blk.kept B0.out hg (fun e => M_B0_IO.out e.symm))
      have WO_ := Lib.hid (Own.kept WO.out hg (apart_sym A_WO_IO.out))
      have X6_ := Lib.hid (Blk.kept X6.out hg (fun e => M_X6_IO.out e.symm))
      have X8_ := Lib.hid (Blk.kept X8.out hg (fun e => M_X8_IO.out e.symm))
      have GO_ := Lib.hid (Own.kept GO.out hg A_IO_GO.out)
      have X10_ := Lib.hid (Blk.kept X10.out hg (fun e => M_X10_IO.out e.symm))
      clear IO
      clear HB B0 WO X6 X8 GO X10
      have HB := HB_
      have B0 := B0_
      have WO := WO_
      have X6 := X6_
      have X8 := X8_
      have GO := GO_
      have X10 := X10_
      clear HB_ B0_ WO_ X6_ X8_ GO_ X10_
      clear hg
      clear X8
      have c_X100 := Blk.cell X10.out 0
      have c_X60 := Blk.cell X6.out 0
      simp only [List.getElem?_cons_zero] at c_X100 c_X60
      go_wp2_with fail
      refine (CE2.out _ _ _ (OwnK.rd ⟨rfl, GO.out⟩) (OwnK.rd ⟨rfl, WO.out⟩)).mono ?_
      rintro e w13 ⟨rfl, hb⟩
      clear c_X100 c_X60
      have HB_ := Lib.hid (HB.out.trans (hb.mono (LS.out _ HB.out)))
      have B0_ := Lib.hid (Blk.below B0.out hb (Blk.lt B0.out))
      have WO_ := Lib.hid (WO.out.below hb (Nat.le_refl _))
      have X6_ := Lib.hid (Blk.below X6.out hb (Blk.lt X6.out))
      have GO_ := Lib.hid (GO.out.below hb (Nat.le_refl _))
      have X10_ := Lib.hid (Blk.below X10.out hb (Blk.lt X10.out))
      clear HB B0 WO X6 GO X10
      have HB := HB_
      have B0 := B0_
      have WO := WO_
      have X6 := X6_
      have GO := GO_
      have X10 := X10_
      clear HB_ B0_ WO_ X6_ GO_ X10_
      clear hb
      have c_X100 := Blk.cell X10.out 0
      simp only [List.getElem?_cons_zero] at c_X100
      go_wp2_with fail
      refine (CMG.out _ _ _ _ ⟨rfl, GO.out⟩).mono ?_
      rintro e w14 ⟨rfl, ho, hg⟩
      clear c_X100
      have HB_ := Lib.hid (HB.out.grown hg (LS.out _ HB.out) (fun k hk => L_GO.out k hk))
      have B0_ := Lib.hid (Blk.kept B0.out hg (fun e => M_B0_GO.out e.symm))
      have WO_ := Lib.hid (Own.kept WO.out hg (apart_sym A_WO_GO.out))
      have X6_ := Lib.hid (Blk.kept X6.out hg (fun e => M_X6_GO.out e.symm))
      have X10_ := Lib.hid (Blk.kept X10.out hg (fun e => M_X10_GO.out e.symm))
      clear GO
      clear HB B0 WO X6 X10
      have HB := HB_
      have B0 := B0_
      have WO := WO_
      have X6 := X6_
      have X10 := X10_
      clear HB_ B0_ WO_ X6_ X10_
      clear hg
      have GR := Lib.hid ho.rd
      clear ho
      have c_X100 := Blk.cell X10.out 0
      simp only [List.getElem?_cons_zero] at c_X100
      go_wp2_with fail
      refine (CHG.out _ _ GR.out).mono ?_
      rintro e w15 ⟨rfl, hb⟩
      clear c_X100
      have HB_ := Lib.hid (HB.out.trans (hb.mono (LS.out _ HB.out)))
      have B0_ := Lib.hid (Blk.below B0.out hb (Blk.lt B0.out))
      have WO_ := Lib.hid (WO.out.below hb (Nat.le_refl _))
      have X6_ := Lib.hid (Blk.below X6.out hb (Blk.lt X6.out))
      have X10_ := Lib.hid (Blk.below X10.out hb (Blk.lt X10.out))
      have GR_ := Lib.hid (GR.out.below hb (Nat.le_refl _))
      clear HB B0 WO X6 X10 GR
      have HB := HB_
      have B0 := B0_
      have WO := WO_
      have X6 := X6_
      have X10 := X10_
      have GR := GR_
      clear HB_ B0_ WO_ X6_ X10_ GR_
      clear hb
      have c_B00 := Blk.cell B0.out 0
      simp only [List.getElem?_cons_zero] at c_B00
      go_wp2_with fail
      refine (CT.out _ (R.out _ HB.out)).mono ?_
      rintro e w16 ⟨⟨v16, u16, rfl, ho⟩, hb⟩
      clear c_B00
      obtain ⟨rfl, ho⟩ := ho
      obtain ⟨q16, k16, rfl⟩ := Own.shape ho
      have A_WO_PO := Lib.hid (apart_of (fun k hk => (Own.block WO.out k hk).2) (fun k hk => (Own.block ho k hk).1))
      have M_B0_PO : Hid (Value.ownBlock (.slice q16 z0.length k16) = some (w.heap.size) → False) := Lib.hid (fun e => by have h1 := (Own.block ho _ e).1; have h2 := Blk.lt B0.out; omega)
      have M_X6_PO : Hid (Value.ownBlock (.slice q16 z0.length k16) = some (w4.heap.size) → False) := Lib.hid (fun e => by have h1 := (Own.block ho _ e).1; have h2 := Blk.lt X6.out; omega)
      have M_X10_PO : Hid (Value.ownBlock (.slice q16 z0.length k16) = some (w7.heap.size) → False) := Lib.hid (fun e => by have h1 := (Own.block ho _ e).1; have h2 := Blk.lt X10.out; omega)
      have L_PO : Hid (∀ k, Value.ownBlock (.slice q16 z0.length k16) = some k → (w.heap.size + 1) ≤ k) := Lib.hid (fun k hk => Nat.le_trans (LS.out _ HB.out) (Own.block ho k hk).1)
      have HB_ := Lib.hid (HB.out.trans (hb.mono (LS.out _ HB.out)))
      have B0_ := Lib.hid (Blk.below B0.out hb (Blk.lt B0.out))
      have WO_ := Lib.hid (WO.out.below hb (Nat.le_refl _))
      have X6_ := Lib.hid (Blk.below X6.out hb (Blk.lt X6.out))
      have X10_ := Lib.hid (Blk.below X10.out hb (Blk.lt X10.out))
      have GR_ := Lib.hid (GR.out.below hb (Nat.le_refl _))
      clear HB B0 WO X6 X10 GR
      have HB := HB_
      have B0 := B0_
      have WO := WO_
      have X6 := X6_
      have X10 := X10_
      have GR := GR_
      clear HB_ B0_ WO_ X6_ X10_ GR_
      clear hb
      have PO := Lib.hid ho
      clear ho
      go_wp2_with fail
      refine (CQ.out _ (RQ.out _ HB.out)).mono ?_
      rintro e w17 ⟨⟨v17, rfl, ho⟩, hb⟩
      obtain ⟨q17, k17, rfl⟩ := Own.shape ho
      obtain ⟨_, _, eq_, PQ⟩ := OwnI.rd ho
      cases eq_
      replace PQ := Lib.hid PQ
      clear ho
      have HB_ := Lib.hid (HB.out.trans (hb.mono (LS.out _ HB.out)))
      have B0_ := Lib.hid (Blk.below B0.out hb (Blk.lt B0.out))
      have WO_ := Lib.hid (WO.out.below hb (Nat.le_refl _))
      have X6_ := Lib.hid (Blk.below X6.out hb (Blk.lt X6.out))
      have X10_ := Lib.hid (Blk.below X10.out hb (Blk.lt X10.out))
      have GR_ := Lib.hid (GR.out.below hb (Nat.le_refl _))
      have PO_ := Lib.hid (PO.out.below hb (Nat.le_refl _))
      clear HB B0 WO X6 X10 GR PO
      have HB := HB_
      have B0 := B0_
      have WO := WO_
      have X6 := X6_
      have X10 := X10_
      have GR := GR_
      have PO := PO_
      clear HB_ B0_ WO_ X6_ X10_ GR_ PO_
      clear hb
      go_wp2_with fail
      refine (CI.out _ _ _ _ (OwnK.rd ⟨rfl, PO.out⟩) PQ.out).mono ?_
      rintro e w18 ⟨⟨v18, u18, rfl, ho⟩, hb⟩
      obtain ⟨rfl, ho⟩ := ho
      obtain ⟨q18, k18, rfl⟩ := Own.shape ho
      have A_WO_HO := Lib.hid (apart_of (fun k hk => (Own.block WO.out k hk).2) (fun k hk => (Own.block ho k hk).1))
      have A_PO_HO := Lib.hid (apart_of (fun k hk => (Own.block PO.out k hk).2) (fun k hk => (Own.block ho k hk).1))
      have M_B0_HO : Hid (Value.ownBlock (.slice q18 rl.length k18) = some (w.heap.size) → False) := Lib.hid (fun e => by have h1 := (Own.block ho _ e).1; have h2 := Blk.lt B0.out; omega)
      have M_X6_HO : Hid (Value.ownBlock (.slice q18 rl.length k18) = some (w4.heap.size) → False) := Lib.hid (fun e => by have h1 := (Own.block ho _ e).1; have h2 := Blk.lt X6.out; omega)
      have M_X10_HO : Hid (Value.ownBlock (.slice q18 rl.length k18) = some (w7.heap.size) → False) := Lib.hid (fun e => by have h1 := (Own.block ho _ e).1; have h2 := Blk.lt X10.out; omega)
      have L_HO : Hid (∀ k, Value.ownBlock (.slice q18 rl.length k18) = some k → (w.heap.size + 1) ≤ k) := Lib.hid (fun k hk => Nat.le_trans (LS.out _ HB.out) (Own.block ho k hk).1)
      have HB_ := Lib.hid (HB.out.trans (hb.mono (LS.out _ HB.out)))
      have B0_ := Lib.hid (Blk.below B0.out hb (Blk.lt B0.out))
      have WO_ := Lib.hid (WO.out.below hb (Nat.le_refl _))
      have X6_ := Lib.hid (Blk.below X6.out hb (Blk.lt X6.out))
      have X10_ := Lib.hid (Blk.below X10.out hb (Blk.lt X10.out))
      have GR_ := Lib.hid (GR.out.below hb (Nat.le_refl _))
      have PO_ := Lib.hid (PO.out.below hb (Nat.le_refl _))
      have PQ_ := Lib.hid (PQ.out.below hb (Nat.le_refl _))
      clear HB B0 WO X6 X10 GR PO PQ
      have HB := HB_
      have B0 := B0_
      have WO := WO_
      have X6 := X6_
      have X10 := X10_
      have GR := GR_
      have PO := PO_
      have PQ := PQ_
      clear HB_ B0_ WO_ X6_ X10_ GR_ PO_ PQ_
      clear hb
      have HO := Lib.hid ho
      clear ho
      clear PO
      clear PQ
      have M_X15_WO : Hid (Value.ownBlock (.slice q4 rl.length k4) = some (w18.heap.size) → False) := Lib.hid (fun e => by have h2 := (Own.block WO.out _ e).2; omega)
      have M_X15_HO : Hid (Value.ownBlock (.slice q18 rl.length k18) = some (w18.heap.size) → False) := Lib.hid (fun e => by have h2 := (Own.block HO.out _ e).2; omega)
      have hb := (Below.refl w18.heap.size w18).alloc (Nat.le_refl _) (.cells #[.slice q18 rl.length k18] 29)
      have X15 := Lib.hid (Blk.new w18 29 [.slice q18 rl.length k18] _ rfl)
      have HB_ := Lib.hid (HB.out.trans (hb.mono (LS.out _ HB.out)))
      have B0_ := Lib.hid (Blk.below B0.out hb (Blk.lt B0.out))
      have WO_ := Lib.hid (WO.out.below hb (Nat.le_refl _))
      have X6_ := Lib.hid (Blk.below X6.out hb (Blk.lt X6.out))
      have X10_ := Lib.hid (Blk.below X10.out hb (Blk.lt X10.out))
      have GR_ := Lib.hid (GR.out.below hb (Nat.le_refl _))
      have HO_ := Lib.hid (HO.out.below hb (Nat.le_refl _))
      clear HB B0 WO X6 X10 GR HO
      have HB := HB_
      have B0 := B0_
      have WO := WO_
      have X6 := X6_
      have X10 := X10_
      have GR := GR_
      have HO := HO_
      clear HB_ B0_ WO_ X6_ X10_ GR_ HO_
      clear hb
      have c_X60 := Blk.cell X6.out 0
      simp only [List.getElem?_cons_zero] at c_X60
      go_wp2_with fail
      refine (CE2.out _ _ _ (OwnK.rd ⟨rfl, HO.out⟩) (OwnK.rd ⟨rfl, WO.out⟩)).mono ?_
      rintro e w19 ⟨rfl, hb⟩
      clear c_X60
      have HB_ := Lib.hid (HB.out.trans (hb.mono (LS.out _ HB.out)))
      have B0_ := Lib.hid (Blk.below B0.out hb (Blk.lt B0.out))
      have WO_ := Lib.hid (WO.out.below hb (Nat.le_refl _))
      have X6_ := Lib.hid (Blk.below X6.out hb (Blk.lt X6.out))
      have X10_ := Lib.hid (Blk.below X10.out hb (Blk.lt X10.out))
      have GR_ := Lib.hid (GR.out.below hb (Nat.le_refl _))
      have HO_ := Lib.hid (HO.out.below hb (Nat.le_refl _))
      have X15_ := Lib.hid (Blk.below X15.out hb (Blk.lt X15.out))
      clear HB B0 WO X6 X10 GR HO X15
      have HB := HB_
      have B0 := B0_
      have WO := WO_
      have X6 := X6_
      have X10 := X10_
      have GR := GR_
      have HO := HO_
      have X15 := X15_
      clear HB_ B0_ WO_ X6_ X10_ GR_ HO_ X15_
      clear hb
      have c_X100 := Blk.cell X10.out 0
      simp only [List.getElem?_cons_zero] at c_X100
      go_wp2_with fail
      refine (CHG.out _ _ GR.out).mono ?_
      rintro e w20 ⟨rfl, hb⟩
      clear c_X100
      have HB_ := Lib.hid (HB.out.trans (hb.mono (LS.out _ HB.out)))
      have B0_ := Lib.hid (Blk.below B0.out hb (Blk.lt B0.out))
      have WO_ := Lib.hid (WO.out.below hb (Nat.le_refl _))
      have X6_ := Lib.hid (Blk.below X6.out hb (Blk.lt X6.out))
      have X10_ := Lib.hid (Blk.below X10.out hb (Blk.lt X10.out))
      have GR_ := Lib.hid (GR.out.below hb (Nat.le_refl _))
      have HO_ := Lib.hid (HO.out.below hb (Nat.le_refl _))
      have X15_ := Lib.hid (Blk.below X15.out hb (Blk.lt X15.out))
      clear HB B0 WO X6 X10 GR HO X15
      have HB := HB_
      have B0 := B0_
      have WO := WO_
      have X6 := X6_
      have X10 := X10_
      have GR := GR_
      have HO := HO_
      have X15 := X15_
      clear HB_ B0_ WO_ X6_ X10_ GR_ HO_ X15_
      clear hb
      go_wp2_with fail
      go_ret
      exact ⟨rfl, HB0.out.trans (HB.out.mono (Nat.le_succ _))⟩
    · rw [szFl_no ht] at C1
      have D1 := Lib.hid C1
      clear hrd hrq hmax heach ht hB hz b0 C1
      go_enter Try.func6, Try.ntmps6
      go_wp2_with fail
      refine D1.out.mono ?_
      rintro e w' ⟨rfl, hb⟩
      have HB := Lib.hid (HB0.out.trans (hb.mono HB0.out.size))
      clear hb
      go_wp2_with fail
      go_ret
      exact ⟨rfl, HB.out⟩
  · clear hrd hrq hmax heach hB hz b0 C1
    go_enter Try.func6, Try.ntmps6
    go_wp2_with fail
    go_ret
    exact ⟨rfl, HB0.out⟩

theorem own : ownKnob Try.prog.godebug = none := by kernel_rfl
theorem laidOut : laidOutB Try.prog = true := by kernel_rfl

set_option maxRecDepth 100000 in
theorem lifted (os : Os) (started : os.Started) (H : Type) (enc : TypeId × Value → H) :
    ReturnsInHanded {} Try.checked os 6 .any (Rows.fnExactLoseDiskSpec.pre6 enc Try.prog Try.f6 Rows.fnExactLoseDiskRow.domain false) (Rows.fnExactLoseDiskSpec.post enc Try.prog Try.f6 false true false false) := by
  refine returnsInHanded_of_change (C := Try.checked) own started (by kernel_rfl) Try.func6
    (ChangeSpec.witness6 (enc := enc) (C := Try.checked) false ⟨#[], #[.agg #[.slice none 0 0], .slice none 0 0], []⟩ 8 (by kernel_rfl) (by kernel_rfl) (by kernel_rfl) (by kernel_rfl)) ?_
  intro W base args ds gs before hval0 hW hcnd _
  have hval : ∀ (j : Nat) t v, Try.f6.params[j]? = some t → args[j]? = some v → Value.okWide Try.prog W .any base t v := hval0
  have hW' := hW
  obtain ⟨p, q, hA0, hV, rfl, hfz, hnd⟩ := hW
  have hA : DataW.TrodAll enc Try.prog W 0 (fun _ => true) true Try.f6.params.toList args.toList ds p := hA0
  rw [Try.params6] at hA hval
  obtain ⟨v0, vs0, d0, ds0, p0, q0, hargs, rfl, rfl, h0, r0⟩ := trodAll_cons hA
  obtain ⟨v1, vs1, d1, ds1, p1, q1, rfl, rfl, rfl, h1, r1⟩ := trodAll_cons r0
  obtain ⟨rfl, rfl, rfl⟩ := trodAll_nil r1
  obtain rfl : args = #[v0, v1] := by cases args; simp_all
  obtain ⟨rfl, rfl⟩ := trodVars_none hV
  have k0 := h0
  have lt0 : ∀ x ∈ p0, x.block < W.heap.size := by obtain ⟨m, hm⟩ := k0; exact DataW.trod_lt m _ _ _ hm
  obtain ⟨a0, len0, cap0, z0, rfl, w0⟩ := isDisk_of Try.underlying24 (by kernel_rfl) (by kernel_rfl) Try.underlying22 Try.underlying110 (by kernel_rfl) (by kernel_rfl) Try.underlying9 Try.underlying9 Try.underlying3 (hval 0 24 v0 rfl rfl) h0
  have k1 := h1
  have lt1 : ∀ x ∈ p1, x.block < W.heap.size := by obtain ⟨m, hm⟩ := k1; exact DataW.trod_lt m _ _ _ hm
  obtain ⟨a1, len1, cap1, rfl⟩ := okWide_slice Try.underlying36 (hval 1 36 v1 rfl rfl)
  obtain ⟨z1, w1⟩ := isRow_of Try.underlying36 Try.underlying3 (by kernel_rfl) h1
  clear hA0 hval0
  refine (walk a0 len0 cap0 z0 a1 len1 cap1 z1 W w0 w1).mono fun e W' ⟨he, bel⟩ => ?_
  subst he
  exact ⟨_, rfl, _, _, _, [], _, [], hW', trodAll_mk1 (shut_bool Try.underlying4 _), (trodAll_cons_mk (Below.trod laidOut (by kernel_rfl) (of_decide_eq_true (by kernel_rfl)) k0 bel lt0) (trodAll_cons_mk (Below.trod laidOut (by kernel_rfl) (of_decide_eq_true (by kernel_rfl)) k1 bel lt1) trodAll_mk0)), rfl, bel.frame _, fun h => by cases h⟩

theorem over : Rows.fnExactLoseDiskRow.holds Try.pinned (OpenSpec.ofChange Rows.fnExactLoseDiskSpec) :=
  OpenClaim.holds_of_wide 6 Try.f6 rfl rfl rfl rfl rfl rfl rfl ⟨rfl, rfl, rfl, rfl, rfl⟩ rfl rfl rfl rfl rfl (by kernel_rfl) Try.func6 (by kernel_rfl)
    (of_decide_eq_true (by kernel_rfl)) (by unfold Func.isWrapper; first | (rw [if_pos (by decide +kernel)]; kernel_rfl) | (rw [if_neg (by decide +kernel)]; exact ⟨rfl, rfl⟩))
    (fun os started H enc _ => lifted os started H enc)

/-- The statement. -/
theorem proved : Rows.FnExactLoseDiskSaid :=
  over
#print axioms proved

end Go.Proofs.Ytdecehecjlbbiaa.fnExactLoseDisk
