/-
  For every disk and operation (of at most 2^20 bytes and files; more are passed by) the program's DoAct and the reference's return the same, the disk stays, and what the program handed out is its caller's: 'FnExactDoAct' returns true. No conditions.
-/
import Derived.Test.YtdecehecjlbbiaaFrameA
import Derived.Test.YtdecehecjlbbiaaAct2
import Derived.Test.YtdecehecjlbbiaaDoM
import Derived.Test.YtdecehecjlbbiaaDoiM
import Derived.Test.YtdecehecjlbbiaaInts2
import Derived.Test.YtdecehecjlbbiaaPuBox
namespace Go.Proofs.Ytdecehecjlbbiaa.fnExactDoAct
open Go.ChangeShapes Go.WideShapes Go.ChangeAt Go.RowKit
open Go.ChangeMaps (open_string shut_string)
set_option linter.unusedVariables false

set_option maxHeartbeats 8000000 in
set_option maxRecDepth 100000 in
theorem walk (a0 : Option Addr) (len0 cap0 : Nat) (z0 : List Fl) (a1 : Ac) (w : World) (w0 : IsFiles w a0 len0 cap0 z0) (w1 : AcSmall a1 maxLen ∧ (Lit.int .i64 a1.1).wf = true) :
    Calls Try.prog 11 #[.agg #[.slice a0 len0 cap0], .agg #[.int .i64 a1.1, .string a1.2.1, .string a1.2.2.1, .string a1.2.2.2]] w fun e w' => e = .returned (.bool true) ∧ Below w.heap.size w w' := by
  obtain ⟨rfl, hmax0, heach0, hrd0⟩ := w0
  obtain ⟨hac, -⟩ := w1
  unfold maxLen at hmax0 heach0 hac
  obtain ⟨ak, an, at_, ad⟩ := a1
  simp only
  have hz1 := alloc_size w (.cells #[.slice a0 z0.length cap0] 24)
  have hz2 := alloc_size (w.alloc (.cells #[.slice a0 z0.length cap0] 24)) (.cells #[.int .i64 ak, .string an, .string at_, .string ad] 64)
  have hz : ((w.alloc (.cells #[.slice a0 z0.length cap0] 24)).alloc (.cells #[.int .i64 ak, .string an, .string at_, .string ad] 64)).heap.size = w.heap.size + 2 := by omega
  have hB := ((Below.refl w.heap.size w).alloc (Nat.le_refl _) (.cells #[.slice a0 z0.length cap0] 24)).alloc (by omega) (.cells #[.int .i64 ak, .string an, .string at_, .string ad] 64)
  have b0 := (Blk.new w 24 [.slice a0 z0.length cap0] _ rfl).alloc (.cells #[.int .i64 ak, .string an, .string at_, .string ad] 64)
  have b1 := Blk.new (w.alloc (.cells #[.slice a0 z0.length cap0] 24)) 64 [.int .i64 ak, .string an, .string at_, .string ad] _ rfl
  rw [hz1] at b1
  have R0 := Lib.hid (fun W hW => (hrd0.below hB (Nat.le_refl _)).below (C := (w.heap.size + 2)) (w' := W) hW (by rw [hz]; exact Nat.le_refl _))
  have LS : Hid (∀ W, Below (w.heap.size + 2) ((w.alloc (.cells #[.slice a0 z0.length cap0] 24)).alloc (.cells #[.int .i64 ak, .string an, .string at_, .string ad] 64)) W → (w.heap.size + 2) ≤ W.heap.size) := Lib.hid fun W hW => by have := hW.size; rw [hz] at this; exact this
  have HB0 := Lib.hid hB
  have B0 := Lib.hid b0
  have B1 := Lib.hid b1
  clear b0 b1 hz hz1 hz2 hB
  have CZ0 := fun W h => szDisk_any a0 cap0 z0 1048576 W hmax0 heach0 (by omega) (by omega) h
  by_cases ht0 : (z0.length : Int) + sumFl z0 ≤ 1048576
  · rw [szFl_yes ht0] at CZ0
    have hl0 : z0.length ≤ 1048576 := by omega
    have hzs0 : ∀ x ∈ z0, x.1.size ≤ 1048576 ∧ x.2.1.size ≤ 1048576 := fun x hx => by have := sumFl_mem hx; omega
    have hL0_0 : ¬ ((1048576 : Int) - z0.length - (sumFl z0 : Int) < 0) := by omega
    have hL1_0 : (1048576 : Int) - z0.length - (sumFl z0 : Int) ≤ 1048576 := by omega
    generalize (1048576 : Int) - z0.length - (sumFl z0 : Int) = L0 at *
    have DZ0 := Lib.hid CZ0
    clear CZ0 ht0
    have CZ1 := fun W => szAct_any (ak, an, at_, ad) L0 W hac (by omega) hL1_0
    by_cases ht1 : (acLen (ak, an, at_, ad) : Int) ≤ L0
    · rw [if_pos ht1] at CZ1
      have hat : at_.size ≤ 1048576 := by unfold acLen at ht1; simp only at ht1; omega
      have hL0_1 : ¬ (L0 - (acLen (ak, an, at_, ad) : Int) < 0) := by omega
      generalize L0 - (acLen (ak, an, at_, ad) : Int) = L1 at *
      simp only at CZ1
      have DZ1 := Lib.hid CZ1
      clear CZ1 ht1 hac
      have CS := fun v W h => sDoAct_any v z0 (ak, an, at_, ad) W hl0 hzs0 hat h
      have CI := fun v W h => iDoAct_any v z0 (ak, an, at_, ad) W hl0 hzs0 hat h
      have CT0 := Lib.hid (fun W h => toDisk_any a0 cap0 z0 W hl0 h)
      have CE0 := Lib.hid (fun v1 v2 W h1 h2 => eqDisk_any v1 v2 z0 W hl0 h1 h2)
      have CTA := fun W => toAct_any (ak, an, at_, ad) W
      simp only at CTA CS CI
      have DTA := Lib.hid CTA
      clear CTA
      have CM0 := fun v u B W h => markDisk_any v u z0 B 1 W hl0 (by omega) (by omega) h
      simp only [Int.natCast_one] at CM0
      have hn1 : ¬ ((1 : Int) + 3 * z0.length < 0) := by omega
      generalize (1 : Int) + 3 * z0.length = K0 at *
      have DM0 := Lib.hid CM0
      have hrl : (doV z0 (ak, an, at_, ad)).1.length ≤ 1048576 := doV_len _ _
      generalize doV z0 (ak, an, at_, ad) = rv at *
      obtain ⟨rl, rb⟩ := rv
      simp only at CS CI hrl
      have CE := Lib.hid (fun v1 v2 W h1 h2 => eqDisk_any v1 v2 rl W hrl h1 h2)
      have CMG := fun v u B W h => markDisk_any v u rl B 1 W hrl (by omega) (by omega) h
      have CHG := fun v W h => heldDisk_any v rl.length 1 W hrl (by omega) (by omega) h
      simp only [Int.natCast_one] at CMG CHG
      have hn2 : ¬ ((1 : Int) + 3 * rl.length < 0) := by omega
      have e2 : (((1 : Int) + 3 * rl.length) != ((1 : Int) + 3 * rl.length)) = false := by simp
      generalize (1 : Int) + 3 * rl.length = KR at *
      have DMG := Lib.hid CMG
      have DHG := Lib.hid CHG
      have DS := Lib.hid CS
      have DI := Lib.hid CI
      have e1 : (rb != rb) = false := by simp
      clear CS CI CMG CHG CM0 hrd0 hmax0 heach0 hzs0
      go_enter Try.func11, Try.ntmps11
      go_wp2_with fail
      generalize (w.alloc (.cells #[.slice a0 z0.length cap0] 24)).alloc (.cells #[.int .i64 ak, .string an, .string at_, .string ad] 64) = Wb at *
      have HB := Lib.hid (Below.refl (w.heap.size + 2) Wb)
      refine (DZ0.out _ (R0.out _ HB.out)).mono ?_
      rintro e w1_ ⟨rfl, hb⟩
      have HB_ := Lib.hid (HB.out.trans (hb.mono (LS.out _ HB.out)))
      have B0_ := Lib.hid (Blk.below B0.out hb (Blk.lt B0.out))
      have B1_ := Lib.hid (Blk.below B1.out hb (Blk.lt B1.out))
      clear HB B0 B1
      have HB := HB_
      have B0 := B0_
      have B1 := B1_
      clear HB_ B0_ B1_
      clear hb
      have c_B10 := Blk.cell B1.out 0
      have c_B11 := Blk.cell B1.out 1
      have c_B12 := Blk.cell B1.out 2
      have c_B13 := Blk.cell B1.out 3
      simp only [List.getElem?_cons_zero] at c_B10
      simp only [List.getElem?_cons_zero, List.getElem?_cons_succ] at c_B11 c_B12 c_B13
      go_wp2_with fail
      refine (DZ1.out _).mono ?_
      rintro e w2_ ⟨rfl, hb⟩
      clear c_B10 c_B11 c_B12 c_B13
      have HB_ := Lib.hid (HB.out.trans (hb.mono (LS.out _ HB.out)))
      have B0_ := Lib.hid (Blk.below B0.out hb (Blk.lt B0.out))
      have B1_ := Lib.hid (Blk.below B1.out hb (Blk.lt B1.out))
      clear HB B0 B1
      have HB := HB_
      have B0 := B0_
      have B1 := B1_
      clear HB_ B0_ B1_
      clear hb
      go_wp2_with fail
      have HK : Hid (∀ W, Below w2_.heap.size w2_ W → W.cell? ⟨w.heap.size, 0, none⟩ = some (.slice a0 z0.length cap0) ∧ W.cell? ⟨w.heap.size + 1, 0, none⟩ = some (.int .i64 ak) ∧ W.cell? ⟨w.heap.size + 1, 1, none⟩ = some (.string an) ∧ W.cell? ⟨w.heap.size + 1, 2, none⟩ = some (.string at_) ∧ W.cell? ⟨w.heap.size + 1, 3, none⟩ = some (.string ad)) := Lib.hid fun W hW => ⟨(Blk.below B0.out hW (Blk.lt B0.out)).cell 0, (Blk.below B1.out hW (Blk.lt B1.out)).cell 0, (Blk.below B1.out hW (Blk.lt B1.out)).cell 1, (Blk.below B1.out hW (Blk.lt B1.out)).cell 2, (Blk.below B1.out hW (Blk.lt B1.out)).cell 3⟩
      have HBX : Hid (∀ W, Below w2_.heap.size w2_ W → Below (w.heap.size + 2) Wb W) := Lib.hid fun W hW => HB.out.trans (hW.mono (LS.out _ HB.out))
      have hk0 := bDrew0 w2_
      obtain ⟨c0, c1, c2, c3, c4⟩ := HK.out _ (Below.refl _ _)
      apply region_join (Post := fun q k n w' => BoxedRow w2_ w' rl 29 q k n)
      · go_region_held3 (fun W => W.cell? ⟨w.heap.size, 0, none⟩ = some (.slice a0 z0.length cap0) ∧ W.cell? ⟨w.heap.size + 1, 0, none⟩ = some (.int .i64 ak) ∧ W.cell? ⟨w.heap.size + 1, 1, none⟩ = some (.string an) ∧ W.cell? ⟨w.heap.size + 1, 2, none⟩ = some (.string at_) ∧ W.cell? ⟨w.heap.size + 1, 3, none⟩ = some (.string ad))
          (first | exact HK.out _ hk3 | exact HK.out _ (bAlloc0 hk3 _) | exact HK.out _ (bSet0 hk3 (by first | exact Nat.le_refl _ | exact hk1.size | exact hk2.size) _) | exact HK.out _ hk2 | exact HK.out _ (bAlloc0 hk2 _) | exact HK.out _ hk1 | exact HK.out _ (bAlloc0 hk1 _) | exact HK.out _ hk0 | exact HK.out _ (bAlloc0 hk0 _) | go_keep)
          (first
            | (go_at_call 17; refine (CT0.out _ ?_).mono ?_; (first | exact R0.out _ (HBX.out _ hk0) | exact R0.out _ (HBX.out _ (bAlloc0 hk0 _))); rintro e wa ⟨⟨va, ua, rfl, hoa⟩, hba⟩; have hk1 : Below w2_.heap.size w2_ wa := (by first | exact bTrans0 hk0 hba | exact bTrans0 (bAlloc0 hk0 _) hba); have QA := Lib.hid (OwnK.rd hoa))
            | (go_at_call 53; refine (DTA.out _).mono ?_; rintro e wb ⟨rfl, hbb⟩; have hk2 : Below w2_.heap.size w2_ wb := (by first | exact bTrans0 hk1 hbb | exact bTrans0 (bAlloc0 hk1 _) hbb); have QB : Hid (RdK wb va z0) := Lib.hid (by first | exact QA.out.below hbb (Nat.le_refl _) | exact QA.out.below (bTrans0 (bAlloc0 (Below.refl _ _) _) hbb) (Nat.le_refl _)))
            | (go_at_call 52; refine (DS.out _ _ ?_).mono ?_; (first | exact QB.out | exact QB.out.below (bAlloc0 (Below.refl _ _) _) (Nat.le_refl _)); rintro e wc ⟨⟨vc, uc, rfl, hoc⟩, hbc⟩; have hk3 : Below w2_.heap.size w2_ wc := (by first | exact bTrans0 hk2 hbc | exact bTrans0 (bAlloc0 hk2 _) hbc); obtain ⟨rfl, hoc⟩ := hoc; obtain ⟨qc, kc, rfl⟩ := Own.shape hoc; first | (have bk := (Blk.below (Blk.new wb 29 [.slice none 0 0] _ rfl) hbc (Blk.lt (Blk.new wb 29 [.slice none 0 0] _ rfl))); have y1 := Blk.frozen bk 0; have y0 := Blk.cell bk 0; simp only [List.getElem?_cons_zero] at y0) | (have bk := (Blk.below (Blk.below (Blk.new wa 29 [.slice none 0 0] _ rfl) hbb (Blk.lt (Blk.new wa 29 [.slice none 0 0] _ rfl))) hbc (Blk.lt (Blk.below (Blk.new wa 29 [.slice none 0 0] _ rfl) hbb (Blk.lt (Blk.new wa 29 [.slice none 0 0] _ rfl))))); have y1 := Blk.frozen bk 0; have y0 := Blk.cell bk 0; simp only [List.getElem?_cons_zero] at y0) | (have bk := (Blk.below (Blk.below (Blk.below (Blk.new_drew w2_ 29 [.slice none 0 0] _ rfl) hba (Blk.lt (Blk.new_drew w2_ 29 [.slice none 0 0] _ rfl))) hbb (Blk.lt (Blk.below (Blk.new_drew w2_ 29 [.slice none 0 0] _ rfl) hba (Blk.lt (Blk.new_drew w2_ 29 [.slice none 0 0] _ rfl))))) hbc (Blk.lt (Blk.below (Blk.below (Blk.new_drew w2_ 29 [.slice none 0 0] _ rfl) hba (Blk.lt (Blk.new_drew w2_ 29 [.slice none 0 0] _ rfl))) hbb (Blk.lt (Blk.below (Blk.new_drew w2_ 29 [.slice none 0 0] _ rfl) hba (Blk.lt (Blk.new_drew w2_ 29 [.slice none 0 0] _ rfl))))))); have y1 := Blk.frozen bk 0; have y0 := Blk.cell bk 0; simp only [List.getElem?_cons_zero] at y0) | skip))
        all_goals
          first
            | (obtain ⟨n, hn⟩ : ∃ n, wc.heap.size = n := ⟨_, rfl⟩; refine ⟨rfl, va, qc, kc, n, ?_, ?_⟩; (· rw [hn]); (· rw [← hn]; exact BoxedRow.late hk3 (Own.mono hoc hk2.size) 29))
            | (obtain ⟨n, hn⟩ : ∃ n, wb.heap.size = n := ⟨_, rfl⟩; refine ⟨rfl, va, qc, kc, n, ?_, ?_⟩; (· rw [hn]); (· rw [← hn]; exact BoxedRow.early (Blk.below (Blk.new wb 29 [.slice none 0 0] _ rfl) hbc (Blk.lt (Blk.new wb 29 [.slice none 0 0] _ rfl))) hk2.size (by simp) hoc hk3))
            | (obtain ⟨n, hn⟩ : ∃ n, wa.heap.size = n := ⟨_, rfl⟩; refine ⟨rfl, va, qc, kc, n, ?_, ?_⟩; (· rw [hn]); (· rw [← hn]; exact BoxedRow.early (Blk.below (Blk.below (Blk.new wa 29 [.slice none 0 0] _ rfl) hbb (Blk.lt (Blk.new wa 29 [.slice none 0 0] _ rfl))) hbc (Blk.lt (Blk.below (Blk.new wa 29 [.slice none 0 0] _ rfl) hbb (Blk.lt (Blk.new wa 29 [.slice none 0 0] _ rfl))))) hk1.size (Nat.lt_of_lt_of_le (by simp) hbb.size) hoc hk3))
            | (obtain ⟨n, hn⟩ : ∃ n, w2_.heap.size = n := ⟨_, rfl⟩; refine ⟨rfl, va, qc, kc, n, ?_, ?_⟩; (· rw [hn]); (· rw [← hn]; exact BoxedRow.early (Blk.below (Blk.below (Blk.below (Blk.new_drew w2_ 29 [.slice none 0 0] _ rfl) hba (Blk.lt (Blk.new_drew w2_ 29 [.slice none 0 0] _ rfl))) hbb (Blk.lt (Blk.below (Blk.new_drew w2_ 29 [.slice none 0 0] _ rfl) hba (Blk.lt (Blk.new_drew w2_ 29 [.slice none 0 0] _ rfl))))) hbc (Blk.lt (Blk.below (Blk.below (Blk.new_drew w2_ 29 [.slice none 0 0] _ rfl) hba (Blk.lt (Blk.new_drew w2_ 29 [.slice none 0 0] _ rfl))) hbb (Blk.lt (Blk.below (Blk.new_drew w2_ 29 [.slice none 0 0] _ rfl) hba (Blk.lt (Blk.new_drew w2_ 29 [.slice none 0 0] _ rfl))))))) (Nat.le_refl _) (Nat.lt_of_lt_of_le (Nat.lt_of_lt_of_le (by simp) hba.size) hbb.size) hoc hk3))
      · intro va q3 k3 n3 w3_ hbx
        have HBR := Lib.hid hbx
        clear hbx c0 c1 c2 c3 c4 hk0 HK HBX
        have ho := HBR.out.own
        have hb := HBR.out.low
        have M_B0_WO : Hid (Value.ownBlock (.slice q3 rl.length k3) = some (w.heap.size) → False) := Lib.hid (fun e => by have h1 := (Own.block ho _ e).1; have h2 := Blk.lt B0.out; omega)
        have M_B1_WO : Hid (Value.ownBlock (.slice q3 rl.length k3) = some (w.heap.size + 1) → False) := Lib.hid (fun e => by have h1 := (Own.block ho _ e).1; have h2 := Blk.lt B1.out; omega)
        have L_WO : Hid (∀ k, Value.ownBlock (.slice q3 rl.length k3) = some k → (w.heap.size + 2) ≤ k) := Lib.hid (fun k hk => Nat.le_trans (LS.out _ HB.out) (Own.block ho k hk).1)
        have M_BWO_WO : Hid (Value.ownBlock (.slice q3 rl.length k3) = some n3 → False) := Lib.hid HBR.out.ne
        have HB_ := Lib.hid (HB.out.trans (hb.mono (LS.out _ HB.out)))
        have B0_ := Lib.hid (Blk.below B0.out hb (Blk.lt B0.out))
        have B1_ := Lib.hid (Blk.below B1.out hb (Blk.lt B1.out))
        clear HB B0 B1
        have HB := HB_
        have B0 := B0_
        have B1 := B1_
        clear HB_ B0_ B1_
        clear hb
        have WO := Lib.hid ho
        clear ho
        have BWO := Lib.hid HBR.out.blk
        clear HBR
        have c_B00 := Blk.cell B0.out 0
        simp only [List.getElem?_cons_zero] at c_B00
        go_wp2_with fail
        refine (CT0.out _ (R0.out _ HB.out)).mono ?_
        rintro e w4_ ⟨⟨v4, u4, rfl, ho⟩, hb⟩
        clear c_B00
        obtain ⟨rfl, ho⟩ := ho
        obtain ⟨q4, k4, rfl⟩ := Own.shape ho
        have A_WO_X0 := Lib.hid (apart_of (fun k hk => (Own.block WO.out k hk).2) (fun k hk => (Own.block ho k hk).1))
        have M_B0_X0 : Hid (Value.ownBlock (.slice q4 z0.length k4) = some (w.heap.size) → False) := Lib.hid (fun e => by have h1 := (Own.block ho _ e).1; have h2 := Blk.lt B0.out; omega)
        have M_B1_X0 : Hid (Value.ownBlock (.slice q4 z0.length k4) = some (w.heap.size + 1) → False) := Lib.hid (fun e => by have h1 := (Own.block ho _ e).1; have h2 := Blk.lt B1.out; omega)
        have M_BWO_X0 : Hid (Value.ownBlock (.slice q4 z0.length k4) = some (n3) → False) := Lib.hid (fun e => by have h1 := (Own.block ho _ e).1; have h2 := Blk.lt BWO.out; omega)
        have L_X0 : Hid (∀ k, Value.ownBlock (.slice q4 z0.length k4) = some k → (w.heap.size + 2) ≤ k) := Lib.hid (fun k hk => Nat.le_trans (LS.out _ HB.out) (Own.block ho k hk).1)
        have HB_ := Lib.hid (HB.out.trans (hb.mono (LS.out _ HB.out)))
        have B0_ := Lib.hid (Blk.below B0.out hb (Blk.lt B0.out))
        have B1_ := Lib.hid (Blk.below B1.out hb (Blk.lt B1.out))
        have WO_ := Lib.hid (WO.out.below hb (Nat.le_refl _))
        have BWO_ := Lib.hid (Blk.below BWO.out hb (Blk.lt BWO.out))
        clear HB B0 B1 WO BWO
        have HB := HB_
        have B0 := B0_
        have B1 := B1_
        have WO := WO_
        have BWO := BWO_
        clear HB_ B0_ B1_ WO_ BWO_
        clear hb
        have X0 := Lib.hid ho
        clear ho
        have M_BX0_WO : Hid (Value.ownBlock (.slice q3 rl.length k3) = some (w4_.heap.size) → False) := Lib.hid (fun e => by have h2 := (Own.block WO.out _ e).2; omega)
        have M_BX0_X0 : Hid (Value.ownBlock (.slice q4 z0.length k4) = some (w4_.heap.size) → False) := Lib.hid (fun e => by have h2 := (Own.block X0.out _ e).2; omega)
        have hb := (Below.refl w4_.heap.size w4_).alloc (Nat.le_refl _) (.cells #[.slice q4 z0.length k4] 29)
        have BX0 := Lib.hid (Blk.new w4_ 29 [.slice q4 z0.length k4] _ rfl)
        have HB_ := Lib.hid (HB.out.trans (hb.mono (LS.out _ HB.out)))
        have B0_ := Lib.hid (Blk.below B0.out hb (Blk.lt B0.out))
        have B1_ := Lib.hid (Blk.below B1.out hb (Blk.lt B1.out))
        have WO_ := Lib.hid (WO.out.below hb (Nat.le_refl _))
        have BWO_ := Lib.hid (Blk.below BWO.out hb (Blk.lt BWO.out))
        have X0_ := Lib.hid (X0.out.below hb (Nat.le_refl _))
        clear HB B0 B1 WO BWO X0
        have HB := HB_
        have B0 := B0_
        have B1 := B1_
        have WO := WO_
        have BWO := BWO_
        have X0 := X0_
        clear HB_ B0_ B1_ WO_ BWO_ X0_
        clear hb
        go_wp2_with fail
        generalize hwx : (w4_.alloc (.cells #[.slice q4 z0.length k4] 29)) = wx5 at *
        clear hwx
        have HK : Hid (∀ W, Below wx5.heap.size wx5 W → W.cell? ⟨w4_.heap.size, 0, none⟩ = some (.slice q4 z0.length k4) ∧ W.cell? ⟨w.heap.size + 1, 0, none⟩ = some (.int .i64 ak) ∧ W.cell? ⟨w.heap.size + 1, 1, none⟩ = some (.string an) ∧ W.cell? ⟨w.heap.size + 1, 2, none⟩ = some (.string at_) ∧ W.cell? ⟨w.heap.size + 1, 3, none⟩ = some (.string ad)) := Lib.hid fun W hW => ⟨(Blk.below BX0.out hW (Blk.lt BX0.out)).cell 0, (Blk.below B1.out hW (Blk.lt B1.out)).cell 0, (Blk.below B1.out hW (Blk.lt B1.out)).cell 1, (Blk.below B1.out hW (Blk.lt B1.out)).cell 2, (Blk.below B1.out hW (Blk.lt B1.out)).cell 3⟩
        have HBX : Hid (∀ W, Below wx5.heap.size wx5 W → Below (w.heap.size + 2) Wb W) := Lib.hid fun W hW => HB.out.trans (hW.mono (LS.out _ HB.out))
        have hk0 := bDrew0 wx5
        obtain ⟨c0, c1, c2, c3, c4⟩ := HK.out _ (Below.refl _ _)
        apply region_join (Post := fun q k n w' => BoxedRow wx5 w' rl 29 q k n)
        · go_region_held3 (fun W => W.cell? ⟨w4_.heap.size, 0, none⟩ = some (.slice q4 z0.length k4) ∧ W.cell? ⟨w.heap.size + 1, 0, none⟩ = some (.int .i64 ak) ∧ W.cell? ⟨w.heap.size + 1, 1, none⟩ = some (.string an) ∧ W.cell? ⟨w.heap.size + 1, 2, none⟩ = some (.string at_) ∧ W.cell? ⟨w.heap.size + 1, 3, none⟩ = some (.string ad))
            (first | exact HK.out _ hk3 | exact HK.out _ (bAlloc0 hk3 _) | exact HK.out _ (bSet0 hk3 (by first | exact Nat.le_refl _ | exact hk1.size | exact hk2.size) _) | exact HK.out _ hk2 | exact HK.out _ (bAlloc0 hk2 _) | exact HK.out _ hk1 | exact HK.out _ (bAlloc0 hk1 _) | exact HK.out _ hk0 | exact HK.out _ (bAlloc0 hk0 _) | go_keep)
            (first
              | (go_at_call 53; refine (DTA.out _).mono ?_; rintro e wb ⟨rfl, hbb⟩; have hk2 : Below wx5.heap.size wx5 wb := (by first | exact bTrans0 hk0 hbb | exact bTrans0 (bAlloc0 hk0 _) hbb); obtain ⟨va, -⟩ : ∃ v : Value, v = v := ⟨.bool true, rfl⟩; have QB : Hid (RdK wb _ z0) := Lib.hid ((OwnK.rd ⟨rfl, X0.out⟩).below hk2 (Nat.le_refl _)))
              | (go_at_call 54; refine (DI.out _ _ ?_).mono ?_; (first | exact QB.out | exact QB.out.below (bAlloc0 (Below.refl _ _) _) (Nat.le_refl _)); rintro e wc ⟨⟨vc, uc, rfl, hoc⟩, hbc⟩; have hk3 : Below wx5.heap.size wx5 wc := (by first | exact bTrans0 hk2 hbc | exact bTrans0 (bAlloc0 hk2 _) hbc); obtain ⟨rfl, hoc⟩ := hoc; obtain ⟨qc, kc, rfl⟩ := Own.shape hoc; first | (have bk := (Blk.below (Blk.new wb 29 [.slice none 0 0] _ rfl) hbc (Blk.lt (Blk.new wb 29 [.slice none 0 0] _ rfl))); have y1 := Blk.frozen bk 0; have y0 := Blk.cell bk 0; simp only [List.getElem?_cons_zero] at y0) | (have bk := (Blk.below (Blk.below (Blk.new_drew wx5 29 [.slice none 0 0] _ rfl) hbb (Blk.lt (Blk.new_drew wx5 29 [.slice none 0 0] _ rfl))) hbc (Blk.lt (Blk.below (Blk.new_drew wx5 29 [.slice none 0 0] _ rfl) hbb (Blk.lt (Blk.new_drew wx5 29 [.slice none 0 0] _ rfl))))); have y1 := Blk.frozen bk 0; have y0 := Blk.cell bk 0; simp only [List.getElem?_cons_zero] at y0) | skip))
          all_goals
            first
              | (obtain ⟨n, hn⟩ : ∃ n, wc.heap.size = n := ⟨_, rfl⟩; refine ⟨rfl, va, qc, kc, n, ?_, ?_⟩; (· rw [hn]); (· rw [← hn]; exact BoxedRow.late hk3 (Own.mono hoc hk2.size) 29))
              | (obtain ⟨n, hn⟩ : ∃ n, wb.heap.size = n := ⟨_, rfl⟩; refine ⟨rfl, va, qc, kc, n, ?_, ?_⟩; (· rw [hn]); (· rw [← hn]; exact BoxedRow.early (Blk.below (Blk.new wb 29 [.slice none 0 0] _ rfl) hbc (Blk.lt (Blk.new wb 29 [.slice none 0 0] _ rfl))) hk2.size (by simp) hoc hk3))
              | (obtain ⟨n, hn⟩ : ∃ n, wx5.heap.size = n := ⟨_, rfl⟩; refine ⟨rfl, va, qc, kc, n, ?_, ?_⟩; (· rw [hn]); (· rw [← hn]; exact BoxedRow.early (Blk.below (Blk.below (Blk.new_drew wx5 29 [.slice none 0 0] _ rfl) hbb (Blk.lt (Blk.new_drew wx5 29 [.slice none 0 0] _ rfl))) hbc (Blk.lt (Blk.below (Blk.new_drew wx5 29 [.slice none 0 0] _ rfl) hbb (Blk.lt (Blk.new_drew wx5 29 [.slice none 0 0] _ rfl))))) (Nat.le_refl _) (Nat.lt_of_lt_of_le (by simp) hbb.size) hoc hk3))
        · intro va q5 k5 n5 w5_ hbx
          have HBR := Lib.hid hbx
          clear hbx c0 c1 c2 c3 c4 hk0 HK HBX
          have ho := HBR.out.own
          have hb := HBR.out.low
          have A_WO_GO := Lib.hid (apart_of (fun k hk => (Own.block WO.out k hk).2) (fun k hk => (Own.block ho k hk).1))
          have A_X0_GO := Lib.hid (apart_of (fun k hk => (Own.block X0.out k hk).2) (fun k hk => (Own.block ho k hk).1))
          have M_B0_GO : Hid (Value.ownBlock (.slice q5 rl.length k5) = some (w.heap.size) → False) := Lib.hid (fun e => by have h1 := (Own.block ho _ e).1; have h2 := Blk.lt B0.out; omega)
          have M_B1_GO : Hid (Value.ownBlock (.slice q5 rl.length k5) = some (w.heap.size + 1) → False) := Lib.hid (fun e => by have h1 := (Own.block ho _ e).1; have h2 := Blk.lt B1.out; omega)
          have M_BWO_GO : Hid (Value.ownBlock (.slice q5 rl.length k5) = some (n3) → False) := Lib.hid (fun e => by have h1 := (Own.block ho _ e).1; have h2 := Blk.lt BWO.out; omega)
          have M_BX0_GO : Hid (Value.ownBlock (.slice q5 rl.length k5) = some (w4_.heap.size) → False) := Lib.hid (fun e => by have h1 := (Own.block ho _ e).1; have h2 := Blk.lt BX0.out; omega)
          have L_GO : Hid (∀ k, Value.ownBlock (.slice q5 rl.length k5) = some k → (w.heap.size + 2) ≤ k) := Lib.hid (fun k hk => Nat.le_trans (LS.out _ HB.out) (Own.block ho k hk).1)
          have M_BGO_WO : Hid (Value.ownBlock (.slice q3 rl.length k3) = some n5 → False) := Lib.hid (fun e => by have h2 := (Own.block WO.out _ e).2; have h3 := HBR.out.ge; omega)
          have M_BGO_X0 : Hid (Value.ownBlock (.slice q4 z0.length k4) = some n5 → False) := Lib.hid (fun e => by have h2 := (Own.block X0.out _ e).2; have h3 := HBR.out.ge; omega)
          have M_BGO_GO : Hid (Value.ownBlock (.slice q5 rl.length k5) = some n5 → False) := Lib.hid HBR.out.ne
          have HB_ := Lib.hid (HB.out.trans (hb.mono (LS.out _ HB.out)))
          have B0_ := Lib.hid (Blk.below B0.out hb (Blk.lt B0.out))
          have B1_ := Lib.hid (Blk.below B1.out hb (Blk.lt B1.out))
          have WO_ := Lib.hid (WO.out.below hb (Nat.le_refl _))
          have BWO_ := Lib.hid (Blk.below BWO.out hb (Blk.lt BWO.out))
          have X0_ := Lib.hid (X0.out.below hb (Nat.le_refl _))
          have BX0_ := Lib.hid (Blk.below BX0.out hb (Blk.lt BX0.out))
          clear HB B0 B1 WO BWO X0 BX0
          have HB := HB_
          have B0 := B0_
          have B1 := B1_
          have WO := WO_
          have BWO := BWO_
          have X0 := X0_
          have BX0 := BX0_
          clear HB_ B0_ B1_ WO_ BWO_ X0_ BX0_
          clear hb
          have GO := Lib.hid ho
          clear ho
          have BGO := Lib.hid HBR.out.blk
          clear HBR
          have c_BGO0 := Blk.cell BGO.out 0
          have c_BWO0 := Blk.cell BWO.out 0
          simp only [List.getElem?_cons_zero] at c_BGO0 c_BWO0
          go_wp2_with fail
          refine (CE.out _ _ _ (OwnK.rd ⟨rfl, GO.out⟩) (OwnK.rd ⟨rfl, WO.out⟩)).mono ?_
          rintro e w6 ⟨rfl, hb⟩
          clear c_BGO0 c_BWO0
          have HB_ := Lib.hid (HB.out.trans (hb.mono (LS.out _ HB.out)))
          have B0_ := Lib.hid (Blk.below B0.out hb (Blk.lt B0.out))
          have B1_ := Lib.hid (Blk.below B1.out hb (Blk.lt B1.out))
          have WO_ := Lib.hid (WO.out.below hb (Nat.le_refl _))
          have BWO_ := Lib.hid (Blk.below BWO.out hb (Blk.lt BWO.out))
          have X0_ := Lib.hid (X0.out.below hb (Nat.le_refl _))
          have BX0_ := Lib.hid (Blk.below BX0.out hb (Blk.lt BX0.out))
          have GO_ := Lib.hid (GO.out.below hb (Nat.le_refl _))
          have BGO_ := Lib.hid (Blk.below BGO.out hb (Blk.lt BGO.out))
          clear HB B0 B1 WO BWO X0 BX0 GO BGO
          have HB := HB_
          have B0 := B0_
          have B1 := B1_
          have WO := WO_
          have BWO := BWO_
          have X0 := X0_
          have BX0 := BX0_
          have GO := GO_
          have BGO := BGO_
          clear HB_ B0_ B1_ WO_ BWO_ X0_ BX0_ GO_ BGO_
          clear hb
          have HK : Hid (∀ W, Below (w6).heap.size (w6) W → W.cell? ⟨w4_.heap.size, 0, none⟩ = some (.slice q4 z0.length k4) ∧ W.cell? ⟨w.heap.size, 0, none⟩ = some (.slice a0 z0.length cap0)) := Lib.hid fun W hW => ⟨(Blk.below BX0.out hW (Blk.lt BX0.out)).cell 0, (Blk.below B0.out hW (Blk.lt B0.out)).cell 0⟩
          obtain ⟨c0, c1⟩ := HK.out _ (Below.refl _ _)
          go_wp2_with fail
          go_region_held3 (fun W => W.cell? ⟨w4_.heap.size, 0, none⟩ = some (.slice q4 z0.length k4) ∧ W.cell? ⟨w.heap.size, 0, none⟩ = some (.slice a0 z0.length cap0))
            (first | exact HK.out _ hk2 | exact HK.out _ hk1 | go_keep)
            (first
              | (go_at_call 17; refine (CT0.out _ ?_).mono ?_; (exact R0.out (w6) HB.out); rintro e wa ⟨⟨va, ua, rfl, hoa⟩, hba⟩; have hk1 : Below (w6).heap.size (w6) wa := ⟨hba.os, hba.tape, hba.output, hba.size, hba.block⟩; have QA := Lib.hid (OwnK.rd hoa))
              | (go_at_call 19; refine (CE0.out _ _ _ ?_ ?_).mono ?_; (exact ((OwnK.rd ⟨rfl, X0.out⟩).below hk1 (Nat.le_refl _))); (exact QA.out); rintro e wb ⟨rfl, hbb⟩; have hkb : Below wa.heap.size wa wb := ⟨hbb.os, hbb.tape, hbb.output, hbb.size, hbb.block⟩; have hk2 := hk1.trans (hkb.mono hk1.size)))
          clear c0 c1
          replace hk2 := Lib.hid hk2
          clear hk1 hkb hba hbb QA hoa
          have hb := hk2.out
          have HB_ := Lib.hid (HB.out.trans (hb.mono (LS.out _ HB.out)))
          have B0_ := Lib.hid (Blk.below B0.out hb (Blk.lt B0.out))
          have B1_ := Lib.hid (Blk.below B1.out hb (Blk.lt B1.out))
          have WO_ := Lib.hid (WO.out.below hb (Nat.le_refl _))
          have BWO_ := Lib.hid (Blk.below BWO.out hb (Blk.lt BWO.out))
          have X0_ := Lib.hid (X0.out.below hb (Nat.le_refl _))
          have BX0_ := Lib.hid (Blk.below BX0.out hb (Blk.lt BX0.out))
          have GO_ := Lib.hid (GO.out.below hb (Nat.le_refl _))
          have BGO_ := Lib.hid (Blk.below BGO.out hb (Blk.lt BGO.out))
          clear HB B0 B1 WO BWO X0 BX0 GO BGO
          have HB := HB_
          have B0 := B0_
          have B1 := B1_
          have WO := WO_
          have BWO := BWO_
          have X0 := X0_
          have BX0 := BX0_
          have GO := GO_
          have BGO := BGO_
          clear HB_ B0_ B1_ WO_ BWO_ X0_ BX0_ GO_ BGO_
          clear hb hk2 HK
          have c_BX00 := Blk.cell BX0.out 0
          simp only [List.getElem?_cons_zero] at c_BX00
          go_wp2_with fail
          refine (DM0.out _ _ _ _ ⟨rfl, X0.out⟩).mono ?_
          rintro e w8 ⟨rfl, ho, hg⟩
          clear c_BX00
          clear ho
          have HB_ := Lib.hid (HB.out.grown hg (LS.out _ HB.out) (fun k hk => L_X0.out k hk))
          have B0_ := Lib.hid (Blk.kept B0.out hg (fun e => M_B0_X0.out e.symm))
          have B1_ := Lib.hid (Blk.kept B1.out hg (fun e => M_B1_X0.out e.symm))
          have WO_ := Lib.hid (Own.kept WO.out hg (apart_sym A_WO_X0.out))
          have BWO_ := Lib.hid (Blk.kept BWO.out hg (fun e => M_BWO_X0.out e.symm))
          have BX0_ := Lib.hid (Blk.kept BX0.out hg (fun e => M_BX0_X0.out e.symm))
          have GO_ := Lib.hid (Own.kept GO.out hg A_X0_GO.out)
          have BGO_ := Lib.hid (Blk.kept BGO.out hg (fun e => M_BGO_X0.out e.symm))
          clear X0
          clear HB B0 B1 WO BWO BX0 GO BGO
          have HB := HB_
          have B0 := B0_
          have B1 := B1_
          have WO := WO_
          have BWO := BWO_
          have BX0 := BX0_
          have GO := GO_
          have BGO := BGO_
          clear HB_ B0_ B1_ WO_ BWO_ BX0_ GO_ BGO_
          clear hg
          clear BX0
          have c_BGO0 := Blk.cell BGO.out 0
          have c_BWO0 := Blk.cell BWO.out 0
          simp only [List.getElem?_cons_zero] at c_BGO0 c_BWO0
          go_wp2_with fail
          refine (CE.out _ _ _ (OwnK.rd ⟨rfl, GO.out⟩) (OwnK.rd ⟨rfl, WO.out⟩)).mono ?_
          rintro e w9 ⟨rfl, hb⟩
          clear c_BGO0 c_BWO0
          have HB_ := Lib.hid (HB.out.trans (hb.mono (LS.out _ HB.out)))
          have B0_ := Lib.hid (Blk.below B0.out hb (Blk.lt B0.out))
          have B1_ := Lib.hid (Blk.below B1.out hb (Blk.lt B1.out))
          have WO_ := Lib.hid (WO.out.below hb (Nat.le_refl _))
          have BWO_ := Lib.hid (Blk.below BWO.out hb (Blk.lt BWO.out))
          have GO_ := Lib.hid (GO.out.below hb (Nat.le_refl _))
          have BGO_ := Lib.hid (Blk.below BGO.out hb (Blk.lt BGO.out))
          clear HB B0 B1 WO BWO GO BGO
          have HB := HB_
          have B0 := B0_
          have B1 := B1_
          have WO := WO_
          have BWO := BWO_
          have GO := GO_
          have BGO := BGO_
          clear HB_ B0_ B1_ WO_ BWO_ GO_ BGO_
          clear hb
          have c_BGO0 := Blk.cell BGO.out 0
          simp only [List.getElem?_cons_zero] at c_BGO0
          go_wp2_with fail
          refine (DMG.out _ _ _ _ ⟨rfl, GO.out⟩).mono ?_
          rintro e w10 ⟨rfl, ho, hg⟩
          clear c_BGO0
          have HB_ := Lib.hid (HB.out.grown hg (LS.out _ HB.out) (fun k hk => L_GO.out k hk))
          have B0_ := Lib.hid (Blk.kept B0.out hg (fun e => M_B0_GO.out e.symm))
          have B1_ := Lib.hid (Blk.kept B1.out hg (fun e => M_B1_GO.out e.symm))
          have WO_ := Lib.hid (Own.kept WO.out hg (apart_sym A_WO_GO.out))
          have BWO_ := Lib.hid (Blk.kept BWO.out hg (fun e => M_BWO_GO.out e.symm))
          have BGO_ := Lib.hid (Blk.kept BGO.out hg (fun e => M_BGO_GO.out e.symm))
          clear GO
          clear HB B0 B1 WO BWO BGO
          have HB := HB_
          have B0 := B0_
          have B1 := B1_
          have WO := WO_
          have BWO := BWO_
          have BGO := BGO_
          clear HB_ B0_ B1_ WO_ BWO_ BGO_
          clear hg
          have GR := Lib.hid ho.rd
          clear ho
          have c_BGO0 := Blk.cell BGO.out 0
          simp only [List.getElem?_cons_zero] at c_BGO0
          go_wp2_with fail
          refine (DHG.out _ _ GR.out).mono ?_
          rintro e w11 ⟨rfl, hb⟩
          clear c_BGO0
          have HB_ := Lib.hid (HB.out.trans (hb.mono (LS.out _ HB.out)))
          have B0_ := Lib.hid (Blk.below B0.out hb (Blk.lt B0.out))
          have B1_ := Lib.hid (Blk.below B1.out hb (Blk.lt B1.out))
          have WO_ := Lib.hid (WO.out.below hb (Nat.le_refl _))
          have BWO_ := Lib.hid (Blk.below BWO.out hb (Blk.lt BWO.out))
          have BGO_ := Lib.hid (Blk.below BGO.out hb (Blk.lt BGO.out))
          have GR_ := Lib.hid (GR.out.below hb (Nat.le_refl _))
          clear HB B0 B1 WO BWO BGO GR
          have HB := HB_
          have B0 := B0_
          have B1 := B1_
          have WO := WO_
          have BWO := BWO_
          have BGO := BGO_
          have GR := GR_
          clear HB_ B0_ B1_ WO_ BWO_ BGO_ GR_
          clear hb
          go_wp2_with fail
          have HK : Hid (∀ W, Below w11.heap.size w11 W → W.cell? ⟨w.heap.size, 0, none⟩ = some (.slice a0 z0.length cap0) ∧ W.cell? ⟨w.heap.size + 1, 0, none⟩ = some (.int .i64 ak) ∧ W.cell? ⟨w.heap.size + 1, 1, none⟩ = some (.string an) ∧ W.cell? ⟨w.heap.size + 1, 2, none⟩ = some (.string at_) ∧ W.cell? ⟨w.heap.size + 1, 3, none⟩ = some (.string ad)) := Lib.hid fun W hW => ⟨(Blk.below B0.out hW (Blk.lt B0.out)).cell 0, (Blk.below B1.out hW (Blk.lt B1.out)).cell 0, (Blk.below B1.out hW (Blk.lt B1.out)).cell 1, (Blk.below B1.out hW (Blk.lt B1.out)).cell 2, (Blk.below B1.out hW (Blk.lt B1.out)).cell 3⟩
          have HBX : Hid (∀ W, Below w11.heap.size w11 W → Below (w.heap.size + 2) Wb W) := Lib.hid fun W hW => HB.out.trans (hW.mono (LS.out _ HB.out))
          have hk0 := bDrew0 w11
          obtain ⟨c0, c1, c2, c3, c4⟩ := HK.out _ (Below.refl _ _)
          apply region_join (Post := fun q k n w' => BoxedRow w11 w' rl 29 q k n)
          · go_region_held3 (fun W => W.cell? ⟨w.heap.size, 0, none⟩ = some (.slice a0 z0.length cap0) ∧ W.cell? ⟨w.heap.size + 1, 0, none⟩ = some (.int .i64 ak) ∧ W.cell? ⟨w.heap.size + 1, 1, none⟩ = some (.string an) ∧ W.cell? ⟨w.heap.size + 1, 2, none⟩ = some (.string at_) ∧ W.cell? ⟨w.heap.size + 1, 3, none⟩ = some (.string ad))
              (first | exact HK.out _ hk3 | exact HK.out _ (bAlloc0 hk3 _) | exact HK.out _ (bSet0 hk3 (by first | exact Nat.le_refl _ | exact hk1.size | exact hk2.size) _) | exact HK.out _ hk2 | exact HK.out _ (bAlloc0 hk2 _) | exact HK.out _ hk1 | exact HK.out _ (bAlloc0 hk1 _) | exact HK.out _ hk0 | exact HK.out _ (bAlloc0 hk0 _) | go_keep)
              (first
                | (go_at_call 17; refine (CT0.out _ ?_).mono ?_; (first | exact R0.out _ (HBX.out _ hk0) | exact R0.out _ (HBX.out _ (bAlloc0 hk0 _))); rintro e wa ⟨⟨va, ua, rfl, hoa⟩, hba⟩; have hk1 : Below w11.heap.size w11 wa := (by first | exact bTrans0 hk0 hba | exact bTrans0 (bAlloc0 hk0 _) hba); have QA := Lib.hid (OwnK.rd hoa))
                | (go_at_call 53; refine (DTA.out _).mono ?_; rintro e wb ⟨rfl, hbb⟩; have hk2 : Below w11.heap.size w11 wb := (by first | exact bTrans0 hk1 hbb | exact bTrans0 (bAlloc0 hk1 _) hbb); have QB : Hid (RdK wb va z0) := Lib.hid (by first | exact QA.out.below hbb (Nat.le_refl _) | exact QA.out.below (bTrans0 (bAlloc0 (Below.refl _ _) _) hbb) (Nat.le_refl _)))
                | (go_at_call 54; refine (DI.out _ _ ?_).mono ?_; (first | exact QB.out | exact QB.out.below (bAlloc0 (Below.refl _ _) _) (Nat.le_refl _)); rintro e wc ⟨⟨vc, uc, rfl, hoc⟩, hbc⟩; have hk3 : Below w11.heap.size w11 wc := (by first | exact bTrans0 hk2 hbc | exact bTrans0 (bAlloc0 hk2 _) hbc); obtain ⟨rfl, hoc⟩ := hoc; obtain ⟨qc, kc, rfl⟩ := Own.shape hoc; first | (have bk := (Blk.below (Blk.new wb 29 [.slice none 0 0] _ rfl) hbc (Blk.lt (Blk.new wb 29 [.slice none 0 0] _ rfl))); have y1 := Blk.frozen bk 0; have y0 := Blk.cell bk 0; simp only [List.getElem?_cons_zero] at y0) | (have bk := (Blk.below (Blk.below (Blk.new wa 29 [.slice none 0 0] _ rfl) hbb (Blk.lt (Blk.new wa 29 [.slice none 0 0] _ rfl))) hbc (Blk.lt (Blk.below (Blk.new wa 29 [.slice none 0 0] _ rfl) hbb (Blk.lt (Blk.new wa 29 [.slice none 0 0] _ rfl))))); have y1 := Blk.frozen bk 0; have y0 := Blk.cell bk 0; simp only [List.getElem?_cons_zero] at y0) | (have bk := (Blk.below (Blk.below (Blk.below (Blk.new_drew w11 29 [.slice none 0 0] _ rfl) hba (Blk.lt (Blk.new_drew w11 29 [.slice none 0 0] _ rfl))) hbb (Blk.lt (Blk.below (Blk.new_drew w11 29 [.slice none 0 0] _ rfl) hba (Blk.lt (Blk.new_drew w11 29 [.slice none 0 0] _ rfl))))) hbc (Blk.lt (Blk.below (Blk.below (Blk.new_drew w11 29 [.slice none 0 0] _ rfl) hba (Blk.lt (Blk.new_drew w11 29 [.slice none 0 0] _ rfl))) hbb (Blk.lt (Blk.below (Blk.new_drew w11 29 [.slice none 0 0] _ rfl) hba (Blk.lt (Blk.new_drew w11 29 [.slice none 0 0] _ rfl))))))); have y1 := Blk.frozen bk 0; have y0 := Blk.cell bk 0; simp only [List.getElem?_cons_zero] at y0) | skip))
            all_goals
              first
                | (obtain ⟨n, hn⟩ : ∃ n, wc.heap.size = n := ⟨_, rfl⟩; refine ⟨rfl, va, qc, kc, n, ?_, ?_⟩; (· rw [hn]); (· rw [← hn]; exact BoxedRow.late hk3 (Own.mono hoc hk2.size) 29))
                | (obtain ⟨n, hn⟩ : ∃ n, wb.heap.size = n := ⟨_, rfl⟩; refine ⟨rfl, va, qc, kc, n, ?_, ?_⟩; (· rw [hn]); (· rw [← hn]; exact BoxedRow.early (Blk.below (Blk.new wb 29 [.slice none 0 0] _ rfl) hbc (Blk.lt (Blk.new wb 29 [.slice none 0 0] _ rfl))) hk2.size (by simp) hoc hk3))
                | (obtain ⟨n, hn⟩ : ∃ n, wa.heap.size = n := ⟨_, rfl⟩; refine ⟨rfl, va, qc, kc, n, ?_, ?_⟩; (· rw [hn]); (· rw [← hn]; exact BoxedRow.early (Blk.below (Blk.below (Blk.new wa 29 [.slice none 0 0] _ rfl) hbb (Blk.lt (Blk.new wa 29 [.slice none 0 0] _ rfl))) hbc (Blk.lt (Blk.below (Blk.new wa 29 [.slice none 0 0] _ rfl) hbb (Blk.lt (Blk.new wa 29 [.slice none 0 0] _ rfl))))) hk1.size (Nat.lt_of_lt_of_le (by simp) hbb.size) hoc hk3))
                | (obtain ⟨n, hn⟩ : ∃ n, w11.heap.size = n := ⟨_, rfl⟩; refine ⟨rfl, va, qc, kc, n, ?_, ?_⟩; (· rw [hn]); (· rw [← hn]; exact BoxedRow.early (Blk.below (Blk.below (Blk.below (Blk.new_drew w11 29 [.slice none 0 0] _ rfl) hba (Blk.lt (Blk.new_drew w11 29 [.slice none 0 0] _ rfl))) hbb (Blk.lt (Blk.below (Blk.new_drew w11 29 [.slice none 0 0] _ rfl) hba (Blk.lt (Blk.new_drew w11 29 [.slice none 0 0] _ rfl))))) hbc (Blk.lt (Blk.below (Blk.below (Blk.new_drew w11 29 [.slice none 0 0] _ rfl) hba (Blk.lt (Blk.new_drew w11 29 [.slice none 0 0] _ rfl))) hbb (Blk.lt (Blk.below (Blk.new_drew w11 29 [.slice none 0 0] _ rfl) hba (Blk.lt (Blk.new_drew w11 29 [.slice none 0 0] _ rfl))))))) (Nat.le_refl _) (Nat.lt_of_lt_of_le (Nat.lt_of_lt_of_le (by simp) hba.size) hbb.size) hoc hk3))
          · intro va q12 k12 n12 w12_ hbx
            have HBR := Lib.hid hbx
            clear hbx c0 c1 c2 c3 c4 hk0 HK HBX
            have ho := HBR.out.own
            have hb := HBR.out.low
            have A_WO_HO := Lib.hid (apart_of (fun k hk => (Own.block WO.out k hk).2) (fun k hk => (Own.block ho k hk).1))
            have M_B0_HO : Hid (Value.ownBlock (.slice q12 rl.length k12) = some (w.heap.size) → False) := Lib.hid (fun e => by have h1 := (Own.block ho _ e).1; have h2 := Blk.lt B0.out; omega)
            have M_B1_HO : Hid (Value.ownBlock (.slice q12 rl.length k12) = some (w.heap.size + 1) → False) := Lib.hid (fun e => by have h1 := (Own.block ho _ e).1; have h2 := Blk.lt B1.out; omega)
            have M_BWO_HO : Hid (Value.ownBlock (.slice q12 rl.length k12) = some (n3) → False) := Lib.hid (fun e => by have h1 := (Own.block ho _ e).1; have h2 := Blk.lt BWO.out; omega)
            have M_BGO_HO : Hid (Value.ownBlock (.slice q12 rl.length k12) = some (n5) → False) := Lib.hid (fun e => by have h1 := (Own.block ho _ e).1; have h2 := Blk.lt BGO.out; omega)
            have L_HO : Hid (∀ k, Value.ownBlock (.slice q12 rl.length k12) = some k → (w.heap.size + 2) ≤ k) := Lib.hid (fun k hk => Nat.le_trans (LS.out _ HB.out) (Own.block ho k hk).1)
            have M_BHO_WO : Hid (Value.ownBlock (.slice q3 rl.length k3) = some n12 → False) := Lib.hid (fun e => by have h2 := (Own.block WO.out _ e).2; have h3 := HBR.out.ge; omega)
            have M_BHO_HO : Hid (Value.ownBlock (.slice q12 rl.length k12) = some n12 → False) := Lib.hid HBR.out.ne
            have HB_ := Lib.hid (HB.out.trans (hb.mono (LS.out _ HB.out)))
            have B0_ := Lib.hid (Blk.below B0.out hb (Blk.lt B0.out))
            have B1_ := Lib.hid (Blk.below B1.out hb (Blk.lt B1.out))
            have WO_ := Lib.hid (WO.out.below hb (Nat.le_refl _))
            have BWO_ := Lib.hid (Blk.below BWO.out hb (Blk.lt BWO.out))
            have BGO_ := Lib.hid (Blk.below BGO.out hb (Blk.lt BGO.out))
            have GR_ := Lib.hid (GR.out.below hb (Nat.le_refl _))
            clear HB B0 B1 WO BWO BGO GR
            have HB := HB_
            have B0 := B0_
            have B1 := B1_
            have WO := WO_
            have BWO := BWO_
            have BGO := BGO_
            have GR := GR_
            clear HB_ B0_ B1_ WO_ BWO_ BGO_ GR_
            clear hb
            have HO := Lib.hid ho
            clear ho
            have BHO := Lib.hid HBR.out.blk
            clear HBR
            have c_BHO0 := Blk.cell BHO.out 0
            have c_BWO0 := Blk.cell BWO.out 0
            simp only [List.getElem?_cons_zero] at c_BHO0 c_BWO0
            go_wp2_with fail
            refine (CE.out _ _ _ (OwnK.rd ⟨rfl, HO.out⟩) (OwnK.rd ⟨rfl, WO.out⟩)).mono ?_
            rintro e w13 ⟨rfl, hb⟩
            clear c_BHO0 c_BWO0
            have HB_ := Lib.hid (HB.out.trans (hb.mono (LS.out _ HB.out)))
            have B0_ := Lib.hid (Blk.below B0.out hb (Blk.lt B0.out))
            have B1_ := Lib.hid (Blk.below B1.out hb (Blk.lt B1.out))
            have WO_ := Lib.hid (WO.out.below hb (Nat.le_refl _))
            have BWO_ := Lib.hid (Blk.below BWO.out hb (Blk.lt BWO.out))
            have BGO_ := Lib.hid (Blk.below BGO.out hb (Blk.lt BGO.out))
            have GR_ := Lib.hid (GR.out.below hb (Nat.le_refl _))
            have HO_ := Lib.hid (HO.out.below hb (Nat.le_refl _))
            have BHO_ := Lib.hid (Blk.below BHO.out hb (Blk.lt BHO.out))
            clear HB B0 B1 WO BWO BGO GR HO BHO
            have HB := HB_
            have B0 := B0_
            have B1 := B1_
            have WO := WO_
            have BWO := BWO_
            have BGO := BGO_
            have GR := GR_
            have HO := HO_
            have BHO := BHO_
            clear HB_ B0_ B1_ WO_ BWO_ BGO_ GR_ HO_ BHO_
            clear hb
            have c_BGO0 := Blk.cell BGO.out 0
            simp only [List.getElem?_cons_zero] at c_BGO0
            go_wp2_with fail
            refine (DHG.out _ _ GR.out).mono ?_
            rintro e w14 ⟨rfl, hb⟩
            clear c_BGO0
            have HB_ := Lib.hid (HB.out.trans (hb.mono (LS.out _ HB.out)))
            have B0_ := Lib.hid (Blk.below B0.out hb (Blk.lt B0.out))
            have B1_ := Lib.hid (Blk.below B1.out hb (Blk.lt B1.out))
            have WO_ := Lib.hid (WO.out.below hb (Nat.le_refl _))
            have BWO_ := Lib.hid (Blk.below BWO.out hb (Blk.lt BWO.out))
            have BGO_ := Lib.hid (Blk.below BGO.out hb (Blk.lt BGO.out))
            have GR_ := Lib.hid (GR.out.below hb (Nat.le_refl _))
            have HO_ := Lib.hid (HO.out.below hb (Nat.le_refl _))
            have BHO_ := Lib.hid (Blk.below BHO.out hb (Blk.lt BHO.out))
            clear HB B0 B1 WO BWO BGO GR HO BHO
            have HB := HB_
            have B0 := B0_
            have B1 := B1_
            have WO := WO_
            have BWO := BWO_
            have BGO := BGO_
            have GR := GR_
            have HO := HO_
            have BHO := BHO_
            clear HB_ B0_ B1_ WO_ BWO_ BGO_ GR_ HO_ BHO_
            clear hb
            go_wp2_with fail
            go_ret
            exact ⟨rfl, HB0.out.trans (HB.out.mono (by omega))⟩
    · rw [if_neg ht1] at CZ1
      have DZ1 := Lib.hid CZ1
      clear CZ1 ht1 hrd0
      simp only at DZ1
      go_enter Try.func11, Try.ntmps11
      go_wp2_with fail
      generalize (w.alloc (.cells #[.slice a0 z0.length cap0] 24)).alloc (.cells #[.int .i64 ak, .string an, .string at_, .string ad] 64) = Wb at *
      have HB := Lib.hid (Below.refl (w.heap.size + 2) Wb)
      refine (DZ0.out _ (R0.out _ HB.out)).mono ?_
      rintro e w1_ ⟨rfl, hb⟩
      have HB_ := Lib.hid (HB.out.trans (hb.mono (LS.out _ HB.out)))
      have B0_ := Lib.hid (Blk.below B0.out hb (Blk.lt B0.out))
      have B1_ := Lib.hid (Blk.below B1.out hb (Blk.lt B1.out))
      clear HB B0 B1
      have HB := HB_
      have B0 := B0_
      have B1 := B1_
      clear HB_ B0_ B1_
      clear hb
      have c_B10 := Blk.cell B1.out 0
      have c_B11 := Blk.cell B1.out 1
      have c_B12 := Blk.cell B1.out 2
      have c_B13 := Blk.cell B1.out 3
      simp only [List.getElem?_cons_zero] at c_B10
      simp only [List.getElem?_cons_zero, List.getElem?_cons_succ] at c_B11 c_B12 c_B13
      go_wp2_with fail
      refine (DZ1.out _).mono ?_
      rintro e w2_ ⟨rfl, hb⟩
      clear c_B10 c_B11 c_B12 c_B13
      have HB_ := Lib.hid (HB.out.trans (hb.mono (LS.out _ HB.out)))
      have B0_ := Lib.hid (Blk.below B0.out hb (Blk.lt B0.out))
      have B1_ := Lib.hid (Blk.below B1.out hb (Blk.lt B1.out))
      clear HB B0 B1
      have HB := HB_
      have B0 := B0_
      have B1 := B1_
      clear HB_ B0_ B1_
      clear hb
      go_wp2_with fail
      go_ret
      exact ⟨rfl, HB0.out.trans (HB.out.mono (by omega))⟩
  · rw [szFl_no ht0] at CZ0
    have DZ0 := Lib.hid CZ0
    clear CZ0 ht0 hrd0
    go_enter Try.func11, Try.ntmps11
    go_wp2_with fail
    generalize (w.alloc (.cells #[.slice a0 z0.length cap0] 24)).alloc (.cells #[.int .i64 ak, .string an, .string at_, .string ad] 64) = Wb at *
    have HB := Lib.hid (Below.refl (w.heap.size + 2) Wb)
    refine (DZ0.out _ (R0.out _ HB.out)).mono ?_
    rintro e w1_ ⟨rfl, hb⟩
    have HB_ := Lib.hid (HB.out.trans (hb.mono (LS.out _ HB.out)))
    have B0_ := Lib.hid (Blk.below B0.out hb (Blk.lt B0.out))
    have B1_ := Lib.hid (Blk.below B1.out hb (Blk.lt B1.out))
    clear HB B0 B1
    have HB := HB_
    have B0 := B0_
    have B1 := B1_
    clear HB_ B0_ B1_
    clear hb
    go_wp2_with fail
    go_ret
    exact ⟨rfl, HB0.out.trans (HB.out.mono (by omega))⟩

theorem own : ownKnob Try.prog.godebug = none := by kernel_rfl
theorem laidOut : laidOutB Try.prog = true := by kernel_rfl

set_option maxRecDepth 100000 in
theorem lifted (os : Os) (started : os.Started) (H : Type) (enc : TypeId × Value → H) :
    ReturnsInHanded {} Try.checked os 11 .any (Rows.fnExactDoActSpec.pre6 enc Try.prog Try.f11 Rows.fnExactDoActRow.domain false) (Rows.fnExactDoActSpec.post enc Try.prog Try.f11 false true false false) := by
  refine returnsInHanded_of_change (C := Try.checked) own started (by kernel_rfl) Try.func11
    (ChangeSpec.witness6 (enc := enc) (C := Try.checked) false ⟨#[], #[.agg #[.slice none 0 0], .agg #[.int .i64 0, .string ByteArray.empty, .string ByteArray.empty, .string ByteArray.empty]], []⟩ 8 (by kernel_rfl) (by kernel_rfl) (by kernel_rfl) (by kernel_rfl)) ?_
  intro W base args ds gs before hval0 hW hcnd _
  have hval : ∀ (j : Nat) t v, Try.f11.params[j]? = some t → args[j]? = some v → Value.okWide Try.prog W .any base t v := hval0
  have hW' := hW
  obtain ⟨p, q, hA0, hV, rfl, hfz, hnd⟩ := hW
  have hA : DataW.TrodAll enc Try.prog W 0 (fun _ => true) true Try.f11.params.toList args.toList ds p := hA0
  rw [Try.params11] at hA hval
  obtain ⟨v0, vs0, d0, ds0, p0, q0, hargs, rfl, rfl, h0, r0⟩ := trodAll_cons hA
  obtain ⟨v1, vs1, d1, ds1, p1, q1, rfl, rfl, rfl, h1, r1⟩ := trodAll_cons r0
  obtain ⟨rfl, rfl, rfl⟩ := trodAll_nil r1
  obtain rfl : args = #[v0, v1] := by cases args; simp_all
  obtain ⟨rfl, rfl⟩ := trodVars_none hV
  have k0 := h0
  have lt0 : ∀ x ∈ p0, x.block < W.heap.size := by obtain ⟨m, hm⟩ := k0; exact DataW.trod_lt m _ _ _ hm
  obtain ⟨a0, len0, cap0, z0, rfl, w0⟩ := isDisk_of Try.underlying24 (by kernel_rfl) (by kernel_rfl) Try.underlying22 Try.underlying110 (by kernel_rfl) (by kernel_rfl) Try.underlying9 Try.underlying9 Try.underlying3 (hval 0 24 v0 rfl rfl) h0
  have k1 := h1
  have lt1 : ∀ x ∈ p1, x.block < W.heap.size := by obtain ⟨m, hm⟩ := k1; exact DataW.trod_lt m _ _ _ hm
  obtain ⟨a1, rfl, w1⟩ := isAct_of Try.underlying64 (by kernel_rfl) (by kernel_rfl) Try.underlying3 Try.underlying9 Try.underlying9 Try.underlying9 (hval 1 64 v1 rfl rfl) h1
  clear hA0 hval0
  refine (walk a0 len0 cap0 z0 a1 W w0 w1).mono fun e W' ⟨he, bel⟩ => ?_
  subst he
  exact ⟨_, rfl, _, _, _, [], _, [], hW', trodAll_mk1 (shut_bool Try.underlying4 _), (trodAll_cons_mk (Below.trod laidOut (by kernel_rfl) (of_decide_eq_true (by kernel_rfl)) k0 bel lt0) (trodAll_cons_mk (Below.trod laidOut (by kernel_rfl) (of_decide_eq_true (by kernel_rfl)) k1 bel lt1) trodAll_mk0)), rfl, bel.frame _, fun h => by cases h⟩

theorem over : Rows.fnExactDoActRow.holds Try.pinned (OpenSpec.ofChange Rows.fnExactDoActSpec) :=
  OpenClaim.holds_of_wide 11 Try.f11 rfl rfl rfl rfl rfl rfl rfl ⟨rfl, rfl, rfl, rfl, rfl⟩ rfl rfl rfl rfl rfl (by kernel_rfl) Try.func11 (by kernel_rfl)
    (of_decide_eq_true (by kernel_rfl)) (by unfold Func.isWrapper; first | (rw [if_pos (by decide +kernel)]; kernel_rfl) | (rw [if_neg (by decide +kernel)]; exact ⟨rfl, rfl⟩))
    (fun os started H enc _ => lifted os started H enc)

/-- The statement. -/
theorem proved : Rows.FnExactDoActSaid :=
  over
#print axioms proved

end Go.Proofs.Ytdecehecjlbbiaa.fnExactDoAct
