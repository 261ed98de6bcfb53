/-
  The walks of a disk's test and of a file's name, on both sides.
-/
import Derived.Test.YtdecehecjlbbiaaJFile3
import Derived.Test.YtdecehecjlbbiaaBase4
import Derived.Test.YtdecehecjlbbiaaJBits
import Derived.Test.YtdecehecjlbbiaaBase6
import Derived.IntWalk
namespace Go.Proofs.Ytdecehecjlbbiaa
open Go.RowKit

theorem iFileName_any (s : ByteArray) (w : World) : Calls Try.prog 66 #[.string s] w fun e w' => e = .returned (.bool (within s.size 1 8)) ∧ w = w' := by
  have C := Lib.hid (fun wx => in_any s.size 1 8 wx)
  go_enter Try.func66, Try.ntmps66
  go_wp2_with fail
  refine (C.out _).mono ?_
  rintro e w' ⟨rfl, rfl⟩
  go_wp2_with fail
  go_ret
  exact ⟨rfl, rfl⟩

theorem sFileName_any (s : ByteArray) (w : World) : Calls Try.prog 63 #[.string s] w fun e w' => e = .returned (.bool (within s.size 1 8)) ∧ w = w' := by
  have C := Lib.hid (fun wx => l01In_any s.size 1 8 wx)
  go_enter Try.func63, Try.ntmps63
  go_wp2_with fail
  refine (C.out _).mono ?_
  rintro e w' ⟨rfl, rfl⟩
  go_wp2_with fail
  go_ret
  exact ⟨rfl, rfl⟩

set_option maxHeartbeats 4000000 in
set_option maxRecDepth 100000 in
theorem iDiskOk_big (v : Value) (l : List Fl) (w : World) (hl : l.length ≤ 1048576) (hs : ∀ x ∈ l, x.1.size ≤ 2097152 ∧ x.2.1.size ≤ 2097152) (h : RdK w v l) :
    Calls Try.prog 18 #[v] w fun e w' => e = .returned (.bool (decide (DiskGood l))) ∧ Below w.heap.size w w' := by
  obtain ⟨ao, cap, rfl, hr⟩ := h
  have hB := (Below.refl w.heap.size w).alloc (Nat.le_refl _) (.cells #[.slice ao l.length cap] 29)
  have hz := alloc_size w (.cells #[.slice ao l.length cap] 29)
  have k0 : ∀ W, Below (w.heap.size + 1) (w.alloc (.cells #[.slice ao l.length cap] 29)) W → W.cell? ⟨w.heap.size, 0, none⟩ = some (.slice ao l.length cap) := by
    intro W hW
    refine (hW.cell (by simp)).trans ?_
    simp
  have R := Lib.hid (fun W hW => (hr.below hB (Nat.le_refl _)).below (C := w.heap.size + 1) (w' := W) hW (by rw [hz]; exact Nat.le_refl _))
  have HB := Lib.hid hB
  have HZ := Lib.hid hz
  have K0 := Lib.hid k0
  have HS := Lib.hid hs
  clear hr hB hz k0 hs
  · have G30 : Hid (∀ h : PartGood l l.length, decide (DiskGood l) = decide ((l.length : Int) ≤ 30)) := Lib.hid (fun h => good_all h)
    go_enter Try.func18, Try.ntmps18
    go_wp2_with fail
    generalize w.alloc (.cells #[.slice ao l.length cap] 29) = W1 at *
    go_loopw [8] (fun i wr => ∃ k : Nat, k ≤ l.length ∧ i = .int .i64 k ∧ Hid (PartGood l k) ∧ Below (w.heap.size + 1) W1 wr) (fun i _ => l.length - (intOf i).toNat)
    case atStart => exact ⟨0, Nat.zero_le _, rfl, Lib.hid (part_zero l), Below.refl _ _⟩
    case round =>
      obtain ⟨k, hk, rfl, HP, hb⟩ := hrel
      have hbs := hb.size
      rw [HZ.out] at hbs
      have c0 := K0.out wr hb
      by_cases hlt : k < l.length
      · obtain ⟨x, hx⟩ : ∃ x, l[k]? = some x := ⟨_, List.getElem?_eq_getElem hlt⟩
        obtain ⟨b, o, hao, hc1, hc2, hc3⟩ := (R.out wr hb).at_ k x hx
        have hxs := HS.out x (List.mem_of_getElem? hx)
        have Hx := Lib.hid hx
        obtain ⟨xa, xb, xn⟩ := x
        simp only at hc1 hc2 hc3 hxs
        have hb2 := hb.alloc hbs (.cells #[.string xa, .string xb, .int .i64 xn] 49)
        have d0 := K0.out _ hb2
        have f0 : (wr.alloc (.cells #[.string xa, .string xb, .int .i64 xn] 49)).cell? ⟨wr.heap.size, 0, none⟩ = some (.string xa) := by simp
        have f1 : (wr.alloc (.cells #[.string xa, .string xb, .int .i64 xn] 49)).cell? ⟨wr.heap.size, 1, none⟩ = some (.string xb) := by simp
        have f2 : (wr.alloc (.cells #[.string xa, .string xb, .int .i64 xn] 49)).cell? ⟨wr.heap.size, 2, none⟩ = some (.int .i64 xn) := by simp
        have CN0 := fun wx => iFileName_any xa wx
        have CK0 := fun wx => in_any xn 0 xb.size wx
        have HB2 := Lib.hid hb2
        have i0 : (0 : Int) ≤ (k : Int) := Int.natCast_nonneg _
        clear hx hb hb2
        by_cases hn : 1 ≤ (xa.size : Int) ∧ (xa.size : Int) ≤ 8
        · rw [within_yes hn] at CN0
          have hn' : 1 ≤ xa.size ∧ xa.size ≤ 8 := by omega
          have Hn := Lib.hid hn'
          clear hn hn'
          by_cases ht : xb.size ≤ 20000
          · have dt : decide ((20000 : Int) < (xb.size : Int)) = false := decide_eq_false (by omega)
            have Ht := Lib.hid ht
            clear ht
            by_cases hq : 0 ≤ xn ∧ xn ≤ (xb.size : Int)
            · rw [within_yes hq] at CK0
              have Hq := Lib.hid hq
              clear hq
              by_cases h0 : 0 < k
              · obtain ⟨y, hy⟩ : ∃ y, l[k - 1]? = some y := ⟨_, List.getElem?_eq_getElem (by omega)⟩
                obtain ⟨b', o', hao', hd1, _, _⟩ := (R.out _ HB2.out).at_ (k - 1) y hy
                rw [hao] at hao'
                cases hao'
                obtain ⟨ya, yb, yn⟩ := y
                simp only at hd1
                have Hy := Lib.hid hy
                clear hy
                have i1 : IntKind.i64.wrap ((k : Int) - 1) = (k : Int) - 1 := IntWalk.i64_in _ ⟨by omega, by omega⟩
                have i2 : ((k : Int) - 1).toNat = k - 1 := by omega
                have i3 : (0 : Int) ≤ (k : Int) - 1 := by omega
                have i4 : (k : Int) - 1 < (l.length : Int) := by omega
                have i5 : decide ((0 : Int) < (k : Int)) = true := decide_eq_true (by omega)
                have i6 : decide (0 < k) = true := decide_eq_true h0
                have H0 := Lib.hid h0
                cases hbl : Op.bytesLess ya.toList xa.toList
                · have HE := Lib.hid (bad_order Hx.out H0.out Hy.out hbl)
                  have CN := Lib.hid CN0
                  have CK := Lib.hid CK0
                  clear CN0 CK0
                  subst hao
                  go_wp2_with fail
                  generalize wr.alloc (.cells #[.string xa, .string xb, .int .i64 xn] 49) = W2 at *
                  go_quiet ((first | (go_at_call 66; exact quiet_eq (CN.out _)) | (go_at_call 67; exact quiet_eq (CK.out _))))
                  go_wp2_with fail
                  go_ret
                  exact ⟨by rw [HE.out]; rfl, HB.out.trans ((bDrewN HB2.out _).mono (Nat.le_succ _))⟩
                · have HP2 := Lib.hid (part_next Hx.out HP.out ⟨Hn.out, Ht.out, Hq.out⟩ (fun z _ hz => by rw [Hy.out] at hz; cases hz; exact hbl))
                  have CN := Lib.hid CN0
                  have CK := Lib.hid CK0
                  clear CN0 CK0
                  subst hao
                  go_wp2_with fail
                  generalize wr.alloc (.cells #[.string xa, .string xb, .int .i64 xn] 49) = W2 at *
                  go_quiet ((first | (go_at_call 66; exact quiet_eq (CN.out _)) | (go_at_call 67; exact quiet_eq (CK.out _))))
                  go_wp2_with fail
                  exact ⟨⟨k + 1, by omega, by go_num, HP2, bDrewN HB2.out _⟩, by simp [intOf]; omega⟩
              · have i5 : decide ((0 : Int) < (k : Int)) = false := decide_eq_false (by omega)
                have i6 : decide (0 < k) = false := decide_eq_false h0
                have HP2 := Lib.hid (part_next Hx.out HP.out ⟨Hn.out, Ht.out, Hq.out⟩ (fun z hz => absurd hz h0))
                clear h0
                have CN := Lib.hid CN0
                have CK := Lib.hid CK0
                clear CN0 CK0
                subst hao
                go_wp2_with fail
                generalize wr.alloc (.cells #[.string xa, .string xb, .int .i64 xn] 49) = W2 at *
                go_quiet ((first | (go_at_call 66; exact quiet_eq (CN.out _)) | (go_at_call 67; exact quiet_eq (CK.out _))))
                go_wp2_with fail
                exact ⟨⟨k + 1, by omega, by go_num, HP2, bDrewN HB2.out _⟩, by simp [intOf]; omega⟩
            · rw [within_not hq] at CK0
              have HE := Lib.hid (bad_file Hx.out (fun h : FileGood (xa, xb, xn) => hq h.2.2))
              clear hq
              have CN := Lib.hid CN0
              have CK := Lib.hid CK0
              clear CN0 CK0
              subst hao
              go_wp2_with fail
              generalize wr.alloc (.cells #[.string xa, .string xb, .int .i64 xn] 49) = W2 at *
              go_quiet ((first | (go_at_call 66; exact quiet_eq (CN.out _)) | (go_at_call 67; exact quiet_eq (CK.out _))))
              go_wp2_with fail
              go_ret
              exact ⟨by rw [HE.out]; rfl, HB.out.trans ((bDrewN HB2.out _).mono (Nat.le_succ _))⟩
          · have dt : decide ((20000 : Int) < (xb.size : Int)) = true := decide_eq_true (by omega)
            have HE := Lib.hid (bad_file Hx.out (fun h : FileGood (xa, xb, xn) => ht h.2.1))
            clear ht
            have CN := Lib.hid CN0
            have CK := Lib.hid CK0
            clear CN0 CK0
            subst hao
            go_wp2_with fail
            generalize wr.alloc (.cells #[.string xa, .string xb, .int .i64 xn] 49) = W2 at *
            go_quiet ((first | (go_at_call 66; exact quiet_eq (CN.out _)) | (go_at_call 67; exact quiet_eq (CK.out _))))
            go_wp2_with fail
            go_ret
            exact ⟨by rw [HE.out]; rfl, HB.out.trans ((bDrewN HB2.out _).mono (Nat.le_succ _))⟩
        · rw [within_not hn] at CN0
          have HE := Lib.hid (bad_file Hx.out (fun h : FileGood (xa, xb, xn) => hn (by have := h.1; simp only at this; omega)))
          clear hn
          have CN := Lib.hid CN0
          have CK := Lib.hid CK0
          clear CN0 CK0
          subst hao
          go_wp2_with fail
          generalize wr.alloc (.cells #[.string xa, .string xb, .int .i64 xn] 49) = W2 at *
          go_quiet ((first | (go_at_call 66; exact quiet_eq (CN.out _)) | (go_at_call 67; exact quiet_eq (CK.out _))))
          go_wp2_with fail
          go_ret
          exact ⟨by rw [HE.out]; rfl, HB.out.trans ((bDrewN HB2.out _).mono (Nat.le_succ _))⟩
      · obtain rfl : k = l.length := by omega
        have HE := Lib.hid (G30.out HP.out)
        have HF := Lib.hid (HB.out.trans (hb.mono (Nat.le_succ _)))
        clear hb
        go_wp2_with fail
        go_ret
        exact ⟨by rw [HE.out]; rfl, HF.out⟩

theorem iDiskOk_any (v : Value) (l : List Fl) (w : World) (hl : l.length ≤ 1048576) (hs : ∀ x ∈ l, x.1.size ≤ 1048576 ∧ x.2.1.size ≤ 1048576) (h : RdK w v l) :
    Calls Try.prog 18 #[v] w fun e w' => e = .returned (.bool (decide (DiskGood l))) ∧ Below w.heap.size w w' :=
  iDiskOk_big v l w hl (fun x hx => ⟨by have := (hs x hx).1; omega, by have := (hs x hx).2; omega⟩) h

set_option maxHeartbeats 4000000 in
set_option maxRecDepth 100000 in
theorem sDiskOk_big (v : Value) (l : List Fl) (w : World) (hl : l.length ≤ 1048576) (hs : ∀ x ∈ l, x.1.size ≤ 2097152 ∧ x.2.1.size ≤ 2097152) (h : RdK w v l) :
    Calls Try.prog 16 #[v] w fun e w' => e = .returned (.bool (decide (DiskGood l))) ∧ Below w.heap.size w w' := by
  obtain ⟨ao, cap, rfl, hr⟩ := h
  have hB := (Below.refl w.heap.size w).alloc (Nat.le_refl _) (.cells #[.slice ao l.length cap] 29)
  have hz := alloc_size w (.cells #[.slice ao l.length cap] 29)
  have k0 : ∀ W, Below (w.heap.size + 1) (w.alloc (.cells #[.slice ao l.length cap] 29)) W → W.cell? ⟨w.heap.size, 0, none⟩ = some (.slice ao l.length cap) := by
    intro W hW
    refine (hW.cell (by simp)).trans ?_
    simp
  have R := Lib.hid (fun W hW => (hr.below hB (Nat.le_refl _)).below (C := w.heap.size + 1) (w' := W) hW (by rw [hz]; exact Nat.le_refl _))
  have HB := Lib.hid hB
  have HZ := Lib.hid hz
  have K0 := Lib.hid k0
  have HS := Lib.hid hs
  clear hr hB hz k0 hs
  by_cases h30 : l.length ≤ 30
  · have G30 : Hid (∀ h : PartGood l l.length, decide (DiskGood l) = true) := Lib.hid (fun h => by rw [good_all h]; exact decide_eq_true (by omega))
    have hd30 : decide ((30 : Int) < (l.length : Int)) = false := decide_eq_false (by omega)
    clear h30
    go_enter Try.func16, Try.ntmps16
    go_wp2_with fail
    generalize w.alloc (.cells #[.slice ao l.length cap] 29) = W1 at *
    go_loopw [3] (fun i wr => ∃ k : Nat, k ≤ l.length ∧ i = .int .i64 k ∧ Hid (PartGood l k) ∧ Below (w.heap.size + 1) W1 wr) (fun i _ => l.length - (intOf i).toNat)
    case atStart => exact ⟨0, Nat.zero_le _, rfl, Lib.hid (part_zero l), Below.refl _ _⟩
    case round =>
      obtain ⟨k, hk, rfl, HP, hb⟩ := hrel
      have hbs := hb.size
      rw [HZ.out] at hbs
      have c0 := K0.out wr hb
      by_cases hlt : k < l.length
      · obtain ⟨x, hx⟩ : ∃ x, l[k]? = some x := ⟨_, List.getElem?_eq_getElem hlt⟩
        obtain ⟨b, o, hao, hc1, hc2, hc3⟩ := (R.out wr hb).at_ k x hx
        have hxs := HS.out x (List.mem_of_getElem? hx)
        have Hx := Lib.hid hx
        obtain ⟨xa, xb, xn⟩ := x
        simp only at hc1 hc2 hc3 hxs
        have hb2 := hb.alloc hbs (.cells #[.string xa, .string xb, .int .i64 xn] 49)
        have d0 := K0.out _ hb2
        have f0 : (wr.alloc (.cells #[.string xa, .string xb, .int .i64 xn] 49)).cell? ⟨wr.heap.size, 0, none⟩ = some (.string xa) := by simp
        have f1 : (wr.alloc (.cells #[.string xa, .string xb, .int .i64 xn] 49)).cell? ⟨wr.heap.size, 1, none⟩ = some (.string xb) := by simp
        have f2 : (wr.alloc (.cells #[.string xa, .string xb, .int .i64 xn] 49)).cell? ⟨wr.heap.size, 2, none⟩ = some (.int .i64 xn) := by simp
        have CN0 := fun wx => sFileName_any xa wx
        have CK0 := fun wx => l01In_any xn 0 xb.size wx
        have HB2 := Lib.hid hb2
        have i0 : (0 : Int) ≤ (k : Int) := Int.natCast_nonneg _
        clear hx hb hb2
        by_cases hn : 1 ≤ (xa.size : Int) ∧ (xa.size : Int) ≤ 8
        · rw [within_yes hn] at CN0
          have hn' : 1 ≤ xa.size ∧ xa.size ≤ 8 := by omega
          have Hn := Lib.hid hn'
          clear hn hn'
          by_cases ht : xb.size ≤ 20000
          · have dt : decide ((20000 : Int) < (xb.size : Int)) = false := decide_eq_false (by omega)
            have Ht := Lib.hid ht
            clear ht
            by_cases hq : 0 ≤ xn ∧ xn ≤ (xb.size : Int)
            · rw [within_yes hq] at CK0
              have Hq := Lib.hid hq
              clear hq
              by_cases h0 : 0 < k
              · obtain ⟨y, hy⟩ : ∃ y, l[k - 1]? = some y := ⟨_, List.getElem?_eq_getElem (by omega)⟩
                obtain ⟨b', o', hao', hd1, _, _⟩ := (R.out _ HB2.out).at_ (k - 1) y hy
                rw [hao] at hao'
                cases hao'
                obtain ⟨ya, yb, yn⟩ := y
                simp only at hd1
                have Hy := Lib.hid hy
                clear hy
                have i1 : IntKind.i64.wrap ((k : Int) - 1) = (k : Int) - 1 := IntWalk.i64_in _ ⟨by omega, by omega⟩
                have i2 : ((k : Int) - 1).toNat = k - 1 := by omega
                have i3 : (0 : Int) ≤ (k : Int) - 1 := by omega
                have i4 : (k : Int) - 1 < (l.length : Int) := by omega
                have i5 : decide ((0 : Int) < (k : Int)) = true := decide_eq_true (by omega)
                have i6 : decide (0 < k) = true := decide_eq_true h0
                have H0 := Lib.hid h0
                cases hbl : Op.bytesLess ya.toList xa.toList
                · have HE := Lib.hid (bad_order Hx.out H0.out Hy.out hbl)
                  have CN := Lib.hid CN0
                  have CK := Lib.hid CK0
                  clear CN0 CK0
                  subst hao
                  go_wp2_with fail
                  generalize wr.alloc (.cells #[.string xa, .string xb, .int .i64 xn] 49) = W2 at *
                  go_quiet ((first | (go_at_call 63; exact quiet_eq (CN.out _)) | (go_at_call 64; exact quiet_eq (CK.out _))))
                  go_wp2_with fail
                  go_ret
                  exact ⟨by rw [HE.out]; rfl, HB.out.trans ((bDrewN HB2.out _).mono (Nat.le_succ _))⟩
                · have HP2 := Lib.hid (part_next Hx.out HP.out ⟨Hn.out, Ht.out, Hq.out⟩ (fun z _ hz => by rw [Hy.out] at hz; cases hz; exact hbl))
                  have CN := Lib.hid CN0
                  have CK := Lib.hid CK0
                  clear CN0 CK0
                  subst hao
                  go_wp2_with fail
                  generalize wr.alloc (.cells #[.string xa, .string xb, .int .i64 xn] 49) = W2 at *
                  go_quiet ((first | (go_at_call 63; exact quiet_eq (CN.out _)) | (go_at_call 64; exact quiet_eq (CK.out _))))
                  go_wp2_with fail
                  exact ⟨⟨k + 1, by omega, by go_num, HP2, bDrewN HB2.out _⟩, by simp [intOf]; omega⟩
              · have i5 : decide ((0 : Int) < (k : Int)) = false := decide_eq_false (by omega)
                have i6 : decide (0 < k) = false := decide_eq_false h0
                have HP2 := Lib.hid (part_next Hx.out HP.out ⟨Hn.out, Ht.out, Hq.out⟩ (fun z hz => absurd hz h0))
                clear h0
                have CN := Lib.hid CN0
                have CK := Lib.hid CK0
                clear CN0 CK0
                subst hao
                go_wp2_with fail
                generalize wr.alloc (.cells #[.string xa, .string xb, .int .i64 xn] 49) = W2 at *
                go_quiet ((first | (go_at_call 63; exact quiet_eq (CN.out _)) | (go_at_call 64; exact quiet_eq (CK.out _))))
                go_wp2_with fail
                exact ⟨⟨k + 1, by omega, by go_num, HP2, bDrewN HB2.out _⟩, by simp [intOf]; omega⟩
            · rw [within_not hq] at CK0
              have HE := Lib.hid (bad_file Hx.out (fun h : FileGood (xa, xb, xn) => hq h.2.2))
              clear hq
              have CN := Lib.hid CN0
              have CK := Lib.hid CK0
              clear CN0 CK0
              subst hao
              go_wp2_with fail
              generalize wr.alloc (.cells #[.string xa, .string xb, .int .i64 xn] 49) = W2 at *
              go_quiet ((first | (go_at_call 63; exact quiet_eq (CN.out _)) | (go_at_call 64; exact quiet_eq (CK.out _))))
              go_wp2_with fail
              go_ret
              exact ⟨by rw [HE.out]; rfl, HB.out.trans ((bDrewN HB2.out _).mono (Nat.le_succ _))⟩
          · have dt : decide ((20000 : Int) < (xb.size : Int)) = true := decide_eq_true (by omega)
            have HE := Lib.hid (bad_file Hx.out (fun h : FileGood (xa, xb, xn) => ht h.2.1))
            clear ht
            have CN := Lib.hid CN0
            have CK := Lib.hid CK0
            clear CN0 CK0
            subst hao
            go_wp2_with fail
            generalize wr.alloc (.cells #[.string xa, .string xb, .int .i64 xn] 49) = W2 at *
            go_quiet ((first | (go_at_call 63; exact quiet_eq (CN.out _)) | (go_at_call 64; exact quiet_eq (CK.out _))))
            go_wp2_with fail
            go_ret
            exact ⟨by rw [HE.out]; rfl, HB.out.trans ((bDrewN HB2.out _).mono (Nat.le_succ _))⟩
        · rw [within_not hn] at CN0
          have HE := Lib.hid (bad_file Hx.out (fun h : FileGood (xa, xb, xn) => hn (by have := h.1; simp only at this; omega)))
          clear hn
          have CN := Lib.hid CN0
          have CK := Lib.hid CK0
          clear CN0 CK0
          subst hao
          go_wp2_with fail
          generalize wr.alloc (.cells #[.string xa, .string xb, .int .i64 xn] 49) = W2 at *
          go_quiet ((first | (go_at_call 63; exact quiet_eq (CN.out _)) | (go_at_call 64; exact quiet_eq (CK.out _))))
          go_wp2_with fail
          go_ret
          exact ⟨by rw [HE.out]; rfl, HB.out.trans ((bDrewN HB2.out _).mono (Nat.le_succ _))⟩
      · obtain rfl : k = l.length := by omega
        have HE := Lib.hid (G30.out HP.out)
        have HF := Lib.hid (HB.out.trans (hb.mono (Nat.le_succ _)))
        clear hb
        go_wp2_with fail
        go_ret
        exact ⟨by rw [HE.out]; rfl, HF.out⟩
  · have HE : Hid (decide (DiskGood l) = false) := Lib.hid (decide_eq_false (fun h : DiskGood l => h30 h.1))
    have hd30 : (30 : Int) < (l.length : Int) := by omega
    clear h30
    go_enter Try.func16, Try.ntmps16
    go_wp2_with fail
    go_ret
    exact ⟨by rw [HE.out]; rfl, HB.out⟩

theorem sDiskOk_any (v : Value) (l : List Fl) (w : World) (hl : l.length ≤ 1048576) (hs : ∀ x ∈ l, x.1.size ≤ 1048576 ∧ x.2.1.size ≤ 1048576) (h : RdK w v l) :
    Calls Try.prog 16 #[v] w fun e w' => e = .returned (.bool (decide (DiskGood l))) ∧ Below w.heap.size w w' :=
  sDiskOk_big v l w hl (fun x hx => ⟨by have := (hs x hx).1; omega, by have := (hs x hx).2; omega⟩) h

end Go.Proofs.Ytdecehecjlbbiaa
