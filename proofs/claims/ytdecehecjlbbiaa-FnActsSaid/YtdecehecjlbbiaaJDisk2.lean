/-
  The walks of a file's place, of its text, and of the test that all is durable, on both sides.
-/
import Derived.Test.YtdecehecjlbbiaaJDisk1
namespace Go.Proofs.Ytdecehecjlbbiaa
open Go.RowKit

theorem posV_some {l : List Fl} {n : ByteArray} {k : Nat} (h : posF l n = some k) : posV l n = k := by unfold posV; rw [h]
theorem posV_none {l : List Fl} {n : ByteArray} (h : posF l n = none) : posV l n = -1 := by unfold posV; rw [h]
/-- A file's text, if it is there. -/
def textV (l : List Fl) (n : ByteArray) : ByteArray × Bool := match posF l n with
  | some k => ((l.getD k (ByteArray.empty, ByteArray.empty, 0)).2.1, true)
  | none => (⟨#[]⟩, false)
theorem textV_some {l : List Fl} {n : ByteArray} {k : Nat} {x : Fl} (h : posF l n = some k) (hx : l[k]? = some x) : textV l n = (x.2.1, true) := by
  unfold textV; rw [h]; simp only; rw [List.getD_eq_getElem?_getD, hx]; rfl
theorem textV_none {l : List Fl} {n : ByteArray} (h : posF l n = none) : textV l n = (⟨#[]⟩, false) := by unfold textV; rw [h]
theorem name_ne {a n : ByteArray} (h : ¬ a = n) : (a.toList == n.toList) = false := by rw [same_bytes]; simp; exact fun h2 => h (ByteArray.ext h2)

set_option maxHeartbeats 1000000 in
theorem iAt_any (v : Value) (l : List Fl) (n : ByteArray) (w : World) (hl : l.length ≤ 1048576) (h : RdK w v l) :
    Calls Try.prog 70 #[v, .string n] w fun e w' => e = .returned (.int .i64 (posV l n)) ∧ Below w.heap.size w w' := by
  obtain ⟨ao, cap, rfl, hr⟩ := h
  have hB := (Below.refl w.heap.size w).alloc (Nat.le_refl _) (.cells #[.slice ao l.length cap] 29)
  have hz := alloc_size w (.cells #[.slice ao l.length cap] 29)
  have R := Lib.hid (fun W hW => (hr.below hB (Nat.le_refl _)).below (C := w.heap.size + 1) (w' := W) hW (by rw [hz]; exact Nat.le_refl _))
  have HB := Lib.hid hB
  have HZ := Lib.hid hz
  clear hr hB hz
  go_enter Try.func70, Try.ntmps70
  go_wp2_with fail
  generalize w.alloc (.cells #[.slice ao l.length cap] 29) = W1 at *
  go_loopw [10] (fun i wr => ∃ k : Nat, k ≤ l.length ∧ i = .int .i64 k ∧ Hid (∀ y ∈ l.take k, y.1 ≠ n) ∧ Below (w.heap.size + 1) W1 wr) (fun i _ => l.length - (intOf i).toNat)
  case atStart => exact ⟨0, Nat.zero_le _, rfl, Lib.hid (by intro y hy; simp at hy), Below.refl _ _⟩
  case round =>
    obtain ⟨k, hk, rfl, HP, hb⟩ := hrel
    have hbs := hb.size
    rw [HZ.out] at hbs
    by_cases hlt : k < l.length
    · obtain ⟨x, hx⟩ : ∃ x, l[k]? = some x := ⟨_, List.getElem?_eq_getElem hlt⟩
      obtain ⟨b, o, rfl, hc1, hc2, hc3⟩ := (R.out wr hb).at_ k x hx
      have Hx := Lib.hid hx
      obtain ⟨xa, xb, xn⟩ := x
      simp only at hc1 hc2 hc3
      have HB2 := Lib.hid (hb.alloc hbs (.cells #[.string xa, .string xb, .int .i64 xn] 49))
      clear hx
      by_cases hn : xa = n
      · have e1 : (xa.toList == n.toList) = true := by rw [hn]; exact beq_self_eq_true _
        have HE := Lib.hid (posV_some (posF_yes Hx.out HP.out hn))
        clear hn
        go_wp2_with fail
        go_ret
        exact ⟨by rw [HE.out]; rfl, HB.out.trans (HB2.out.mono (Nat.le_succ _))⟩
      · have e1 := name_ne hn
        have HE := Lib.hid (fl_all (p := fun y => y.1 ≠ n) Hx.out HP.out hn)
        clear hn
        go_wp2_with fail
        exact ⟨⟨k + 1, by omega, by go_num, HE, HB2.out⟩, by simp [intOf]; omega⟩
    · obtain rfl : k = l.length := by omega
      have HE := Lib.hid (posV_none (posF_no (n := n) (by have := HP.out; rwa [List.take_length] at this)))
      have HF := Lib.hid (HB.out.trans (hb.mono (Nat.le_succ _)))
      clear hb
      go_wp2_with fail
      go_ret
      exact ⟨by rw [HE.out]; rfl, HF.out⟩

set_option maxHeartbeats 1000000 in
theorem sAt_any (v : Value) (l : List Fl) (n : ByteArray) (w : World) (hl : l.length ≤ 1048576) (h : RdK w v l) :
    Calls Try.prog 69 #[v, .string n] w fun e w' => e = .returned (.int .i64 (posV l n)) ∧ Below w.heap.size w w' := by
  obtain ⟨ao, cap, rfl, hr⟩ := h
  have hB := (Below.refl w.heap.size w).alloc (Nat.le_refl _) (.cells #[.slice ao l.length cap] 29)
  have R := Lib.hid (hr.below hB (Nat.le_refl _))
  have c0 : (w.alloc (.cells #[.slice ao l.length cap] 29)).cell? ⟨w.heap.size, 0, none⟩ = some (.slice ao l.length cap) := by simp
  have HB := Lib.hid hB
  clear hr hB
  go_enter Try.func69, Try.ntmps69
  go_wp2_with fail
  generalize w.alloc (.cells #[.slice ao l.length cap] 29) = W1 at *
  go_loop [5] (fun i => ∃ k : Nat, k ≤ l.length ∧ i = .int .i64 k ∧ Hid (∀ y ∈ l.take k, y.1 ≠ n)) (fun i => l.length - (intOf i).toNat)
  case atStart => exact ⟨0, Nat.zero_le _, rfl, Lib.hid (by intro y hy; simp at hy)⟩
  case round =>
    obtain ⟨k, hk, rfl, HP⟩ := hrel
    by_cases hlt : k < l.length
    · obtain ⟨x, hx⟩ : ∃ x, l[k]? = some x := ⟨_, List.getElem?_eq_getElem hlt⟩
      obtain ⟨b, o, rfl, hc1, hc2, hc3⟩ := R.out.at_ k x hx
      have Hx := Lib.hid hx
      obtain ⟨xa, xb, xn⟩ := x
      simp only at hc1 hc2 hc3
      clear hx
      by_cases hn : xa = n
      · have e1 : (xa.toList == n.toList) = true := by rw [hn]; exact beq_self_eq_true _
        have HE := Lib.hid (posV_some (posF_yes Hx.out HP.out hn))
        clear hn
        go_wp2_with fail
        go_ret
        exact ⟨by rw [HE.out]; rfl, HB.out⟩
      · have e1 := name_ne hn
        have HE := Lib.hid (fl_all (p := fun y => y.1 ≠ n) Hx.out HP.out hn)
        clear hn
        go_wp2_with fail
        exact ⟨⟨k + 1, by omega, by go_num, HE⟩, by simp [intOf]; omega⟩
    · obtain rfl : k = l.length := by omega
      have HE := Lib.hid (posV_none (posF_no (n := n) (by have := HP.out; rwa [List.take_length] at this)))
      go_wp2_with fail
      go_ret
      exact ⟨by rw [HE.out]; rfl, HB.out⟩

set_option maxHeartbeats 1000000 in
theorem iFileAt_any (v : Value) (l : List Fl) (n : ByteArray) (w : World) (hl : l.length ≤ 1048576) (h : RdK w v l) :
    Calls Try.prog 21 #[v, .string n] w fun e w' => e = .returned (.tuple #[.string (textV l n).1, .bool (textV l n).2]) ∧ Below w.heap.size w w' := by
  obtain ⟨ao, cap, rfl, hr⟩ := h
  have hB := (Below.refl w.heap.size w).alloc (Nat.le_refl _) (.cells #[.slice ao l.length cap] 29)
  have hz := alloc_size w (.cells #[.slice ao l.length cap] 29)
  have R := Lib.hid (fun W hW => (hr.below hB (Nat.le_refl _)).below (C := w.heap.size + 1) (w' := W) hW (by rw [hz]; exact Nat.le_refl _))
  have C := Lib.hid (iAt_any _ l n _ hl ⟨ao, cap, rfl, hr.below hB (Nat.le_refl _)⟩)
  have K0 : Hid (∀ W, Below (w.heap.size + 1) (w.alloc (.cells #[.slice ao l.length cap] 29)) W → W.cell? ⟨w.heap.size, 0, none⟩ = some (.slice ao l.length cap)) := Lib.hid (by
    intro W hW
    refine (hW.cell (by simp)).trans ?_
    simp)
  have HB := Lib.hid hB
  have HZ := Lib.hid hz
  clear hr hB hz
  cases hp : posF l n with
  | none =>
    have HV := Lib.hid (textV_none hp)
    have HE := posV_none hp
    rw [HE] at C
    clear HE hp
    go_enter Try.func21, Try.ntmps21
    go_wp2_with fail
    refine C.out.mono ?_
    rintro e w1 ⟨rfl, hb1⟩
    have HF := Lib.hid (HB.out.trans (hb1.mono HB.out.size))
    clear hb1
    go_wp2_with fail
    go_ret2
    exact ⟨by rw [HV.out]; rfl, HF.out⟩
  | some k =>
    obtain ⟨x, hx, -⟩ := posF_some hp
    have HV := Lib.hid (textV_some hp hx)
    have HE := posV_some hp
    rw [HE] at C
    have hk := (List.getElem?_eq_some_iff.1 hx).1
    have Hx := Lib.hid hx
    clear HE hp hx
    go_enter Try.func21, Try.ntmps21
    go_wp2_with fail
    refine C.out.mono ?_
    rintro e w1 ⟨rfl, hb1⟩
    rw [HZ.out] at hb1
    have c0 := K0.out _ hb1
    obtain ⟨b, o, rfl, hc1, hc2, hc3⟩ := (R.out _ hb1).at_ k x Hx.out
    have HF := Lib.hid (HB.out.trans (hb1.mono (Nat.le_succ _)))
    clear hb1
    go_wp2_with fail
    go_ret2
    exact ⟨by rw [HV.out]; rfl, HF.out⟩

set_option maxHeartbeats 1000000 in
theorem sFileAt_any (v : Value) (l : List Fl) (n : ByteArray) (w : World) (hl : l.length ≤ 1048576) (h : RdK w v l) :
    Calls Try.prog 20 #[v, .string n] w fun e w' => e = .returned (.tuple #[.string (textV l n).1, .bool (textV l n).2]) ∧ Below w.heap.size w w' := by
  obtain ⟨ao, cap, rfl, hr⟩ := h
  have hB := (Below.refl w.heap.size w).alloc (Nat.le_refl _) (.cells #[.slice ao l.length cap] 29)
  have hz := alloc_size w (.cells #[.slice ao l.length cap] 29)
  have R := Lib.hid (fun W hW => (hr.below hB (Nat.le_refl _)).below (C := w.heap.size + 1) (w' := W) hW (by rw [hz]; exact Nat.le_refl _))
  have C := Lib.hid (sAt_any _ l n _ hl ⟨ao, cap, rfl, hr.below hB (Nat.le_refl _)⟩)
  have K0 : Hid (∀ W, Below (w.heap.size + 1) (w.alloc (.cells #[.slice ao l.length cap] 29)) W → W.cell? ⟨w.heap.size, 0, none⟩ = some (.slice ao l.length cap)) := Lib.hid (by
    intro W hW
    refine (hW.cell (by simp)).trans ?_
    simp)
  have HB := Lib.hid hB
  have HZ := Lib.hid hz
  clear hr hB hz
  cases hp : posF l n with
  | none =>
    have HV := Lib.hid (textV_none hp)
    have HE := posV_none hp
    rw [HE] at C
    clear HE hp
    go_enter Try.func20, Try.ntmps20
    go_wp2_with fail
    refine C.out.mono ?_
    rintro e w1 ⟨rfl, hb1⟩
    have HF := Lib.hid (HB.out.trans (hb1.mono HB.out.size))
    clear hb1
    go_wp2_with fail
    go_ret2
    exact ⟨by rw [HV.out]; rfl, HF.out⟩
  | some k =>
    obtain ⟨x, hx, -⟩ := posF_some hp
    have HV := Lib.hid (textV_some hp hx)
    have HE := posV_some hp
    rw [HE] at C
    have hk := (List.getElem?_eq_some_iff.1 hx).1
    have Hx := Lib.hid hx
    clear HE hp hx
    go_enter Try.func20, Try.ntmps20
    go_wp2_with fail
    refine C.out.mono ?_
    rintro e w1 ⟨rfl, hb1⟩
    rw [HZ.out] at hb1
    have c0 := K0.out _ hb1
    obtain ⟨b, o, rfl, hc1, hc2, hc3⟩ := (R.out _ hb1).at_ k x Hx.out
    have HF := Lib.hid (HB.out.trans (hb1.mono (Nat.le_succ _)))
    clear hb1
    go_wp2_with fail
    go_ret2
    exact ⟨by rw [HV.out]; rfl, HF.out⟩

theorem allK_no {l : List Fl} {k : Nat} {x : Fl} (hx : l[k]? = some x) (h : ¬ x.2.2 = x.2.1.size) : decide (AllK l) = false :=
  decide_eq_false (fun h2 : AllK l => h (h2.2 x (List.mem_of_getElem? hx)))
theorem allK_good {l : List Fl} (h : ∀ x ∈ l, x.2.2 = (x.2.1.size : Int)) : decide (AllK l) = decide (DiskGood l) := by
  by_cases hg : DiskGood l
  · rw [decide_eq_true hg]; exact decide_eq_true ⟨hg, h⟩
  · rw [decide_eq_false hg]; exact decide_eq_false (fun h2 : AllK l => hg h2.1)
theorem allK_bad {l : List Fl} (h : ¬ DiskGood l) : decide (AllK l) = false := decide_eq_false (fun h2 : AllK l => h h2.1)
set_option maxHeartbeats 1000000 in
theorem iAllKept_any (v : Value) (l : List Fl) (w : World) (hl : l.length ≤ 1048576) (hs : ∀ x ∈ l, x.1.size ≤ 1048576 ∧ x.2.1.size ≤ 1048576) (h : RdK w v l) :
    Calls Try.prog 23 #[v] w fun e w' => e = .returned (.bool (decide (AllK l))) ∧ Below w.heap.size w w' := by
  obtain ⟨ao, cap, rfl, hr⟩ := h
  have hB := (Below.refl w.heap.size w).alloc (Nat.le_refl _) (.cells #[.slice ao l.length cap] 29)
  have hz := alloc_size w (.cells #[.slice ao l.length cap] 29)
  have R := Lib.hid (fun W hW => (hr.below hB (Nat.le_refl _)).below (C := w.heap.size + 1) (w' := W) hW (by rw [hz]; exact Nat.le_refl _))
  have CD := Lib.hid (fun W h => iDiskOk_any (.agg #[.slice ao l.length cap]) l W hl hs h)
  have K0 : Hid (∀ W, Below (w.heap.size + 1) (w.alloc (.cells #[.slice ao l.length cap] 29)) W → W.cell? ⟨w.heap.size, 0, none⟩ = some (.slice ao l.length cap)) := Lib.hid (by
    intro W hW
    refine (hW.cell (by simp)).trans ?_
    simp)
  have HB := Lib.hid hB
  have HZ := Lib.hid hz
  have HS := Lib.hid hs
  clear hr hB hz hs
  go_enter Try.func23, Try.ntmps23
  go_wp2_with fail
  generalize w.alloc (.cells #[.slice ao l.length cap] 29) = W1 at *
  go_loopw [8] (fun i wr => ∃ k : Nat, k ≤ l.length ∧ i = .int .i64 k ∧ Hid (∀ y ∈ l.take k, y.2.2 = (y.2.1.size : Int)) ∧ Below (w.heap.size + 1) W1 wr) (fun i _ => l.length - (intOf i).toNat)
  case atStart => exact ⟨0, Nat.zero_le _, rfl, Lib.hid (by intro y hy; simp at hy), Below.refl _ _⟩
  case round =>
    obtain ⟨k, hk, rfl, HP, hb⟩ := hrel
    have hbs := hb.size
    rw [HZ.out] at hbs
    by_cases hlt : k < l.length
    · obtain ⟨x, hx⟩ : ∃ x, l[k]? = some x := ⟨_, List.getElem?_eq_getElem hlt⟩
      obtain ⟨b, o, hao, hc1, hc2, hc3⟩ := (R.out wr hb).at_ k x hx
      have hxs := (HS.out x (List.mem_of_getElem? hx)).2
      have Hx := Lib.hid hx
      obtain ⟨xa, xb, xn⟩ := x
      simp only at hc1 hc2 hc3 hxs
      have HB2 := Lib.hid (hb.alloc hbs (.cells #[.string xa, .string xb, .int .i64 xn] 49))
      subst hao
      clear hx
      by_cases hn : xn = (xb.size : Int)
      · have e1 : (xn != (xb.size : Int)) = false := by rw [bne_eq_false_iff_eq]; exact hn
        have HE := Lib.hid (fl_all (p := fun y => y.2.2 = (y.2.1.size : Int)) Hx.out HP.out hn)
        clear hn
        go_wp2_with fail
        exact ⟨⟨k + 1, by omega, by go_num, HE, HB2.out⟩, by simp [intOf]; omega⟩
      · have e1 : (xn != (xb.size : Int)) = true := by rw [bne_iff_ne]; exact hn
        have HE := Lib.hid (allK_no Hx.out hn)
        clear hn
        go_wp2_with fail
        go_ret
        exact ⟨by rw [HE.out]; rfl, HB.out.trans (HB2.out.mono (Nat.le_succ _))⟩
    · obtain rfl : k = l.length := by omega
      have HE := Lib.hid (allK_good (by have := HP.out; rwa [List.take_length] at this))
      have HF := Lib.hid (HB.out.trans (hb.mono (Nat.le_succ _)))
      have c0 := K0.out _ hb
      have C := Lib.hid (CD.out _ ⟨ao, cap, rfl, R.out _ hb⟩)
      clear hb
      go_wp2_with fail
      refine C.out.mono ?_
      rintro e w1 ⟨rfl, hb1⟩
      have HG := Lib.hid (HF.out.trans (hb1.mono HF.out.size))
      clear hb1
      go_wp2_with fail
      go_ret
      exact ⟨by rw [HE.out]; rfl, HG.out⟩

set_option maxHeartbeats 1000000 in
theorem sAllKept_any (v : Value) (l : List Fl) (w : World) (hl : l.length ≤ 1048576) (hs : ∀ x ∈ l, x.1.size ≤ 1048576 ∧ x.2.1.size ≤ 1048576) (h : RdK w v l) :
    Calls Try.prog 22 #[v] w fun e w' => e = .returned (.bool (decide (AllK l))) ∧ Below w.heap.size w w' := by
  obtain ⟨ao, cap, rfl, hr⟩ := h
  have hB := (Below.refl w.heap.size w).alloc (Nat.le_refl _) (.cells #[.slice ao l.length cap] 29)
  have hz := alloc_size w (.cells #[.slice ao l.length cap] 29)
  have R := Lib.hid (fun W hW => (hr.below hB (Nat.le_refl _)).below (C := w.heap.size + 1) (w' := W) hW (by rw [hz]; exact Nat.le_refl _))
  have CD := sDiskOk_any (.agg #[.slice ao l.length cap]) l _ hl hs ⟨ao, cap, rfl, hr.below hB (Nat.le_refl _)⟩
  have K0 : Hid (∀ W, Below (w.heap.size + 1) (w.alloc (.cells #[.slice ao l.length cap] 29)) W → W.cell? ⟨w.heap.size, 0, none⟩ = some (.slice ao l.length cap)) := Lib.hid (by
    intro W hW
    refine (hW.cell (by simp)).trans ?_
    simp)
  have HB := Lib.hid hB
  have HZ := Lib.hid hz
  have HS := Lib.hid hs
  clear hr hB hz hs
  by_cases hg : DiskGood l
  · rw [decide_eq_true hg] at CD
    have C := Lib.hid CD
    have HG := Lib.hid hg
    clear CD hg
    go_enter Try.func22, Try.ntmps22
    go_wp2_with fail
    refine C.out.mono ?_
    rintro e w1 ⟨rfl, hb1⟩
    rw [HZ.out] at hb1
    have c0 := K0.out _ hb1
    have HF := Lib.hid (HB.out.trans (hb1.mono (Nat.le_succ _)))
    have H1 := Lib.hid hb1
    clear hb1
    go_wp2_with fail
    generalize w.alloc (.cells #[.slice ao l.length cap] 29) = W1 at *
    clear c0
    go_loopw [3] (fun i wr => ∃ k : Nat, k ≤ l.length ∧ i = .int .i64 k ∧ Hid (∀ y ∈ l.take k, y.2.2 = (y.2.1.size : Int)) ∧ Below (w.heap.size + 1) W1 wr) (fun i _ => l.length - (intOf i).toNat)
    case atStart => exact ⟨0, Nat.zero_le _, rfl, Lib.hid (by intro y hy; simp at hy), H1.out⟩
    case round =>
      obtain ⟨k, hk, rfl, HP, hb⟩ := hrel
      have c0 := K0.out _ hb
      have HBr := Lib.hid hb
      by_cases hlt : k < l.length
      · obtain ⟨x, hx⟩ : ∃ x, l[k]? = some x := ⟨_, List.getElem?_eq_getElem hlt⟩
        obtain ⟨b, o, hao, hc1, hc2, hc3⟩ := (R.out _ hb).at_ k x hx
        have hxs := (HS.out x (List.mem_of_getElem? hx)).2
        have hgx := (HG.out.2.1 x (List.mem_of_getElem? hx)).2.2
        have Hx := Lib.hid hx
        obtain ⟨xa, xb, xn⟩ := x
        simp only at hc1 hc2 hc3 hxs hgx
        subst hao
        have i0 : (0 : Int) ≤ (k : Int) := Int.natCast_nonneg _
        have i1 : (k : Int) < (l.length : Int) := by omega
        clear hx hb
        by_cases hn : xn = (xb.size : Int)
        · have e1 : decide (xn < (xb.size : Int)) = false := decide_eq_false (by omega)
          have HE := Lib.hid (fl_all (p := fun y => y.2.2 = (y.2.1.size : Int)) Hx.out HP.out hn)
          clear hn hgx
          go_wp2_with fail
          go_quiet (fail)
          go_wp2_with fail
          exact ⟨⟨k + 1, by omega, by go_num, HE, bDrewN HBr.out _⟩, by simp [intOf]; omega⟩
        · have e1 : decide (xn < (xb.size : Int)) = true := decide_eq_true (by omega)
          have HE := Lib.hid (allK_no Hx.out hn)
          clear hn hgx
          go_wp2_with fail
          go_quiet (fail)
          go_wp2_with fail
          go_ret
          exact ⟨by rw [HE.out]; rfl, HB.out.trans ((bDrewN HBr.out _).mono (Nat.le_succ _))⟩
      · obtain rfl : k = l.length := by omega
        have HE : Hid (decide (AllK l) = true) := Lib.hid (decide_eq_true ⟨HG.out, by have := HP.out; rwa [List.take_length] at this⟩)
        clear hb
        go_wp2_with fail
        go_ret
        exact ⟨by rw [HE.out]; rfl, HB.out.trans (HBr.out.mono (Nat.le_succ _))⟩
  · rw [decide_eq_false hg] at CD
    have C := Lib.hid CD
    have HE := Lib.hid (allK_bad hg)
    clear CD hg
    go_enter Try.func22, Try.ntmps22
    go_wp2_with fail
    refine C.out.mono ?_
    rintro e w1 ⟨rfl, hb1⟩
    have HF := Lib.hid (HB.out.trans (hb1.mono HB.out.size))
    clear hb1
    go_wp2_with fail
    go_ret
    exact ⟨by rw [HE.out]; rfl, HF.out⟩

end Go.Proofs.Ytdecehecjlbbiaa
