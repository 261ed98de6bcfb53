/-
  The walks of the operations that write a log anew, on both sides.
-/
import Derived.Test.YtdecehecjlbbiaaLog2
namespace Go.Proofs.Ytdecehecjlbbiaa
open Go.RowKit

/-- The frames of some records, one behind the other. -/
def catF : List ByteArray → List UInt8
  | [] => []
  | x :: l => frameL x.data.toList ++ catF l
theorem catF_step {l : List ByteArray} {k : Nat} {x : ByteArray} (hx : l[k]? = some x) : catF (l.take (k + 1)) = catF (l.take k) ++ frameL x.data.toList := by
  induction l generalizing k with
  | nil => simp at hx
  | cons y l ih =>
    cases k with
    | zero => simp at hx; subst hx; simp [catF]
    | succ k => rw [List.getElem?_cons_succ] at hx; simp only [List.take_succ_cons, catF, ih hx, List.append_assoc]
theorem frameL_len {x : ByteArray} (h : FrGood x) : (frameL x.data.toList).length ≤ 9010 := by
  have hv := size_var (n := x.size) (by unfold FrGood at h; omega)
  rw [txt_size] at hv
  have hl : x.data.toList.length = x.size := by rw [Array.length_toList]; rfl
  unfold frameL
  rw [List.length_append, List.length_append, hl]
  have h4 : (crc4 x.data.toList).length = 4 := rfl
  unfold FrGood at h
  omega
theorem catF_len {l : List ByteArray} (h : ∀ x ∈ l, FrGood x) : (catF l).length ≤ l.length * 9010 := by
  induction l with
  | nil => simp [catF]
  | cons y l ih =>
    have h1 := frameL_len (h y (List.mem_cons_self ..))
    have h2 := ih (fun x hx => h x (List.mem_cons_of_mem _ hx))
    simp only [catF, List.length_append, List.length_cons]; omega
def AllFr (l : List ByteArray) : Prop := ∀ x ∈ l, FrGood x
instance (l : List ByteArray) : Decidable (AllFr l) := by unfold AllFr; infer_instance
theorem AllFr.step {l : List ByteArray} {k : Nat} {x : ByteArray} (h : AllFr (l.take k)) (hx : l[k]? = some x) (hg : FrGood x) : AllFr (l.take (k + 1)) := by
  intro y hy
  rw [List.take_add_one, hx] at hy
  rcases List.mem_append.1 hy with h1 | h1
  · exact h y h1
  · simp at h1; subst h1; exact hg
/-- The operations that write a log anew. -/
def anewA (l : List Fl) (n : ByteArray) (q : List ByteArray) : List Ac :=
  (if posF l newB = none then [] else [(4, newB, noB, noB)]) ++ [(1, newB, txt (catF q), noB), (2, newB, noB, noB), (3, newB, noB, n)]
def anewV (l : List Fl) (n : ByteArray) (q : List ByteArray) : List Ac × Bool := if (DiskGood l ∧ LogName n) ∧ AllFr q then (anewA l n q, true) else ([], false)
theorem anewV_yes {l : List Fl} {n : ByteArray} {q : List ByteArray} (h1 : DiskGood l) (h2 : LogName n) (h3 : AllFr q) : anewV l n q = (anewA l n q, true) := if_pos ⟨⟨h1, h2⟩, h3⟩
theorem anewV_no {l : List Fl} {n : ByteArray} {q : List ByteArray} (h : ¬ ((DiskGood l ∧ LogName n) ∧ AllFr q)) : anewV l n q = ([], false) := if_neg h

theorem anewV_len (l : List Fl) (n : ByteArray) (q : List ByteArray) : (anewV l n q).1.length ≤ 1048576 := by
  unfold anewV
  split
  · unfold anewA; simp only [List.length_append]; split <;> simp
  · simp
theorem act_cells : ∀ l : List Ac, ∀ u ∈ actC l, u.oneCell' = true := actC_one

theorem Try.infoAct : (Try.prog.info? 67).map (fun i => (i.zero, i.size, i.bytes)) = some (some (.agg #[.int .i64 0, .string ⟨#[]⟩, .string ⟨#[]⟩, .string ⟨#[]⟩]), 4, 56) := by kernel_rfl

set_option maxHeartbeats 4000000 in
set_option maxRecDepth 100000 in
theorem iAnewActs_any (v : Value) (l : List Fl) (n : ByteArray) (aq : Option Addr) (cq : Nat) (q : List ByteArray) (w : World) (hl : l.length ≤ 1048576) (hs : ∀ x ∈ l, x.1.size ≤ 1048576 ∧ x.2.1.size ≤ 1048576) (hq : q.length ≤ 1048576) (hqs : ∀ x ∈ q, x.size ≤ 1048576) (h : RdK w v l) (hrq : RdS w aq q) :
    Calls Try.prog 50 #[v, .string n, .slice aq q.length cq] w fun e w' => (∃ v', e = .returned (.tuple #[v', .bool (anewV l n q).2]) ∧ OwnA w' w.heap.size v' (anewV l n q).1) ∧ Below w.heap.size w w' := by
  obtain ⟨ao, cap, rfl, hr⟩ := h
  have st0 := OneBox.start w 29 (.slice ao l.length cap)
  have st := st0
  have R := Lib.hid (fun W hW => hr.below (C := w.heap.size) (w' := W) hW (Nat.le_refl _))
  have RQ := Lib.hid (fun W hW => hrq.below (C := w.heap.size) (w' := W) hW (Nat.le_refl _))
  have C2 := iDiskOk_any _ l _ hl hs ⟨ao, cap, rfl, R.out _ st.low⟩
  have CN := fun wx => iLogName_any n wx
  have ST := Lib.hid st
  by_cases h1 : DiskGood l
  · rw [decide_eq_true h1] at C2
    by_cases h2 : LogName n
    · rw [decide_eq_true h2] at CN
      have D2 := Lib.hid C2
      have DN := Lib.hid CN
      have CA := Lib.hid (fun W h => iAt_any (.agg #[.slice ao l.length cap]) l newB W hl h)
      have Hq := Lib.hid hqs
      have G1 := Lib.hid h1
      have G2 := Lib.hid h2
      clear C2 CN hr hrq st st0 hs hqs h1 h2
      go_enter Try.func50, Try.ntmps50
      go_wp2_with (first | (go_at_call 18; refine D2.out.mono ?_; rintro e w1 ⟨rfl, hb1⟩; have ST1 := Lib.hid (ST.out.below hb1); clear hb1) | (go_at_call 83; refine (DN.out _).mono ?_; rintro e w' ⟨rfl, rfl⟩))
      go_loopw [8, 24] (fun s i wr => ∃ k : Nat, k ≤ q.length ∧ s = .string (txt (catF (q.take k))) ∧ i = .int .i64 k ∧ Hid (AllFr (q.take k)) ∧ Hid (OneBox w 29 (.slice ao l.length cap) wr)) (fun _ i _ => q.length - (intOf i).toNat)
      case atStart => exact ⟨0, Nat.zero_le _, rfl, rfl, fun x hx => by simp at hx, ST1⟩
      case round =>
        obtain ⟨k, hk, rfl, rfl, HA, HW⟩ := hrel
        by_cases hlt : k < q.length
        · obtain ⟨x, hx⟩ : ∃ x, q[k]? = some x := ⟨_, List.getElem?_eq_getElem hlt⟩
          obtain ⟨b, o, rfl, hc⟩ := RQ.out _ HW.out.low k x hx
          by_cases hgx : FrGood x
          · have CF := Lib.hid (fun wx => iFrame_yes x hgx wx)
            have HA2 := Lib.hid (AllFr.step HA.out hx hgx)
            have HN := Lib.hid (catF_step hx)
            have hT1 : (txt (catF (q.take k))).size ≤ 1048576 * 9010 := by
              rw [txt_size]
              refine Nat.le_trans (catF_len HA.out) (Nat.mul_le_mul_right _ ?_)
              rw [List.length_take]; omega
            have hf1 : (txt (frameL x.data.toList)).size ≤ 9010 := by rw [txt_size]; exact frameL_len hgx
            have HJ : Hid (txt (catF (q.take k)) ++ txt (frameL x.data.toList) = txt (catF (q.take (k + 1)))) := Lib.hid (by rw [txt_join2, HN.out])
            generalize txt (frameL x.data.toList) = f at *
            generalize txt (catF (q.take k)) = T at *
            clear hx hgx HN
            go_wp2_with (go_at_call 82; refine (CF.out _).mono ?_; rintro e w2 ⟨rfl, hb2⟩; have HW2 := Lib.hid (HW.out.below hb2); clear hb2)
            exact ⟨⟨k + 1, by omega, by rw [HJ.out], by go_num, HA2, HW2⟩, by simp [intOf]; omega⟩
          · have CF := Lib.hid (fun wx => iFrame_no x hgx (Hq.out x (List.mem_of_getElem? hx)) wx)
            have HE := Lib.hid (anewV_no (l := l) (n := n) (q := q) (fun h => hgx (h.2 x (List.mem_of_getElem? hx))))
            have hT1 : (txt (catF (q.take k))).size ≤ 1048576 * 9010 := by
              rw [txt_size]
              refine Nat.le_trans (catF_len HA.out) (Nat.mul_le_mul_right _ ?_)
              rw [List.length_take]; omega
            generalize txt (catF (q.take k)) = T at *
            clear hx hgx
            go_wp2_with (go_at_call 82; refine (CF.out _).mono ?_; rintro e w2 ⟨rfl, rfl⟩)
            go_ret2
            rw [HE.out]
            exact ⟨⟨_, rfl, Own.nil _ _ _⟩, HW.out.low⟩
        · obtain rfl : k = q.length := by omega
          have HV := Lib.hid (anewV_yes G1.out G2.out (q := q) (by have := HA.out; rwa [List.take_length] at this))
          rw [List.take_length]
          have hT1 : (txt (catF q)).size ≤ 1048576 * 9010 := by
            have h5 := HA.out
            rw [List.take_length] at h5
            rw [txt_size]
            exact Nat.le_trans (catF_len h5) (Nat.mul_le_mul_right _ hq)
          unfold anewA at HV
          generalize txt (catF q) = T at *
          have hls := HW.out.low.size
          have HWx := HW
          have c0 := Blk.cell HWx.out.box 0
          simp only [List.getElem?_cons_zero] at c0
          have CA0 := CA.out _ ⟨_, _, rfl, R.out _ HWx.out.low⟩
          unfold newB at CA0
          cases hp : posF l newB with
          | none =>
            have hv := posV_none hp
            unfold newB at hv
            rw [hv] at CA0
            have DA := Lib.hid CA0
            rw [hp, if_pos rfl] at HV
            clear CA0 hv hp
            go_wp2_with fail
            refine DA.out.mono ?_
            rintro e w5 ⟨rfl, hb5⟩
            have HW5 := Lib.hid (HWx.out.below hb5)
            have hl5 := HW5.out.low.size
            clear hb5 c0
            go_wp2_with (at_builtin; (refine wpList_push_cells w5 _ rfl _ _ 51 rfl 67 Try.underlying51 _ 4 56 rfl Try.infoAct w.heap.size (.slice none 0 0) 0 [] rfl (Own.nil _ _ _) _ (actC [(1, newB, T, noB), (2, newB, noB, noB), (3, newB, noB, n)]) rfl (actC_one _) 3 3 rfl _ rfl rfl (by omega) (by decide) hl5 rfl ?_; intro v6 w6 o6 g6 b6; obtain ⟨aq6, cq6, rfl⟩ := Own.shape o6; have O6 := Lib.hid o6; have L6 := Lib.hid b6; have hs6 := (HW5.out.low.trans b6).size; clear o6 g6 b6))
            go_ret2
            rw [HV.out]
            exact ⟨⟨_, rfl, O6.out⟩, HW5.out.low.trans L6.out⟩
          | some j =>
            have hv := posV_some hp
            unfold newB at hv
            rw [hv] at CA0
            have DA := Lib.hid CA0
            have hji : (0 : Int) ≤ (j : Int) := Int.natCast_nonneg _
            rw [hp, if_neg (by simp)] at HV
            clear CA0 hv hp
            go_wp2_with fail
            refine DA.out.mono ?_
            rintro e w5 ⟨rfl, hb5⟩
            have HW5 := Lib.hid (HWx.out.below hb5)
            have hl5 := HW5.out.low.size
            clear hb5 c0
            go_wp2_with (at_builtin; first | (refine wpList_push_cells w5 _ rfl _ _ 51 rfl 67 Try.underlying51 _ 4 56 rfl Try.infoAct w.heap.size (.slice none 0 0) 0 [] rfl (Own.nil _ _ _) _ (actC [(4, newB, noB, noB)]) rfl (actC_one _) 1 1 rfl _ rfl rfl (by omega) (by decide) hl5 rfl ?_; intro v6 w6 o6 g6 b6; obtain ⟨aq6, cq6, rfl⟩ := Own.shape o6; have O6 := Lib.hid o6; have L6 := Lib.hid b6; have hs6 := (HW5.out.low.trans b6).size; clear o6 g6 b6) | (refine wpList_push_cells w6 _ rfl _ _ 51 rfl 67 Try.underlying51 _ 4 56 rfl Try.infoAct w.heap.size _ (0 + 1) ([] ++ actC [(4, newB, noB, noB)]) rfl O6.out _ (actC [(1, newB, T, noB), (2, newB, noB, noB), (3, newB, noB, n)]) rfl (actC_one _) 3 3 rfl _ rfl rfl (by omega) (by decide) hs6 rfl ?_; intro v7 w7 o7 g7 b7; obtain ⟨aq7, cq7, rfl⟩ := Own.shape o7; have O7 := Lib.hid o7; have L7 := Lib.hid b7; have hs7 := (L6.out.trans b7).size; clear o7 g7 b7))
            go_ret2
            rw [HV.out]
            exact ⟨⟨_, rfl, O7.out⟩, (HW5.out.low.trans L6.out).trans L7.out⟩
    · rw [decide_eq_false h2] at CN
      have D2 := Lib.hid C2
      have DN := Lib.hid CN
      have HE := Lib.hid (anewV_no (l := l) (q := q) (fun h => h2 h.1.2))
      clear C2 CN hr hrq st st0 hs hqs h1 h2
      go_enter Try.func50, Try.ntmps50
      go_wp2_with (first | (go_at_call 18; refine D2.out.mono ?_; rintro e w1 ⟨rfl, hb1⟩; have ST1 := Lib.hid (ST.out.below hb1); clear hb1) | (go_at_call 83; refine (DN.out _).mono ?_; rintro e w' ⟨rfl, rfl⟩))
      go_ret2
      rw [HE.out]
      exact ⟨⟨_, rfl, Own.nil _ _ _⟩, ST1.out.low⟩
  · rw [decide_eq_false h1] at C2
    have D2 := Lib.hid C2
    have HE := Lib.hid (anewV_no (n := n) (q := q) (fun h => h1 h.1.1))
    clear C2 CN hr hrq st st0 hs hqs h1
    go_enter Try.func50, Try.ntmps50
    go_wp2_with (go_at_call 18; refine D2.out.mono ?_; rintro e w1 ⟨rfl, hb1⟩; have ST1 := Lib.hid (ST.out.below hb1); clear hb1)
    go_ret2
    rw [HE.out]
    exact ⟨⟨_, rfl, Own.nil _ _ _⟩, ST1.out.low⟩

set_option maxHeartbeats 4000000 in
set_option maxRecDepth 100000 in
theorem sAnewActs_any (v : Value) (l : List Fl) (n : ByteArray) (aq : Option Addr) (cq : Nat) (q : List ByteArray) (w : World) (hl : l.length ≤ 1048576) (hs : ∀ x ∈ l, x.1.size ≤ 1048576 ∧ x.2.1.size ≤ 1048576) (hq : q.length ≤ 1048576) (hqs : ∀ x ∈ q, x.size ≤ 1048576) (h : RdK w v l) (hrq : RdS w aq q) :
    Calls Try.prog 48 #[v, .string n, .slice aq q.length cq] w fun e w' => (∃ v', e = .returned (.tuple #[v', .bool (anewV l n q).2]) ∧ OwnA w' w.heap.size v' (anewV l n q).1) ∧ Below w.heap.size w w' := by
  obtain ⟨ao, cap, rfl, hr⟩ := h
  have st0 := OneBox.start w 29 (.slice ao l.length cap)
  have hz := alloc_size w (.cells #[.slice ao l.length cap] 29)
  have hn0 := Own.empty (w.alloc (.cells #[.slice ao l.length cap] 29)) w.heap.size 4 67 (by omega)
  rw [hz] at hn0
  have st := st0.below ((Below.refl _ _).alloc (Nat.le_refl _) (.cells #[] 67))
  have HN0 := Lib.hid hn0
  clear hn0 hz
  have R := Lib.hid (fun W hW => hr.below (C := w.heap.size) (w' := W) hW (Nat.le_refl _))
  have RQ := Lib.hid (fun W hW => hrq.below (C := w.heap.size) (w' := W) hW (Nat.le_refl _))
  have C2 := sDiskOk_any _ l _ hl hs ⟨ao, cap, rfl, R.out _ st.low⟩
  have CN := fun wx => sLogName_any n wx
  have ST := Lib.hid st
  by_cases h1 : DiskGood l
  · rw [decide_eq_true h1] at C2
    by_cases h2 : LogName n
    · rw [decide_eq_true h2] at CN
      have D2 := Lib.hid C2
      have DN := Lib.hid CN
      have CA := Lib.hid (fun W h => sFileAt_any (.agg #[.slice ao l.length cap]) l newB W hl h)
      have Hq := Lib.hid hqs
      have G1 := Lib.hid h1
      have G2 := Lib.hid h2
      clear C2 CN hr hrq st st0 hs hqs h1 h2
      go_enter Try.func48, Try.ntmps48
      go_wp2_with (first | (go_at_call 16; refine D2.out.mono ?_; rintro e w1 ⟨rfl, hb1⟩; have ST1 := Lib.hid (ST.out.below hb1); have HN1 := Lib.hid (Own.below HN0.out hb1 (Nat.le_refl _)); clear hb1) | (go_at_call 81; refine (DN.out _).mono ?_; rintro e w' ⟨rfl, rfl⟩))
      go_loopw [9, 10] (fun s i wr => ∃ k : Nat, k ≤ q.length ∧ s = .string (txt (catF (q.take k))) ∧ i = .int .i64 k ∧ Hid (AllFr (q.take k)) ∧ Hid (OneBox w 29 (.slice ao l.length cap) wr) ∧ Hid (Own wr w.heap.size 4 (.slice (some ⟨w.heap.size + 1, 0, none⟩) 0 0) 0 [])) (fun _ i _ => q.length - (intOf i).toNat)
      case atStart => exact ⟨0, Nat.zero_le _, rfl, rfl, fun x hx => by simp at hx, ST1, HN1⟩
      case round =>
        obtain ⟨k, hk, rfl, rfl, HA, HW, HO0⟩ := hrel
        by_cases hlt : k < q.length
        · obtain ⟨x, hx⟩ : ∃ x, q[k]? = some x := ⟨_, List.getElem?_eq_getElem hlt⟩
          obtain ⟨b, o, rfl, hc⟩ := RQ.out _ HW.out.low k x hx
          by_cases hgx : FrGood x
          · have CF := Lib.hid (fun wx => sFrame_yes x hgx wx)
            have HA2 := Lib.hid (AllFr.step HA.out hx hgx)
            have HN := Lib.hid (catF_step hx)
            have hT1 : (txt (catF (q.take k))).size ≤ 1048576 * 9010 := by
              rw [txt_size]
              refine Nat.le_trans (catF_len HA.out) (Nat.mul_le_mul_right _ ?_)
              rw [List.length_take]; omega
            have hf1 : (txt (frameL x.data.toList)).size ≤ 9010 := by rw [txt_size]; exact frameL_len hgx
            have HJ : Hid (txt (catF (q.take k)) ++ txt (frameL x.data.toList) = txt (catF (q.take (k + 1)))) := Lib.hid (by rw [txt_join2, HN.out])
            generalize txt (frameL x.data.toList) = f at *
            generalize txt (catF (q.take k)) = T at *
            clear hx hgx HN
            go_wp2_with (go_at_call 80; refine (CF.out _).mono ?_; rintro e w2 ⟨rfl, hb2⟩; have HW2 := Lib.hid (HW.out.below hb2); have HO2 := Lib.hid (Own.below HO0.out hb2 (Nat.le_refl _)); clear hb2)
            exact ⟨⟨k + 1, by omega, by rw [HJ.out], by go_num, HA2, HW2, HO2⟩, by simp [intOf]; omega⟩
          · have CF := Lib.hid (fun wx => sFrame_no x hgx (Hq.out x (List.mem_of_getElem? hx)) wx)
            have HE := Lib.hid (anewV_no (l := l) (n := n) (q := q) (fun h => hgx (h.2 x (List.mem_of_getElem? hx))))
            have hT1 : (txt (catF (q.take k))).size ≤ 1048576 * 9010 := by
              rw [txt_size]
              refine Nat.le_trans (catF_len HA.out) (Nat.mul_le_mul_right _ ?_)
              rw [List.length_take]; omega
            generalize txt (catF (q.take k)) = T at *
            clear hx hgx
            go_wp2_with (go_at_call 80; refine (CF.out _).mono ?_; rintro e w2 ⟨rfl, rfl⟩)
            go_ret2
            rw [HE.out]
            exact ⟨⟨_, rfl, HO0.out⟩, HW.out.low⟩
        · obtain rfl : k = q.length := by omega
          have HV := Lib.hid (anewV_yes G1.out G2.out (q := q) (by have := HA.out; rwa [List.take_length] at this))
          rw [List.take_length]
          have hT1 : (txt (catF q)).size ≤ 1048576 * 9010 := by
            have h5 := HA.out
            rw [List.take_length] at h5
            rw [txt_size]
            exact Nat.le_trans (catF_len h5) (Nat.mul_le_mul_right _ hq)
          unfold anewA at HV
          generalize txt (catF q) = T at *
          have hls := HW.out.low.size
          have HWx := Lib.hid (HW.out.below ((Below.refl _ _).alloc (Nat.le_refl _) (.cells #[] 67)))
          have ON := Lib.hid (Own.empty wr w.heap.size 4 67 hls)
          have c0 := Blk.cell HWx.out.box 0
          simp only [List.getElem?_cons_zero] at c0
          have CA0 := CA.out _ ⟨_, _, rfl, R.out _ HWx.out.low⟩
          unfold newB at CA0
          cases hp : posF l newB with
          | none =>
            have hv : (textV l newB).2 = false := by rw [textV_none hp]
            unfold newB at hv
            rw [hv] at CA0
            generalize (textV l ⟨#[110, 101, 119]⟩).1 = tx at *
            have DA := Lib.hid CA0
            rw [hp, if_pos rfl] at HV
            clear CA0 hv hp
            go_wp2_with fail
            refine DA.out.mono ?_
            rintro e w5 ⟨rfl, hb5⟩
            have HW5 := Lib.hid (HWx.out.below hb5)
            have hl5 := HW5.out.low.size
            have O5 := Lib.hid (Own.below ON.out hb5 (Nat.le_refl _))
            clear hb5 c0
            go_wp2_with (at_builtin; (refine wpList_push_cells w5 _ rfl _ _ 51 rfl 67 Try.underlying51 _ 4 56 rfl Try.infoAct w.heap.size _ 0 [] rfl O5.out _ (actC [(1, newB, T, noB), (2, newB, noB, noB), (3, newB, noB, n)]) rfl (actC_one _) 3 3 rfl _ rfl rfl (by omega) (by decide) hl5 rfl ?_; intro v6 w6 o6 g6 b6; obtain ⟨aq6, cq6, rfl⟩ := Own.shape o6; have O6 := Lib.hid o6; have L6 := Lib.hid b6; have hs6 := (HW5.out.low.trans b6).size; clear o6 g6 b6))
            go_ret2
            rw [HV.out]
            exact ⟨⟨_, rfl, O6.out⟩, HW5.out.low.trans L6.out⟩
          | some j =>
            have hv : (textV l newB).2 = true := by obtain ⟨x, hx, -⟩ := posF_some hp; rw [textV_some hp hx]
            unfold newB at hv
            rw [hv] at CA0
            generalize (textV l ⟨#[110, 101, 119]⟩).1 = tx at *
            have DA := Lib.hid CA0
            have hji : (0 : Int) ≤ (j : Int) := Int.natCast_nonneg _
            rw [hp, if_neg (by simp)] at HV
            clear CA0 hv hp
            go_wp2_with fail
            refine DA.out.mono ?_
            rintro e w5 ⟨rfl, hb5⟩
            have HW5 := Lib.hid (HWx.out.below hb5)
            have hl5 := HW5.out.low.size
            have O5 := Lib.hid (Own.below ON.out hb5 (Nat.le_refl _))
            clear hb5 c0
            go_wp2_with (at_builtin; first | (refine wpList_push_cells w5 _ rfl _ _ 51 rfl 67 Try.underlying51 _ 4 56 rfl Try.infoAct w.heap.size _ 0 [] rfl O5.out _ (actC [(4, newB, noB, noB)]) rfl (actC_one _) 1 1 rfl _ rfl rfl (by omega) (by decide) hl5 rfl ?_; intro v6 w6 o6 g6 b6; obtain ⟨aq6, cq6, rfl⟩ := Own.shape o6; have O6 := Lib.hid o6; have L6 := Lib.hid b6; have hs6 := (HW5.out.low.trans b6).size; clear o6 g6 b6) | (refine wpList_push_cells w6 _ rfl _ _ 51 rfl 67 Try.underlying51 _ 4 56 rfl Try.infoAct w.heap.size _ (0 + 1) ([] ++ actC [(4, newB, noB, noB)]) rfl O6.out _ (actC [(1, newB, T, noB), (2, newB, noB, noB), (3, newB, noB, n)]) rfl (actC_one _) 3 3 rfl _ rfl rfl (by omega) (by decide) hs6 rfl ?_; intro v7 w7 o7 g7 b7; obtain ⟨aq7, cq7, rfl⟩ := Own.shape o7; have O7 := Lib.hid o7; have L7 := Lib.hid b7; have hs7 := (L6.out.trans b7).size; clear o7 g7 b7))
            go_ret2
            rw [HV.out]
            exact ⟨⟨_, rfl, O7.out⟩, (HW5.out.low.trans L6.out).trans L7.out⟩
    · rw [decide_eq_false h2] at CN
      have D2 := Lib.hid C2
      have DN := Lib.hid CN
      have HE := Lib.hid (anewV_no (l := l) (q := q) (fun h => h2 h.1.2))
      clear C2 CN hr hrq st st0 hs hqs h1 h2
      go_enter Try.func48, Try.ntmps48
      go_wp2_with (first | (go_at_call 16; refine D2.out.mono ?_; rintro e w1 ⟨rfl, hb1⟩; have ST1 := Lib.hid (ST.out.below hb1); have HN1 := Lib.hid (Own.below HN0.out hb1 (Nat.le_refl _)); clear hb1) | (go_at_call 81; refine (DN.out _).mono ?_; rintro e w' ⟨rfl, rfl⟩))
      go_ret2
      rw [HE.out]
      exact ⟨⟨_, rfl, HN1.out⟩, ST1.out.low⟩
  · rw [decide_eq_false h1] at C2
    have D2 := Lib.hid C2
    have HE := Lib.hid (anewV_no (n := n) (q := q) (fun h => h1 h.1.1))
    clear C2 CN hr hrq st st0 hs hqs h1
    go_enter Try.func48, Try.ntmps48
    go_wp2_with (go_at_call 16; refine D2.out.mono ?_; rintro e w1 ⟨rfl, hb1⟩; have ST1 := Lib.hid (ST.out.below hb1); have HN1 := Lib.hid (Own.below HN0.out hb1 (Nat.le_refl _)); clear hb1)
    go_ret2
    rw [HE.out]
    exact ⟨⟨_, rfl, HN1.out⟩, ST1.out.low⟩

end Go.Proofs.Ytdecehecjlbbiaa
