/-
  The walks of locks, secrets and the bits that are signed.
-/
import Derived.Test.YtcehbmlibfalaaaDoorJSha5
namespace Go.Proofs.YtcehbmlibfalaaaDoor
open Go.RowKit

theorem sLockOf_any (s : ByteArray) (hs : s.size ≤ 1048576) (w : World) :
    Calls Tryd.prog 48 #[.string s] w fun e w' => e = .returned (.string (txt (lockL s))) ∧ Below w.heap.size w w' := by
  have C0 := sTagHash_any 6 (some ⟨w.heap.size, 0, none⟩) 1 [s] 16 (w.alloc (.cells #[.string s] 9)) (by simp) (by simpa using hs) (rdS_one w s 9)
  unfold lockL
  generalize hashT 6 [s] 16 = d at *
  rw [alloc_size] at C0
  have C := Lib.hid C0
  clear C0
  go_enter Tryd.func48, Tryd.ntmps48
  go_wp2_with fail
  refine C.out.mono ?_
  rintro e w1 ⟨rfl, hb1⟩
  go_wp2_with fail
  go_ret
  exact ⟨rfl, ((Below.refl _ _).alloc (Nat.le_refl _) _).trans (hb1.mono (Nat.le_succ _))⟩

theorem iLockOf_any (s : ByteArray) (hs : s.size ≤ 1048576) (w : World) (hT : YtcehbmlibfalaaaDoorTabs w) :
    Calls Tryd.prog 50 #[.string s] w fun e w' => e = .returned (.string (txt (lockL s))) ∧ Below w.heap.size w w' := by
  have C0 := hashOf_any 6 (some ⟨w.heap.size, 0, none⟩) 1 [s] 16 (w.alloc (.cells #[.string s] 9)) (by simp) (by simpa using hs) (rdS_one w s 9) (hT.below ((Below.refl _ _).alloc (Nat.le_refl _) _) (Nat.le_refl _))
  unfold lockL
  generalize hashT 6 [s] 16 = d at *
  rw [alloc_size] at C0
  have C := Lib.hid C0
  clear C0 hT
  go_enter Tryd.func50, Tryd.ntmps50
  go_wp2_with fail
  refine C.out.mono ?_
  rintro e w1 ⟨rfl, hb1⟩
  go_wp2_with fail
  go_ret
  exact ⟨rfl, ((Below.refl _ _).alloc (Nat.le_refl _) _).trans (hb1.mono (Nat.le_succ _))⟩

set_option maxHeartbeats 1000000 in
set_option maxRecDepth 100000 in
theorem sSecretOf_any (s : ByteArray) (hs : s.size ≤ 1048576) (a b c : Int) (w : World) :
    Calls Tryd.prog 47 #[.string s, .int .i64 a, .int .i64 b, .int .i64 c] w fun e w' => e = .returned (.string (txt (secretL s a b c))) ∧ Below w.heap.size w w' := by
  by_cases h0 : s.size ≤ 100
  · by_cases ha : 0 ≤ a ∧ a ≤ 15
    · by_cases hb : 0 ≤ b ∧ b ≤ 7
      · by_cases hc : 0 ≤ c ∧ c ≤ 1
        · rw [secretL_yes ⟨h0, ha, hb, hc⟩]
          have hcv := built_txt (P := Tryd.prog) Tryd.underlying32 Tryd.underlying5 Tryd.underlying9 w _ _ (place_cell (a := a) (b := b) (c := c) (by omega) (by omega) (by omega)) 3 3 rfl 5
          have ht : (txt (placeB a b c)).size ≤ 3 := by rw [txt_size]; exact Nat.le_refl _
          generalize txt (placeB a b c) = t at *
          have C0 := sTagHash_any 5 (some ⟨(w.alloc (.cells #[.int .u8 a, .int .u8 b, .int .u8 c] 5)).heap.size, 0, none⟩) 2 [s, t] 16 ((w.alloc (.cells #[.int .u8 a, .int .u8 b, .int .u8 c] 5)).alloc (.cells #[.string s, .string t] 9)) (by simp) (by intro x hx; simp at hx; rcases hx with rfl | rfl <;> omega) (rdS_two _ s t 9)
          generalize hashT 5 [s, t] 16 = d at *
          rw [alloc_size, alloc_size] at C0
          have C := Lib.hid C0
          clear C0
          go_enter Tryd.func47, Tryd.ntmps47
          go_wp2_with (first | (go_at_call 61; (with_reducible refine (l01In_yes a 0 15 ha _).mono ?_); rintro e w' ⟨rfl, rfl⟩) | (go_at_call 61; (with_reducible refine (l01In_yes b 0 7 hb _).mono ?_); rintro e w' ⟨rfl, rfl⟩) | (go_at_call 61; (with_reducible refine (l01In_yes c 0 1 hc _).mono ?_); rintro e w' ⟨rfl, rfl⟩))
          refine C.out.mono ?_
          rintro e w1 ⟨rfl, hb1⟩
          go_wp2_with fail
          go_ret
          exact ⟨rfl, (((Below.refl _ _).alloc (Nat.le_refl _) _).alloc (by rw [alloc_size]; omega) _).trans (hb1.mono (by simp only [alloc_size]; omega))⟩
        · rw [secretL_no (fun h => hc h.2.2.2)]
          go_enter Tryd.func47, Tryd.ntmps47
          go_wp2_with (first | (go_at_call 61; (with_reducible refine (l01In_yes a 0 15 ha _).mono ?_); rintro e w' ⟨rfl, rfl⟩) | (go_at_call 61; (with_reducible refine (l01In_yes b 0 7 hb _).mono ?_); rintro e w' ⟨rfl, rfl⟩) | (go_at_call 61; (with_reducible refine (l01In_no c 0 1 hc _).mono ?_); rintro e w' ⟨rfl, rfl⟩))
          go_ret
          exact ⟨rfl, Below.refl _ _⟩
      · rw [secretL_no (fun h => hb h.2.2.1)]
        go_enter Tryd.func47, Tryd.ntmps47
        go_wp2_with (first | (go_at_call 61; (with_reducible refine (l01In_yes a 0 15 ha _).mono ?_); rintro e w' ⟨rfl, rfl⟩) | (go_at_call 61; (with_reducible refine (l01In_no b 0 7 hb _).mono ?_); rintro e w' ⟨rfl, rfl⟩))
        go_ret
        exact ⟨rfl, Below.refl _ _⟩
    · rw [secretL_no (fun h => ha h.2.1)]
      go_enter Tryd.func47, Tryd.ntmps47
      go_wp2_with (first | (go_at_call 61; (with_reducible refine (l01In_no a 0 15 ha _).mono ?_); rintro e w' ⟨rfl, rfl⟩))
      go_ret
      exact ⟨rfl, Below.refl _ _⟩
  · rw [secretL_no (fun h => h0 h.1)]
    go_enter Tryd.func47, Tryd.ntmps47
    go_wp2_with fail
    go_ret
    exact ⟨rfl, Below.refl _ _⟩

set_option maxHeartbeats 1000000 in
set_option maxRecDepth 100000 in
theorem iSecretOf_any (s : ByteArray) (hs : s.size ≤ 1048576) (a b c : Int) (w : World) (hT : YtcehbmlibfalaaaDoorTabs w) :
    Calls Tryd.prog 49 #[.string s, .int .i64 a, .int .i64 b, .int .i64 c] w fun e w' => e = .returned (.string (txt (secretL s a b c))) ∧ Below w.heap.size w w' := by
  by_cases h0 : s.size ≤ 100
  · by_cases ha : 0 ≤ a ∧ a ≤ 15
    · by_cases hb : 0 ≤ b ∧ b ≤ 7
      · by_cases hc : 0 ≤ c ∧ c ≤ 1
        · rw [secretL_yes ⟨h0, ha, hb, hc⟩]
          have hcv := built_txt (P := Tryd.prog) Tryd.underlying32 Tryd.underlying5 Tryd.underlying9 w _ _ (place_cell (a := a) (b := b) (c := c) (by omega) (by omega) (by omega)) 3 3 rfl 5
          have ht : (txt (placeB a b c)).size ≤ 3 := by rw [txt_size]; exact Nat.le_refl _
          generalize txt (placeB a b c) = t at *
          have C0 := hashOf_any 5 (some ⟨(w.alloc (.cells #[.int .u8 a, .int .u8 b, .int .u8 c] 5)).heap.size, 0, none⟩) 2 [s, t] 16 ((w.alloc (.cells #[.int .u8 a, .int .u8 b, .int .u8 c] 5)).alloc (.cells #[.string s, .string t] 9)) (by simp) (by intro x hx; simp at hx; rcases hx with rfl | rfl <;> omega) (rdS_two _ s t 9) (hT.below (((Below.refl _ _).alloc (Nat.le_refl _) _).alloc (by rw [alloc_size]; omega) _) (Nat.le_refl _))
          generalize hashT 5 [s, t] 16 = d at *
          rw [alloc_size, alloc_size] at C0
          have C := Lib.hid C0
          clear C0 hT
          go_enter Tryd.func49, Tryd.ntmps49
          go_wp2_with (first | (go_at_call 59; (with_reducible refine (in_yes a 0 15 ha _).mono ?_); rintro e w' ⟨rfl, rfl⟩) | (go_at_call 59; (with_reducible refine (in_yes b 0 7 hb _).mono ?_); rintro e w' ⟨rfl, rfl⟩) | (go_at_call 59; (with_reducible refine (in_yes c 0 1 hc _).mono ?_); rintro e w' ⟨rfl, rfl⟩))
          refine C.out.mono ?_
          rintro e w1 ⟨rfl, hb1⟩
          go_wp2_with fail
          go_ret
          exact ⟨rfl, (((Below.refl _ _).alloc (Nat.le_refl _) _).alloc (by rw [alloc_size]; omega) _).trans (hb1.mono (by simp only [alloc_size]; omega))⟩
        · rw [secretL_no (fun h => hc h.2.2.2)]
          clear hT
          go_enter Tryd.func49, Tryd.ntmps49
          go_wp2_with (first | (go_at_call 59; (with_reducible refine (in_yes a 0 15 ha _).mono ?_); rintro e w' ⟨rfl, rfl⟩) | (go_at_call 59; (with_reducible refine (in_yes b 0 7 hb _).mono ?_); rintro e w' ⟨rfl, rfl⟩) | (go_at_call 59; (with_reducible refine (in_no c 0 1 hc _).mono ?_); rintro e w' ⟨rfl, rfl⟩))
          go_ret
          exact ⟨rfl, Below.refl _ _⟩
      · rw [secretL_no (fun h => hb h.2.2.1)]
        clear hT
        go_enter Tryd.func49, Tryd.ntmps49
        go_wp2_with (first | (go_at_call 59; (with_reducible refine (in_yes a 0 15 ha _).mono ?_); rintro e w' ⟨rfl, rfl⟩) | (go_at_call 59; (with_reducible refine (in_no b 0 7 hb _).mono ?_); rintro e w' ⟨rfl, rfl⟩))
        go_ret
        exact ⟨rfl, Below.refl _ _⟩
    · rw [secretL_no (fun h => ha h.2.1)]
      clear hT
      go_enter Tryd.func49, Tryd.ntmps49
      go_wp2_with (first | (go_at_call 59; (with_reducible refine (in_no a 0 15 ha _).mono ?_); rintro e w' ⟨rfl, rfl⟩))
      go_ret
      exact ⟨rfl, Below.refl _ _⟩
  · rw [secretL_no (fun h => h0 h.1)]
    clear hT
    go_enter Tryd.func49, Tryd.ntmps49
    go_wp2_with fail
    go_ret
    exact ⟨rfl, Below.refl _ _⟩

theorem sign_hash {s : ByteArray} (h : s.size ≤ 200) : (hashT 7 [s] 16).length = 16 := by
  obtain ⟨t, ht⟩ := tagL_one (k := 7) (by decide) h
  unfold hashT
  rw [ht]
  exact cutL_length (by decide)
theorem sign_none {s : ByteArray} (h : ¬ s.size ≤ 200) : hashT 7 [s] 16 = [] := by
  unfold hashT
  rw [tagL_one_no h]
set_option maxHeartbeats 1000000 in
set_option maxRecDepth 100000 in
theorem sSignBitsOf_any (s : ByteArray) (hs : s.size ≤ 1048576) (w : World) :
    Calls Tryd.prog 46 #[.string s] w fun e w' => e = .returned (.int .i64 (signB s : Nat)) ∧ Below w.heap.size w w' := by
  have C0 := sTagHash_any 7 (some ⟨w.heap.size, 0, none⟩) 1 [s] 16 (w.alloc (.cells #[.string s] 9)) (by simp) (by simpa using hs) (rdS_one w s 9)
  rw [alloc_size] at C0
  by_cases h : s.size ≤ 200
  · have hl := sign_hash h
    unfold signB
    generalize hashT 7 [s] 16 = d at *
    have q := fun wx => idx_byt (P := Tryd.prog) Tryd.underlying9 (txt d) 0 0 rfl (by rw [txt_size, hl]; decide) wx
    rw [txt_data] at q
    have hb := byt_lt d 0
    generalize byt d 0 = x at *
    have e1 : (txt d).toList.isEmpty = false := by
      rw [ByteArray.toList_eq, txt_data, List.isEmpty_eq_false_iff]
      intro h2; rw [h2] at hl; cases hl
    have e2 : ((txt d).toList == []) = false := by
      rw [ByteArray.toList_eq, txt_data, beq_eq_false_iff_ne]
      intro h2; rw [h2] at hl; cases hl
    have C := Lib.hid C0
    clear C0 hl
    generalize txt d = D at *
    go_enter Tryd.func46, Tryd.ntmps46
    go_wp2_with fail
    refine C.out.mono ?_
    rintro e w1 ⟨rfl, hb1⟩
    go_wp2_with fail
    go_ret
    exact ⟨rfl, ((Below.refl _ _).alloc (Nat.le_refl _) _).trans (hb1.mono (Nat.le_succ _))⟩
  · unfold signB
    rw [sign_none h] at C0 ⊢
    have e0 : (txt []).toList = [] := by rw [ByteArray.toList_eq, txt_data]
    have C := Lib.hid C0
    clear C0
    go_enter Tryd.func46, Tryd.ntmps46
    go_wp2_with fail
    refine C.out.mono ?_
    rintro e w1 ⟨rfl, hb1⟩
    go_wp2_with fail
    go_ret
    exact ⟨rfl, ((Below.refl _ _).alloc (Nat.le_refl _) _).trans (hb1.mono (Nat.le_succ _))⟩

set_option maxHeartbeats 1000000 in
set_option maxRecDepth 100000 in
theorem iSignBitsOf_any (s : ByteArray) (hs : s.size ≤ 1048576) (w : World) (hT : YtcehbmlibfalaaaDoorTabs w) :
    Calls Tryd.prog 43 #[.string s] w fun e w' => e = .returned (.int .i64 (signB s : Nat)) ∧ Below w.heap.size w w' := by
  have C0 := hashOf_any 7 (some ⟨w.heap.size, 0, none⟩) 1 [s] 16 (w.alloc (.cells #[.string s] 9)) (by simp) (by simpa using hs) (rdS_one w s 9) (hT.below ((Below.refl _ _).alloc (Nat.le_refl _) _) (Nat.le_refl _))
  rw [alloc_size] at C0
  clear hT
  by_cases h : s.size ≤ 200
  · have hl := sign_hash h
    unfold signB
    generalize hashT 7 [s] 16 = d at *
    have q := fun wx => idx_byt (P := Tryd.prog) Tryd.underlying9 (txt d) 0 0 rfl (by rw [txt_size, hl]; decide) wx
    rw [txt_data] at q
    have hb := byt_lt d 0
    generalize byt d 0 = x at *
    have C := Lib.hid C0
    clear C0 hl
    generalize txt d = D at *
    go_enter Tryd.func43, Tryd.ntmps43
    go_wp2_with fail
    refine C.out.mono ?_
    rintro e w1 ⟨rfl, hb1⟩
    go_wp2_with fail
    go_ret
    exact ⟨rfl, ((Below.refl _ _).alloc (Nat.le_refl _) _).trans (hb1.mono (Nat.le_succ _))⟩
  · unfold signB
    rw [sign_none h]
    clear C0
    go_enter Tryd.func43, Tryd.ntmps43
    go_wp2_with fail
    go_ret
    exact ⟨rfl, Below.refl _ _⟩

end Go.Proofs.YtcehbmlibfalaaaDoor
