/-
  The walks of a log's operations, on both sides.
-/
import Derived.Test.YtdecehecjlbbiaaLog1
import Derived.Test.YtdecehecjlbbiaaPuDo
namespace Go.Proofs.Ytdecehecjlbbiaa
open Go.RowKit

/-- The name that a log must not bear. -/
def newB : ByteArray := ⟨#[110, 101, 119]⟩
def LogName (s : ByteArray) : Prop := NameGood s ∧ s ≠ newB
instance (s : ByteArray) : Decidable (LogName s) := by unfold LogName; infer_instance
def FrGood (t : ByteArray) : Prop := 1 ≤ t.size ∧ t.size ≤ 9000
instance (t : ByteArray) : Decidable (FrGood t) := by unfold FrGood; infer_instance
abbrev noB : ByteArray := ⟨#[]⟩
/-- The two operations of a record. -/
def logAV (n t : ByteArray) : List Ac × Bool := if LogName n ∧ FrGood t then ([(1, n, txt (frameL t.data.toList), noB), (2, n, noB, noB)], true) else ([], false)
theorem logAV_yes {n t : ByteArray} (h1 : LogName n) (h2 : FrGood t) : logAV n t = ([(1, n, txt (frameL t.data.toList), noB), (2, n, noB, noB)], true) := if_pos ⟨h1, h2⟩
theorem logAV_no {n t : ByteArray} (h : ¬ (LogName n ∧ FrGood t)) : logAV n t = ([], false) := if_neg h
theorem new_list : newB.toList = [110, 101, 119] := by rw [ByteArray.toList_eq]; rfl
theorem new_same {s : ByteArray} (h : s = newB) : (s.toList == [110, 101, 119]) = true ∧ (s.toList != [110, 101, 119]) = false := by subst h; rw [new_list]; decide
theorem new_other {s : ByteArray} (h : s ≠ newB) : (s.toList == [110, 101, 119]) = false ∧ (s.toList != [110, 101, 119]) = true := by
  have h1 := name_ne h
  rw [new_list] at h1
  exact ⟨h1, by rw [bne, h1]; rfl⟩

theorem iLogName_any (s : ByteArray) (w : World) : Calls Try.prog 83 #[.string s] w fun e w' => e = .returned (.bool (decide (LogName s))) ∧ w = w' := by
  have CN := fun wx => iFileName_any s wx
  by_cases h1 : NameGood s
  · rw [within_yes (by unfold NameGood at h1; omega)] at CN
    have HN := Lib.hid CN
    by_cases h2 : s = newB
    · have HE : Hid (decide (LogName s) = false) := Lib.hid (decide_eq_false (fun h => h.2 h2))
      obtain ⟨z1, z2⟩ := new_same h2
      clear h1 h2 CN
      go_enter Try.func83, Try.ntmps83
      go_wp2_with (go_at_call 66; refine (HN.out _).mono ?_; rintro e w' ⟨rfl, rfl⟩)
      go_ret
      exact ⟨by rw [HE.out]; rfl, rfl⟩
    · have HE : Hid (decide (LogName s) = true) := Lib.hid (decide_eq_true ⟨h1, h2⟩)
      obtain ⟨z1, z2⟩ := new_other h2
      clear h1 h2 CN
      go_enter Try.func83, Try.ntmps83
      go_wp2_with (go_at_call 66; refine (HN.out _).mono ?_; rintro e w' ⟨rfl, rfl⟩)
      go_ret
      exact ⟨by rw [HE.out]; rfl, rfl⟩
  · rw [within_not (by unfold NameGood at h1; omega)] at CN
    have HN := Lib.hid CN
    have HE : Hid (decide (LogName s) = false) := Lib.hid (decide_eq_false (fun h => h1 h.1))
    clear h1 CN
    go_enter Try.func83, Try.ntmps83
    go_wp2_with (go_at_call 66; refine (HN.out _).mono ?_; rintro e w' ⟨rfl, rfl⟩)
    go_ret
    exact ⟨by rw [HE.out]; rfl, rfl⟩

theorem sLogName_any (s : ByteArray) (w : World) : Calls Try.prog 81 #[.string s] w fun e w' => e = .returned (.bool (decide (LogName s))) ∧ w = w' := by
  have CN := fun wx => l01In_any s.size 1 8 wx
  by_cases h1 : NameGood s
  · rw [within_yes (by unfold NameGood at h1; omega)] at CN
    have HN := Lib.hid CN
    by_cases h2 : s = newB
    · have HE : Hid (decide (LogName s) = false) := Lib.hid (decide_eq_false (fun h => h.2 h2))
      obtain ⟨z1, z2⟩ := new_same h2
      clear h1 h2 CN
      go_enter Try.func81, Try.ntmps81
      go_wp2_with (go_at_call 64; refine (HN.out _).mono ?_; rintro e w' ⟨rfl, rfl⟩)
      go_ret
      exact ⟨by rw [HE.out]; rfl, rfl⟩
    · have HE : Hid (decide (LogName s) = true) := Lib.hid (decide_eq_true ⟨h1, h2⟩)
      obtain ⟨z1, z2⟩ := new_other h2
      clear h1 h2 CN
      go_enter Try.func81, Try.ntmps81
      go_wp2_with (go_at_call 64; refine (HN.out _).mono ?_; rintro e w' ⟨rfl, rfl⟩)
      go_ret
      exact ⟨by rw [HE.out]; rfl, rfl⟩
  · rw [within_not (by unfold NameGood at h1; omega)] at CN
    have HN := Lib.hid CN
    have HE : Hid (decide (LogName s) = false) := Lib.hid (decide_eq_false (fun h => h1 h.1))
    clear h1 CN
    go_enter Try.func81, Try.ntmps81
    go_wp2_with (go_at_call 64; refine (HN.out _).mono ?_; rintro e w' ⟨rfl, rfl⟩)
    go_ret
    exact ⟨by rw [HE.out]; rfl, rfl⟩

theorem actC_two (n t : ByteArray) : actC [(1, n, t, noB), (2, n, noB, noB)] = [.int .i64 1, .string n, .string t, .string noB, .int .i64 2, .string n, .string noB, .string noB] := rfl

set_option maxHeartbeats 1000000 in
theorem iLogActs_any (n t : ByteArray) (w : World) (ht : t.size ≤ 1048576) :
    Calls Try.prog 38 #[.string n, .string t] w fun e w' => (∃ v, e = .returned (.tuple #[v, .bool (logAV n t).2]) ∧ OwnA w' w.heap.size v (logAV n t).1) ∧ Below w.heap.size w w' := by
  have CN := fun wx => iLogName_any n wx
  by_cases h2 : FrGood t
  · have CF := Lib.hid (fun wx => iFrame_yes t h2 wx)
    generalize hf : txt (frameL t.data.toList) = f at *
    by_cases h1 : LogName n
    · have HE := Lib.hid (logAV_yes h1 h2)
      rw [hf] at HE
      rw [decide_eq_true h1] at CN
      have HN := Lib.hid CN
      clear h1 h2 CN hf
      go_enter Try.func38, Try.ntmps38
      go_wp2_with (first | (go_at_call 82; refine (CF.out _).mono ?_; rintro e w1 ⟨rfl, hb1⟩) | (go_at_call 83; refine (HN.out _).mono ?_; rintro e w' ⟨rfl, rfl⟩))
      go_ret2
      rw [HE.out]
      refine ⟨⟨_, rfl, ?_⟩, hb1.alloc hb1.size _⟩
      exact Own.fresh w1 w.heap.size 4 67 (actC [(1, n, f, noB), (2, n, noB, noB)]) _ (by simp [actC]) 2 rfl (by decide) hb1.size
    · have HE := Lib.hid (logAV_no (n := n) (t := t) (fun h => h1 h.1))
      rw [decide_eq_false h1] at CN
      have HN := Lib.hid CN
      clear h1 h2 CN hf
      go_enter Try.func38, Try.ntmps38
      go_wp2_with (first | (go_at_call 82; refine (CF.out _).mono ?_; rintro e w1 ⟨rfl, hb1⟩) | (go_at_call 83; refine (HN.out _).mono ?_; rintro e w' ⟨rfl, rfl⟩))
      go_ret2
      rw [HE.out]
      exact ⟨⟨_, rfl, Own.nil _ _ _⟩, hb1⟩
  · have CF := Lib.hid (fun wx => iFrame_no t h2 ht wx)
    have HE := Lib.hid (logAV_no (n := n) (t := t) (fun h => h2 h.2))
    generalize hq : decide (LogName n) = q at *
    have HN := Lib.hid CN
    clear h2 CN hq
    cases q
    all_goals
      go_enter Try.func38, Try.ntmps38
      go_wp2_with (first | (go_at_call 82; refine (CF.out _).mono ?_; rintro e w1 ⟨rfl, rfl⟩) | (go_at_call 83; refine (HN.out _).mono ?_; rintro e w' ⟨rfl, rfl⟩))
      go_ret2
      rw [HE.out]
      exact ⟨⟨_, rfl, Own.nil _ _ _⟩, Below.refl _ _⟩

set_option maxHeartbeats 1000000 in
theorem sLogActs_any (n t : ByteArray) (w : World) (ht : t.size ≤ 1048576) :
    Calls Try.prog 37 #[.string n, .string t] w fun e w' => (∃ v, e = .returned (.tuple #[v, .bool (logAV n t).2]) ∧ OwnA w' w.heap.size v (logAV n t).1) ∧ Below w.heap.size w w' := by
  have CN := fun wx => sLogName_any n wx
  by_cases h2 : FrGood t
  · have CF := Lib.hid (fun wx => sFrame_yes t h2 wx)
    generalize hf : txt (frameL t.data.toList) = f at *
    by_cases h1 : LogName n
    · have HE := Lib.hid (logAV_yes h1 h2)
      rw [hf] at HE
      rw [decide_eq_true h1] at CN
      have HN := Lib.hid CN
      clear h1 h2 CN hf
      go_enter Try.func37, Try.ntmps37
      go_wp2_with (first | (go_at_call 80; refine (CF.out _).mono ?_; rintro e w1 ⟨rfl, hb1⟩) | (go_at_call 81; refine (HN.out _).mono ?_; rintro e w' ⟨rfl, rfl⟩))
      go_ret2
      rw [HE.out]
      refine ⟨⟨_, rfl, ?_⟩, hb1.alloc hb1.size _⟩
      exact Own.fresh w1 w.heap.size 4 67 (actC [(1, n, f, noB), (2, n, noB, noB)]) _ (by simp [actC]) 2 rfl (by decide) hb1.size
    · have HE := Lib.hid (logAV_no (n := n) (t := t) (fun h => h1 h.1))
      rw [decide_eq_false h1] at CN
      have HN := Lib.hid CN
      clear h1 h2 CN hf
      go_enter Try.func37, Try.ntmps37
      go_wp2_with (first | (go_at_call 80; refine (CF.out _).mono ?_; rintro e w1 ⟨rfl, hb1⟩) | (go_at_call 81; refine (HN.out _).mono ?_; rintro e w' ⟨rfl, rfl⟩))
      go_ret2
      rw [HE.out]
      exact ⟨⟨_, rfl, Own.empty _ _ _ _ hb1.size⟩, hb1.alloc hb1.size _⟩
  · have CF := Lib.hid (fun wx => sFrame_no t h2 ht wx)
    have HE := Lib.hid (logAV_no (n := n) (t := t) (fun h => h2 h.2))
    clear h2 CN
    go_enter Try.func37, Try.ntmps37
    go_wp2_with (first | (go_at_call 80; refine (CF.out _).mono ?_; rintro e w1 ⟨rfl, rfl⟩))
    go_ret2
    rw [HE.out]
    exact ⟨⟨_, rfl, Own.empty _ _ _ _ (Nat.le_refl _)⟩, (Below.refl _ _).alloc (Nat.le_refl _) _⟩

end Go.Proofs.Ytdecehecjlbbiaa
