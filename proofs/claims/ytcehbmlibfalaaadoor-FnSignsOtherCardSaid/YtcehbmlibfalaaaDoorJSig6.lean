/-
  The walks of a signature's form.
-/
import Derived.Test.YtcehbmlibfalaaaDoorJSig5
namespace Go.Proofs.YtcehbmlibfalaaaDoor
open Go.RowKit

theorem sigForm_eq (p : Int) (o s d : List ByteArray) : decide (SigForm p o s d) = (within p 0 15 && (decide (WideL o 8) && (decide (WideL s 8) && decide (WideL d 4)))) := by
  by_cases h : 0 ≤ p ∧ p ≤ 15
  · rw [within_yes h, Bool.true_and]
    by_cases h1 : WideL o 8 <;> by_cases h2 : WideL s 8 <;> by_cases h3 : WideL d 4 <;> simp [SigForm, h, h1, h2, h3]
  · rw [within_not h, Bool.false_and]
    exact decide_eq_false (fun h2 => h h2.1)

set_option maxHeartbeats 2000000 in
theorem sForm_any (v : Value) (p : Int) (o s d : List ByteArray) (w : World) (ho : o.length ≤ 1048576) (hs : s.length ≤ 1048576) (hd : d.length ≤ 1048576) (ho' : ∀ x ∈ o, x.size ≤ 1048576) (hs' : ∀ x ∈ s, x.size ≤ 1048576) (hd' : ∀ x ∈ d, x.size ≤ 1048576) (h : RdSig w v p o s d) :
    Calls Tryd.prog 67 #[v] w fun e w' => e = .returned (.bool (decide (SigForm p o s d))) ∧ Below w.heap.size w w' := by
  obtain ⟨a1, c1, a2, c2, a3, c3, rfl, r1, r2, r3⟩ := h
  have hB := (Below.refl w.heap.size w).alloc (Nat.le_refl _) (.cells #[.int .i64 p, .slice a1 o.length c1, .slice a2 s.length c2, .slice a3 d.length c3] 46)
  have C0 := fun wx => l01In_any p 0 15 wx
  have C1 := sWide_any a1 c1 o 8 _ ho ho' (r1.below hB (Nat.le_refl _))
  have C2 := sWide_any a2 c2 s 8 _ hs hs' (r2.below hB (Nat.le_refl _))
  have C3 := sWide_any a3 c3 d 4 _ hd hd' (r3.below hB (Nat.le_refl _))
  have HB := Lib.hid hB
  rw [sigForm_eq]
  clear r1 r2 r3 hB ho hs hd ho' hs' hd'
  generalize within p 0 15 = q0 at *
  generalize decide (WideL o 8) = q1 at *
  generalize decide (WideL s 8) = q2 at *
  generalize decide (WideL d 4) = q3 at *
  have D0 := Lib.hid C0
  have D1 := Lib.hid C1
  have D2 := Lib.hid C2
  have D3 := Lib.hid C3
  clear C0 C1 C2 C3
  cases q0
  · go_enter Tryd.func67, Tryd.ntmps67
    go_wp2_with (go_at_call 61; refine (D0.out _).mono ?_; rintro e w' ⟨rfl, rfl⟩)
    go_ret
    exact ⟨rfl, HB.out⟩
  · cases q1
    · go_enter Tryd.func67, Tryd.ntmps67
      go_wp2_with (go_at_call 61; refine (D0.out _).mono ?_; rintro e w' ⟨rfl, rfl⟩)
      refine D1.out.mono ?_
      rintro e w' ⟨rfl, rfl⟩
      go_wp2_with fail
      go_ret
      exact ⟨rfl, HB.out⟩
    · cases q2
      · go_enter Tryd.func67, Tryd.ntmps67
        go_wp2_with (go_at_call 61; refine (D0.out _).mono ?_; rintro e w' ⟨rfl, rfl⟩)
        refine D1.out.mono ?_
        rintro e w' ⟨rfl, rfl⟩
        go_wp2_with fail
        refine D2.out.mono ?_
        rintro e w' ⟨rfl, rfl⟩
        go_wp2_with fail
        go_ret
        exact ⟨rfl, HB.out⟩
      · cases q3
        · go_enter Tryd.func67, Tryd.ntmps67
          go_wp2_with (go_at_call 61; refine (D0.out _).mono ?_; rintro e w' ⟨rfl, rfl⟩)
          refine D1.out.mono ?_
          rintro e w' ⟨rfl, rfl⟩
          go_wp2_with fail
          refine D2.out.mono ?_
          rintro e w' ⟨rfl, rfl⟩
          go_wp2_with fail
          refine D3.out.mono ?_
          rintro e w' ⟨rfl, rfl⟩
          go_wp2_with fail
          go_ret
          exact ⟨rfl, HB.out⟩
        · go_enter Tryd.func67, Tryd.ntmps67
          go_wp2_with (go_at_call 61; refine (D0.out _).mono ?_; rintro e w' ⟨rfl, rfl⟩)
          refine D1.out.mono ?_
          rintro e w' ⟨rfl, rfl⟩
          go_wp2_with fail
          refine D2.out.mono ?_
          rintro e w' ⟨rfl, rfl⟩
          go_wp2_with fail
          refine D3.out.mono ?_
          rintro e w' ⟨rfl, rfl⟩
          go_wp2_with fail
          go_ret
          exact ⟨rfl, HB.out⟩

set_option maxHeartbeats 2000000 in
theorem iForm_any (v : Value) (p : Int) (o s d : List ByteArray) (w : World) (ho : o.length ≤ 1048576) (hs : s.length ≤ 1048576) (hd : d.length ≤ 1048576) (ho' : ∀ x ∈ o, x.size ≤ 1048576) (hs' : ∀ x ∈ s, x.size ≤ 1048576) (hd' : ∀ x ∈ d, x.size ≤ 1048576) (h : RdSig w v p o s d) :
    Calls Tryd.prog 69 #[v] w fun e w' => e = .returned (.bool (decide (SigForm p o s d))) ∧ Below w.heap.size w w' := by
  obtain ⟨a1, c1, a2, c2, a3, c3, rfl, r1, r2, r3⟩ := h
  have hB := (Below.refl w.heap.size w).alloc (Nat.le_refl _) (.cells #[.int .i64 p, .slice a1 o.length c1, .slice a2 s.length c2, .slice a3 d.length c3] 46)
  have C0 := fun wx => in_any p 0 15 wx
  have C1 := iWide_any a1 c1 o 8 _ ho ho' (r1.below hB (Nat.le_refl _))
  have C2 := iWide_any a2 c2 s 8 _ hs hs' (r2.below hB (Nat.le_refl _))
  have C3 := iWide_any a3 c3 d 4 _ hd hd' (r3.below hB (Nat.le_refl _))
  have HB := Lib.hid hB
  rw [sigForm_eq]
  clear r1 r2 r3 hB ho hs hd ho' hs' hd'
  generalize within p 0 15 = q0 at *
  generalize decide (WideL o 8) = q1 at *
  generalize decide (WideL s 8) = q2 at *
  generalize decide (WideL d 4) = q3 at *
  have D0 := Lib.hid C0
  have D1 := Lib.hid C1
  have D2 := Lib.hid C2
  have D3 := Lib.hid C3
  clear C0 C1 C2 C3
  cases q0
  · go_enter Tryd.func69, Tryd.ntmps69
    go_wp2_with (go_at_call 59; refine (D0.out _).mono ?_; rintro e w' ⟨rfl, rfl⟩)
    go_ret
    exact ⟨rfl, HB.out⟩
  · cases q1
    · go_enter Tryd.func69, Tryd.ntmps69
      go_wp2_with (go_at_call 59; refine (D0.out _).mono ?_; rintro e w' ⟨rfl, rfl⟩)
      refine D1.out.mono ?_
      rintro e w' ⟨rfl, rfl⟩
      go_wp2_with fail
      go_ret
      exact ⟨rfl, HB.out⟩
    · cases q2
      · go_enter Tryd.func69, Tryd.ntmps69
        go_wp2_with (go_at_call 59; refine (D0.out _).mono ?_; rintro e w' ⟨rfl, rfl⟩)
        refine D1.out.mono ?_
        rintro e w' ⟨rfl, rfl⟩
        go_wp2_with fail
        refine D2.out.mono ?_
        rintro e w' ⟨rfl, rfl⟩
        go_wp2_with fail
        go_ret
        exact ⟨rfl, HB.out⟩
      · cases q3
        · go_enter Tryd.func69, Tryd.ntmps69
          go_wp2_with (go_at_call 59; refine (D0.out _).mono ?_; rintro e w' ⟨rfl, rfl⟩)
          refine D1.out.mono ?_
          rintro e w' ⟨rfl, rfl⟩
          go_wp2_with fail
          refine D2.out.mono ?_
          rintro e w' ⟨rfl, rfl⟩
          go_wp2_with fail
          refine D3.out.mono ?_
          rintro e w' ⟨rfl, rfl⟩
          go_wp2_with fail
          go_ret
          exact ⟨rfl, HB.out⟩
        · go_enter Tryd.func69, Tryd.ntmps69
          go_wp2_with (go_at_call 59; refine (D0.out _).mono ?_; rintro e w' ⟨rfl, rfl⟩)
          refine D1.out.mono ?_
          rintro e w' ⟨rfl, rfl⟩
          go_wp2_with fail
          refine D2.out.mono ?_
          rintro e w' ⟨rfl, rfl⟩
          go_wp2_with fail
          refine D3.out.mono ?_
          rintro e w' ⟨rfl, rfl⟩
          go_wp2_with fail
          go_ret
          exact ⟨rfl, HB.out⟩

end Go.Proofs.YtcehbmlibfalaaaDoor
