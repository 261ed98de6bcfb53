/-
  The walks of the digest's first words, on both sides.
-/
import Derived.Test.YtcibnablgfaepaaDoorChecked
import Derived.Test.YtcibnablgfaepaaDoorPuTab
import Derived.Test.YtcibnablgfaepaaDoorInts1
namespace Go.Proofs.YtcibnablgfaepaaDoor
open Go.RowKit

theorem start_at (k : Nat) (hk : k < 8) : ∃ x : Int, startL[k]? = some x ∧ 0 ≤ x ∧ x < 4294967296 ∧ startL.take (k + 1) = startL.take k ++ [x] := by
  rcases (show k = 0 ∨ k = 1 ∨ k = 2 ∨ k = 3 ∨ k = 4 ∨ k = 5 ∨ k = 6 ∨ k = 7 by omega) with rfl | rfl | rfl | rfl | rfl | rfl | rfl | rfl <;> exact ⟨_, rfl, by decide, by decide, rfl⟩

theorem Tryd.infoU32 : (Tryd.prog.info? 27).map (·.size) = some 1 := by kernel_rfl
set_option maxHeartbeats 2000000 in
theorem iShaStart_any (w : World) (h : TabAt w 0 .u32 startL) :
    Calls Tryd.prog 5 #[] w fun e w' => (∃ v, e = .returned v ∧ OwnI w' w.heap.size v startL) ∧ Below w.heap.size w w' := by
  have c0 := h 0 _ rfl
  have c1 := h 1 _ rfl
  have c2 := h 2 _ rfl
  have c3 := h 3 _ rfl
  have c4 := h 4 _ rfl
  have c5 := h 5 _ rfl
  have c6 := h 6 _ rfl
  have c7 := h 7 _ rfl
  go_enter Tryd.func5, Tryd.ntmps5
  go_wp2_with fail
  clear h c0 c1 c2 c3 c4 c5 c6 c7
  generalize hA : #[Value.int IntKind.u32 1779033703, Value.int IntKind.u32 3144134277, Value.int IntKind.u32 1013904242, Value.int IntKind.u32 2773480762, Value.int IntKind.u32 1359893119, Value.int IntKind.u32 2600822924, Value.int IntKind.u32 528734635, Value.int IntKind.u32 1541459225] = A
  have HA : Hid (A = (startL.map (Value.int .u32)).toArray) := Lib.hid hA.symm
  clear hA
  go_loopw [1, 5] (fun v i wr => ∃ k : Nat, k ≤ 8 ∧ i = .int .i64 k ∧ OwnI wr w.heap.size v (startL.take k) ∧ Below w.heap.size w wr) (fun _ i _ => 8 - (intOf i).toNat)
  case atStart => exact ⟨0, Nat.zero_le _, rfl, OwnI.nil _ _, Below.refl _ _⟩
  case round =>
    obtain ⟨k, hk, rfl, hown, hb⟩ := hrel
    have hbs := hb.size
    have hl : (startL.take k).length ≤ 8 := by rw [List.length_take]; exact Nat.le_trans (Nat.min_le_right _ _) (by decide)
    by_cases hlt : k < 8
    · obtain ⟨x, hx, hx0, hx1, hst⟩ := start_at k hlt
      have q := fun wx => idx_arr (P := Tryd.prog) (k := .i64) Tryd.underlying28 Tryd.underlying27 Tryd.infoU32 A k hlt x (by rw [HA.out]; simp [hx]) wx
      have Hst := Lib.hid hst
      clear hx hst
      go_wp2_with (at_builtin; refine wpList_push_ints _ _ rfl _ _ 22 rfl 3 Tryd.underlying22 Tryd.infoInt _ _ _ rfl hown _ [x] rfl 1 1 rfl _ rfl rfl (by omega) hbs rfl ?_; intro v1 w3 hown3 hg3 hb3)
      exact ⟨⟨k + 1, by omega, by go_num, by rw [Hst.out]; exact hown3, hb.trans hb3⟩, by simp [intOf] <;> omega⟩
    · obtain rfl : k = 8 := by omega
      go_wp2_with fail
      go_ret
      exact ⟨⟨_, rfl, hown⟩, hb⟩

theorem l03First_any (w : World) : Calls Tryd.prog 9 #[] w fun e w' => e = .returned (.agg #[Value.int IntKind.u32 1779033703, Value.int IntKind.u32 3144134277, Value.int IntKind.u32 1013904242, Value.int IntKind.u32 2773480762, Value.int IntKind.u32 1359893119, Value.int IntKind.u32 2600822924, Value.int IntKind.u32 528734635, Value.int IntKind.u32 1541459225]) ∧ Below w.heap.size w w' := by
  go_enter Tryd.func9, Tryd.ntmps9
  go_wp2_with fail
  try simp only [Exit.inBlock, Exit.then]
  refine bodyPost_ret (results_cell_row rfl _ _ w.heap.size _ _ _ _ rfl (alloc_at _ _) Tryd.underlying28 rfl (by kernel_rfl)) rfl ?_
  exact ⟨rfl, (Below.refl _ _).alloc (Nat.le_refl _) _⟩

set_option maxHeartbeats 2000000 in
theorem sShaStart_any (w : World) :
    Calls Tryd.prog 4 #[] w fun e w' => (∃ v, e = .returned v ∧ OwnI w' w.heap.size v startL) ∧ Below w.heap.size w w' := by
  go_enter Tryd.func4, Tryd.ntmps4
  go_wp2_with (go_at_call 9; refine (l03First_any _).mono ?_; rintro e w1 ⟨rfl, hb1⟩)
  have ht : TabAt (w1.alloc (.cells #[Value.int IntKind.u32 1779033703, Value.int IntKind.u32 3144134277, Value.int IntKind.u32 1013904242, Value.int IntKind.u32 2773480762, Value.int IntKind.u32 1359893119, Value.int IntKind.u32 2600822924, Value.int IntKind.u32 528734635, Value.int IntKind.u32 1541459225] 28)) w1.heap.size .u32 startL := tab_new w1 startL .u32 _
  have hbw := hb1.alloc hb1.size (.cells #[Value.int IntKind.u32 1779033703, Value.int IntKind.u32 3144134277, Value.int IntKind.u32 1013904242, Value.int IntKind.u32 2773480762, Value.int IntKind.u32 1359893119, Value.int IntKind.u32 2600822924, Value.int IntKind.u32 528734635, Value.int IntKind.u32 1541459225] 28)
  have hsz := alloc_size w1 (.cells #[Value.int IntKind.u32 1779033703, Value.int IntKind.u32 3144134277, Value.int IntKind.u32 1013904242, Value.int IntKind.u32 2773480762, Value.int IntKind.u32 1359893119, Value.int IntKind.u32 2600822924, Value.int IntKind.u32 528734635, Value.int IntKind.u32 1541459225] 28)
  generalize w1.alloc (.cells #[Value.int IntKind.u32 1779033703, Value.int IntKind.u32 3144134277, Value.int IntKind.u32 1013904242, Value.int IntKind.u32 2773480762, Value.int IntKind.u32 1359893119, Value.int IntKind.u32 2600822924, Value.int IntKind.u32 528734635, Value.int IntKind.u32 1541459225] 28) = W0 at *
  have hws := hb1.size
  generalize w1.heap.size = g at *
  have ho := OwnI.empty W0 (g + 1) 3 (by omega)
  rw [hsz] at ho
  have hb0 := (Below.refl (g + 1) W0).alloc (by omega) (.cells #[] 3)
  go_loopw [2, 3] (fun v i wr => ∃ k : Nat, k ≤ 8 ∧ i = .int .i64 k ∧ OwnI wr (g + 1) v (startL.take k) ∧ Below (g + 1) W0 wr) (fun _ i _ => 8 - (intOf i).toNat)
  case atStart => exact ⟨0, Nat.zero_le _, rfl, ho, hb0⟩
  case round =>
    obtain ⟨k, hk, rfl, hown, hb⟩ := hrel
    have hbs := hb.size
    rw [hsz] at hbs
    have hl : (startL.take k).length ≤ 8 := by rw [List.length_take]; exact Nat.le_trans (Nat.min_le_right _ _) (by decide)
    by_cases hlt : k < 8
    · obtain ⟨x, hx, hx0, hx1, hst⟩ := start_at k hlt
      have hc := (ht.below hb (by omega)) k x hx
      have Hst := Lib.hid hst
      clear hx hst
      go_wp2_with (at_builtin; refine wpList_push_ints _ _ rfl _ _ 22 rfl 3 Tryd.underlying22 Tryd.infoInt _ _ _ rfl hown _ [x] rfl 1 1 rfl _ rfl rfl (by omega) hbs rfl ?_; intro v1 w3 hown3 hg3 hb3)
      exact ⟨⟨k + 1, by omega, by go_num, by rw [Hst.out]; exact hown3, hb.trans hb3⟩, by simp [intOf] <;> omega⟩
    · obtain rfl : k = 8 := by omega
      go_wp2_with fail
      go_ret
      exact ⟨⟨_, rfl, Own.mono hown (by omega)⟩, hbw.trans (hb.mono (by omega))⟩

end Go.Proofs.YtcibnablgfaepaaDoor
