/-
  The walks of pools and their roots.
-/
import Derived.Test.YtcehbmlibfalaaaDoorJPool1
import Derived.Test.YtcehbmlibfalaaaDoorBase6
namespace Go.Proofs.YtcehbmlibfalaaaDoor
open Go.RowKit

set_option maxHeartbeats 1000000 in
theorem sPoolOf_any (s : ByteArray) (hs : s.size ≤ 1048576) (w : World) :
    Calls Tryd.prog 18 #[.string s] w fun e w' => (∃ v, e = .returned v ∧ OwnS w' w.heap.size v (poolTo s 16)) ∧ Below w.heap.size w w' := by
  go_enter Tryd.func18, Tryd.ntmps18
  go_wp2_with fail
  go_loopw [3, 4] (fun v i wr => ∃ b : Nat, b ≤ 16 ∧ i = .int .i64 b ∧ OwnS wr w.heap.size v (poolTo s b) ∧ Below w.heap.size w wr) (fun _ i _ => 16 - (intOf i).toNat)
  case atStart => exact ⟨0, Nat.zero_le _, rfl, OwnS.empty _ _ _ (Nat.le_refl _), (Below.refl _ _).alloc (Nat.le_refl _) _⟩
  case round =>
    obtain ⟨b, hb16, rfl, hown, hb⟩ := hrel
    have hbs := hb.size
    by_cases hlt : b < 16
    · have hnext := poolTo_next s b
      have hpl : (poolTo s b).length ≤ 32 := by rw [poolTo_len]; omega
      have C0 := fun wx => sPublicOf_any s hs b wx
      generalize pubL s b = d at *
      generalize poolTo s b = pl at *
      have C := Lib.hid C0
      have HN := Lib.hid hnext
      clear C0 hnext
      go_wp2_with fail
      refine (C.out _).mono ?_
      rintro e w2 ⟨rfl, hb2⟩
      have hown2 := hown.below hb2 (Nat.le_refl _)
      have hb02 := hb.trans (hb2.mono hbs)
      have hbs2 := hb02.size
      clear hown hb hb2
      go_wp2_with (at_builtin; refine wpList_push_strs _ _ rfl _ _ 24 rfl 9 Tryd.underlying24 Tryd.infoStr _ _ pl rfl hown2 _ [txt d] rfl 1 1 rfl _ rfl rfl (by omega) hbs2 rfl ?_; intro v1 w3 hown3 hg3 hb3)
      exact ⟨⟨b + 1, by omega, by go_num, by rw [HN.out]; exact hown3, hb02.trans hb3⟩, by simp [intOf] <;> omega⟩
    · obtain rfl : b = 16 := by omega
      have Ho := Lib.hid hown
      clear hown
      go_wp2_with fail
      go_ret
      exact ⟨⟨_, rfl, Ho.out⟩, hb⟩

set_option maxHeartbeats 1000000 in
theorem iPoolOf_any (s : ByteArray) (hs : s.size ≤ 1048576) (w : World) (hT : YtcehbmlibfalaaaDoorTabs w) :
    Calls Tryd.prog 19 #[.string s] w fun e w' => (∃ v, e = .returned v ∧ OwnS w' w.heap.size v (poolTo s 16)) ∧ Below w.heap.size w w' := by
  have HT := Lib.hid hT
  clear hT
  go_enter Tryd.func19, Tryd.ntmps19
  go_wp2_with fail
  go_loopw [3, 5] (fun v i wr => ∃ b : Nat, b ≤ 16 ∧ i = .int .i64 b ∧ OwnS wr w.heap.size v (poolTo s b) ∧ Below w.heap.size w wr) (fun _ i _ => 16 - (intOf i).toNat)
  case atStart => exact ⟨0, Nat.zero_le _, rfl, OwnS.nil _ _, Below.refl _ _⟩
  case round =>
    obtain ⟨b, hb16, rfl, hown, hb⟩ := hrel
    have hbs := hb.size
    by_cases hlt : b < 16
    · have hnext := poolTo_next s b
      have hpl : (poolTo s b).length ≤ 32 := by rw [poolTo_len]; omega
      have C0 := fun wx hx => iPublicOf_any s hs b wx hx
      generalize pubL s b = d at *
      generalize poolTo s b = pl at *
      have C := Lib.hid C0
      have HN := Lib.hid hnext
      clear C0 hnext
      go_wp2_with fail
      refine (C.out _ (HT.out.below hb (Nat.le_refl _))).mono ?_
      rintro e w2 ⟨rfl, hb2⟩
      have hown2 := hown.below hb2 (Nat.le_refl _)
      have hb02 := hb.trans (hb2.mono hbs)
      have hbs2 := hb02.size
      clear hown hb hb2
      go_wp2_with (at_builtin; refine wpList_push_strs _ _ rfl _ _ 24 rfl 9 Tryd.underlying24 Tryd.infoStr _ _ pl rfl hown2 _ [txt d] rfl 1 1 rfl _ rfl rfl (by omega) hbs2 rfl ?_; intro v1 w3 hown3 hg3 hb3)
      exact ⟨⟨b + 1, by omega, by go_num, by rw [HN.out]; exact hown3, hb02.trans hb3⟩, by simp [intOf] <;> omega⟩
    · obtain rfl : b = 16 := by omega
      have Ho := Lib.hid hown
      clear hown
      go_wp2_with fail
      go_ret
      exact ⟨⟨_, rfl, Ho.out⟩, hb⟩

end Go.Proofs.YtcehbmlibfalaaaDoor
