/-
  The walks of the padding, on both sides.
-/
import Derived.Test.YtcehbmlibfalaaaDoorChecked
import Derived.Test.YtcehbmlibfalaaaDoorBase4
namespace Go.Proofs.YtcehbmlibfalaaaDoor
open Go.RowKit

theorem Tryd.infoU8p : (Tryd.prog.info? 5).map (fun i => (i.zero, i.size, i.bytes)) = some (some (.int .u8 0), 1, 1) := by kernel_rfl

set_option maxHeartbeats 1000000 in
theorem iPadText_any (s : ByteArray) (hs : s.size ≤ 1099511627776) (w : World) :
    Calls Tryd.prog 82 #[.string s] w fun e w' => e = .returned (.string (txt (padL s.data.toList))) ∧ Below w.heap.size w w' := by
  have kc := fun wx => run_bytes_of_string (P := Tryd.prog) wx 9 32 5 s Tryd.underlying9 Tryd.underlying32 Tryd.underlying5
  have hl : s.data.toList.length = s.size := by rw [Array.length_toList]; rfl
  have Hl := Lib.hid hl
  clear hl
  have hown := OwnB.ofString w w.heap.size s 5 (Nat.le_refl _) (by unfold maxLen; omega)
  have hz : Hid (((119 : Int) - s.size) % 64 = (padZ s.size : Nat)) := by show _ = _; unfold padZ; omega
  have hz64 := padZ_lt s.size
  have hll : s.data.toList.length ≤ s.size := by rw [Hl.out]; exact Nat.le_refl _
  go_enter Tryd.func82, Tryd.ntmps82
  go_wp2_with (first
    | (at_builtin; refine wpList_push_u8w _ _ rfl _ _ 32 rfl 5 Tryd.underlying32 Tryd.infoU8p _ _ _ rfl hown _ [128] rfl 1 1 rfl _ rfl (by simp) (by omega) (by simp) rfl ?_; intro v1 w1 hown1 hg1 hb1)
    | (at_builtin; refine wpList_push_zeros _ rfl _ _ 32 3 rfl 5 .i64 Tryd.underlying32 Tryd.underlying3 Tryd.infoU8p _ v1 _ rfl hown1 _ (padZ s.size) hz.out rfl (by simp; omega) (by have := hb1.size; simp at this; omega) (hown1.ne_nil (by simp)) ?_; intro v2 w2 hown2 hg2 hb2))
  have hb02 : Below w.heap.size w w2 := by
    refine Below.trans ?_ (hb1.trans hb2)
    exact ((Below.refl _ _).drew).alloc (Nat.le_refl _) _
  clear kc hown hown1 hg1 hg2 hb1 hb2
  go_loopw [4, 5] (fun v i wr => ∃ j : Nat, j ≤ 8 ∧ i = .int .i64 (7 - (j : Int)) ∧ OwnB wr w.heap.size v (s.data.toList ++ [128] ++ List.replicate (padZ s.size) 0 ++ (be64 (8 * s.size)).take j) ∧ Below w.heap.size w wr) (fun _ i _ => (intOf i + 1).toNat)
  case atStart => exact ⟨0, by omega, rfl, by simpa using hown2, hb02⟩
  case round =>
    obtain ⟨j, hj, rfl, hown, hb⟩ := hrel
    have hbs := hb.size
    have hll' : (s.data.toList ++ [128] ++ List.replicate (padZ s.size) 0 ++ (be64 (8 * s.size)).take j).length ≤ s.size + 1000 := by simp [be64_length]; omega
    by_cases h8 : j < 8
    · rcases (show j = 0 ∨ j = 1 ∨ j = 2 ∨ j = 3 ∨ j = 4 ∨ j = 5 ∨ j = 6 ∨ j = 7 from by omega) with rfl | rfl | rfl | rfl | rfl | rfl | rfl | rfl
      · have Hx : Hid ([Value.int .u8 (8 * (s.size : Int) / 72057594037927936)] = u8s [UInt8.ofNat (8 * s.size / 72057594037927936)]) := u8_cell (by rw [ofNat_mod]; omega)
        go_wp2_with (at_builtin; refine wpList_push_u8 _ rfl _ _ 32 rfl 5 Tryd.underlying32 Tryd.infoU8p _ _ _ rfl hown _ _ Hx.out 1 1 rfl rfl (by omega) hbs ?_; intro v1 w1 hown1 hg1 hb1)
        exact ⟨⟨1, by omega, by go_num, by rw [List.append_assoc _ _ [_]] at hown1; exact hown1, hb.trans hb1⟩, by simp [intOf]⟩
      · have Hx : Hid ([Value.int .u8 (8 * (s.size : Int) / 281474976710656)] = u8s [UInt8.ofNat (8 * s.size / 281474976710656)]) := u8_cell (by rw [ofNat_mod]; omega)
        go_wp2_with (at_builtin; refine wpList_push_u8 _ rfl _ _ 32 rfl 5 Tryd.underlying32 Tryd.infoU8p _ _ _ rfl hown _ _ Hx.out 1 1 rfl rfl (by omega) hbs ?_; intro v1 w1 hown1 hg1 hb1)
        exact ⟨⟨2, by omega, by go_num, by rw [List.append_assoc _ _ [_]] at hown1; exact hown1, hb.trans hb1⟩, by simp [intOf]⟩
      · have Hx : Hid ([Value.int .u8 (8 * (s.size : Int) / 1099511627776)] = u8s [UInt8.ofNat (8 * s.size / 1099511627776)]) := u8_cell (by rw [ofNat_mod]; omega)
        go_wp2_with (at_builtin; refine wpList_push_u8 _ rfl _ _ 32 rfl 5 Tryd.underlying32 Tryd.infoU8p _ _ _ rfl hown _ _ Hx.out 1 1 rfl rfl (by omega) hbs ?_; intro v1 w1 hown1 hg1 hb1)
        exact ⟨⟨3, by omega, by go_num, by rw [List.append_assoc _ _ [_]] at hown1; exact hown1, hb.trans hb1⟩, by simp [intOf]⟩
      · have Hx : Hid ([Value.int .u8 (8 * (s.size : Int) / 4294967296 % 256)] = u8s [UInt8.ofNat (8 * s.size / 4294967296)]) := u8_cell (by rw [ofNat_mod]; omega)
        go_wp2_with (at_builtin; refine wpList_push_u8 _ rfl _ _ 32 rfl 5 Tryd.underlying32 Tryd.infoU8p _ _ _ rfl hown _ _ Hx.out 1 1 rfl rfl (by omega) hbs ?_; intro v1 w1 hown1 hg1 hb1)
        exact ⟨⟨4, by omega, by go_num, by rw [List.append_assoc _ _ [_]] at hown1; exact hown1, hb.trans hb1⟩, by simp [intOf]⟩
      · have Hx : Hid ([Value.int .u8 (8 * (s.size : Int) / 16777216 % 256)] = u8s [UInt8.ofNat (8 * s.size / 16777216)]) := u8_cell (by rw [ofNat_mod]; omega)
        go_wp2_with (at_builtin; refine wpList_push_u8 _ rfl _ _ 32 rfl 5 Tryd.underlying32 Tryd.infoU8p _ _ _ rfl hown _ _ Hx.out 1 1 rfl rfl (by omega) hbs ?_; intro v1 w1 hown1 hg1 hb1)
        exact ⟨⟨5, by omega, by go_num, by rw [List.append_assoc _ _ [_]] at hown1; exact hown1, hb.trans hb1⟩, by simp [intOf]⟩
      · have Hx : Hid ([Value.int .u8 (8 * (s.size : Int) / 65536 % 256)] = u8s [UInt8.ofNat (8 * s.size / 65536)]) := u8_cell (by rw [ofNat_mod]; omega)
        go_wp2_with (at_builtin; refine wpList_push_u8 _ rfl _ _ 32 rfl 5 Tryd.underlying32 Tryd.infoU8p _ _ _ rfl hown _ _ Hx.out 1 1 rfl rfl (by omega) hbs ?_; intro v1 w1 hown1 hg1 hb1)
        exact ⟨⟨6, by omega, by go_num, by rw [List.append_assoc _ _ [_]] at hown1; exact hown1, hb.trans hb1⟩, by simp [intOf]⟩
      · have Hx : Hid ([Value.int .u8 (8 * (s.size : Int) / 256 % 256)] = u8s [UInt8.ofNat (8 * s.size / 256)]) := u8_cell (by rw [ofNat_mod]; omega)
        go_wp2_with (at_builtin; refine wpList_push_u8 _ rfl _ _ 32 rfl 5 Tryd.underlying32 Tryd.infoU8p _ _ _ rfl hown _ _ Hx.out 1 1 rfl rfl (by omega) hbs ?_; intro v1 w1 hown1 hg1 hb1)
        exact ⟨⟨7, by omega, by go_num, by rw [List.append_assoc _ _ [_]] at hown1; exact hown1, hb.trans hb1⟩, by simp [intOf]⟩
      · have Hx : Hid ([Value.int .u8 (8 * (s.size : Int) % 256)] = u8s [UInt8.ofNat (8 * s.size)]) := u8_cell (by rw [ofNat_mod]; omega)
        go_wp2_with (at_builtin; refine wpList_push_u8 _ rfl _ _ 32 rfl 5 Tryd.underlying32 Tryd.infoU8p _ _ _ rfl hown _ _ Hx.out 1 1 rfl rfl (by omega) hbs ?_; intro v1 w1 hown1 hg1 hb1)
        exact ⟨⟨8, by omega, by go_num, by rw [List.append_assoc _ _ [_]] at hown1; exact hown1, hb.trans hb1⟩, by simp [intOf]⟩
    · obtain rfl : j = 8 := by omega
      have hfin : s.data.toList ++ [128] ++ List.replicate (padZ s.size) 0 ++ (be64 (8 * s.size)).take 8 = padL s.data.toList := by
        unfold padL; rw [Hl.out]; rfl
      rw [hfin] at hown
      have hc := hown.text 32 9 5 Tryd.underlying32 Tryd.underlying5 Tryd.underlying9
      clear hfin hll'
      go_wp2_with fail
      go_ret
      exact ⟨rfl, hb⟩

set_option maxHeartbeats 1000000 in
theorem sPadText_any (s : ByteArray) (hs : s.size ≤ 1099511627776) (w : World) :
    Calls Tryd.prog 87 #[.string s] w fun e w' => e = .returned (.string (txt (padL s.data.toList))) ∧ Below w.heap.size w w' := by
  have kc := fun wx => run_bytes_of_string (P := Tryd.prog) wx 9 32 5 s Tryd.underlying9 Tryd.underlying32 Tryd.underlying5
  have hl : s.data.toList.length = s.size := by rw [Array.length_toList]; rfl
  have Hl := Lib.hid hl
  clear hl
  have hown := OwnB.ofString w w.heap.size s 5 (Nat.le_refl _) (by unfold maxLen; omega)
  have hz64 := padZ_lt s.size
  have hll : s.data.toList.length ≤ s.size := by rw [Hl.out]; exact Nat.le_refl _
  go_enter Tryd.func87, Tryd.ntmps87
  go_wp2_with (at_builtin; refine wpList_push_u8w _ _ rfl _ _ 32 rfl 5 Tryd.underlying32 Tryd.infoU8p _ _ _ rfl hown _ [128] rfl 1 1 rfl _ rfl (by simp) (by omega) (by simp) rfl ?_; intro v1 w1 hown1 hg1 hb1)
  have hb01 : Below w.heap.size w w1 := by
    refine Below.trans ?_ hb1
    exact ((Below.refl _ _).drew).alloc (Nat.le_refl _) _
  clear kc hown hg1 hb1
  go_loopw [3] (fun v wr => ∃ j : Nat, j ≤ padZ s.size ∧ OwnB wr w.heap.size v (s.data.toList ++ [128] ++ List.replicate j 0) ∧ Below w.heap.size w wr) (fun v _ => s.size + 100 - lenV v)
  case atStart => exact ⟨0, by omega, by simpa using hown1, hb01⟩
  case round =>
    obtain ⟨j, hj, hown, hb⟩ := hrel
    have hbs := hb.size
    have hle : (s.data.toList ++ [128] ++ List.replicate j (0 : UInt8)).length = s.size + 1 + j := by simp; omega
    obtain ⟨ao, cp, rfl⟩ := hown.shape
    rw [hle] at hown
    rw [hle]
    by_cases hlt : j < padZ s.size
    · have hne : (((s.size : Int) + 1 + j) % 64 != 56) = true := by rw [bne_iff_ne]; have := padZ_not s.size j hlt; omega
      go_wp2_with (at_builtin; refine wpList_push_u8 _ rfl _ _ 32 rfl 5 Tryd.underlying32 Tryd.infoU8p _ _ _ rfl hown _ [0] rfl 1 1 rfl rfl (by rw [hle]; omega) hbs ?_; intro v2 w2 hown2 hg2 hb2)
      have hown2 : OwnB w2 w.heap.size v2 (s.data.toList ++ [128] ++ List.replicate (j + 1) 0) := by rw [List.replicate_succ', ← List.append_assoc]; exact hown2
      exact ⟨⟨j + 1, by omega, hown2, hb.trans hb2⟩, by rw [hown2.lenV]; simp [lenV]; omega⟩
    · obtain rfl : j = padZ s.size := by omega
      have hne : (((s.size : Int) + 1 + (padZ s.size : Nat)) % 64 != 56) = false := by rw [bne_eq_false_iff_eq]; have := padZ_end s.size; omega
      go_wp2_with fail
      clear hne hle hown1 hb01
      generalize Value.slice ao (s.size + 1 + padZ s.size) cp = vs at hown
      obtain ⟨wq, hwq⟩ : ∃ wq : World, wq = wr := ⟨_, rfl⟩
      subst hwq
      go_loopw [3, 5] (fun v i wr => ∃ j : Nat, j ≤ 8 ∧ i = .int .i64 (7 - (j : Int)) ∧ OwnB wr w.heap.size v (s.data.toList ++ [128] ++ List.replicate (padZ s.size) 0 ++ (be64 (8 * s.size)).take j) ∧ Below w.heap.size w wr) (fun _ i _ => (intOf i + 1).toNat)
      case atStart => exact ⟨0, by omega, rfl, by simpa using hown, hb⟩
      case round =>
        obtain ⟨j, hj, rfl, hown, hb⟩ := hrel
        have hbs := hb.size
        have hll' : (s.data.toList ++ [128] ++ List.replicate (padZ s.size) 0 ++ (be64 (8 * s.size)).take j).length ≤ s.size + 1000 := by simp [be64_length]; omega
        by_cases h8 : j < 8
        · rcases (show j = 0 ∨ j = 1 ∨ j = 2 ∨ j = 3 ∨ j = 4 ∨ j = 5 ∨ j = 6 ∨ j = 7 from by omega) with rfl | rfl | rfl | rfl | rfl | rfl | rfl | rfl
          · have Hx : Hid ([Value.int .u8 (8 * (s.size : Int) / 72057594037927936)] = u8s [UInt8.ofNat (8 * s.size / 72057594037927936)]) := u8_cell (by rw [ofNat_mod]; omega)
            go_wp2_with (at_builtin; refine wpList_push_u8 _ rfl _ _ 32 rfl 5 Tryd.underlying32 Tryd.infoU8p _ _ _ rfl hown _ _ Hx.out 1 1 rfl rfl (by omega) hbs ?_; intro v1 w1 hown1 hg1 hb1)
            exact ⟨⟨1, by omega, by go_num, by rw [List.append_assoc _ _ [_]] at hown1; exact hown1, hb.trans hb1⟩, by simp [intOf]⟩
          · have Hx : Hid ([Value.int .u8 (8 * (s.size : Int) / 281474976710656)] = u8s [UInt8.ofNat (8 * s.size / 281474976710656)]) := u8_cell (by rw [ofNat_mod]; omega)
            go_wp2_with (at_builtin; refine wpList_push_u8 _ rfl _ _ 32 rfl 5 Tryd.underlying32 Tryd.infoU8p _ _ _ rfl hown _ _ Hx.out 1 1 rfl rfl (by omega) hbs ?_; intro v1 w1 hown1 hg1 hb1)
            exact ⟨⟨2, by omega, by go_num, by rw [List.append_assoc _ _ [_]] at hown1; exact hown1, hb.trans hb1⟩, by simp [intOf]⟩
          · have Hx : Hid ([Value.int .u8 (8 * (s.size : Int) / 1099511627776)] = u8s [UInt8.ofNat (8 * s.size / 1099511627776)]) := u8_cell (by rw [ofNat_mod]; omega)
            go_wp2_with (at_builtin; refine wpList_push_u8 _ rfl _ _ 32 rfl 5 Tryd.underlying32 Tryd.infoU8p _ _ _ rfl hown _ _ Hx.out 1 1 rfl rfl (by omega) hbs ?_; intro v1 w1 hown1 hg1 hb1)
            exact ⟨⟨3, by omega, by go_num, by rw [List.append_assoc _ _ [_]] at hown1; exact hown1, hb.trans hb1⟩, by simp [intOf]⟩
          · have Hx : Hid ([Value.int .u8 (8 * (s.size : Int) / 4294967296 % 256)] = u8s [UInt8.ofNat (8 * s.size / 4294967296)]) := u8_cell (by rw [ofNat_mod]; omega)
            go_wp2_with (at_builtin; refine wpList_push_u8 _ rfl _ _ 32 rfl 5 Tryd.underlying32 Tryd.infoU8p _ _ _ rfl hown _ _ Hx.out 1 1 rfl rfl (by omega) hbs ?_; intro v1 w1 hown1 hg1 hb1)
            exact ⟨⟨4, by omega, by go_num, by rw [List.append_assoc _ _ [_]] at hown1; exact hown1, hb.trans hb1⟩, by simp [intOf]⟩
          · have Hx : Hid ([Value.int .u8 (8 * (s.size : Int) / 16777216 % 256)] = u8s [UInt8.ofNat (8 * s.size / 16777216)]) := u8_cell (by rw [ofNat_mod]; omega)
            go_wp2_with (at_builtin; refine wpList_push_u8 _ rfl _ _ 32 rfl 5 Tryd.underlying32 Tryd.infoU8p _ _ _ rfl hown _ _ Hx.out 1 1 rfl rfl (by omega) hbs ?_; intro v1 w1 hown1 hg1 hb1)
            exact ⟨⟨5, by omega, by go_num, by rw [List.append_assoc _ _ [_]] at hown1; exact hown1, hb.trans hb1⟩, by simp [intOf]⟩
          · have Hx : Hid ([Value.int .u8 (8 * (s.size : Int) / 65536 % 256)] = u8s [UInt8.ofNat (8 * s.size / 65536)]) := u8_cell (by rw [ofNat_mod]; omega)
            go_wp2_with (at_builtin; refine wpList_push_u8 _ rfl _ _ 32 rfl 5 Tryd.underlying32 Tryd.infoU8p _ _ _ rfl hown _ _ Hx.out 1 1 rfl rfl (by omega) hbs ?_; intro v1 w1 hown1 hg1 hb1)
            exact ⟨⟨6, by omega, by go_num, by rw [List.append_assoc _ _ [_]] at hown1; exact hown1, hb.trans hb1⟩, by simp [intOf]⟩
          · have Hx : Hid ([Value.int .u8 (8 * (s.size : Int) / 256 % 256)] = u8s [UInt8.ofNat (8 * s.size / 256)]) := u8_cell (by rw [ofNat_mod]; omega)
            go_wp2_with (at_builtin; refine wpList_push_u8 _ rfl _ _ 32 rfl 5 Tryd.underlying32 Tryd.infoU8p _ _ _ rfl hown _ _ Hx.out 1 1 rfl rfl (by omega) hbs ?_; intro v1 w1 hown1 hg1 hb1)
            exact ⟨⟨7, by omega, by go_num, by rw [List.append_assoc _ _ [_]] at hown1; exact hown1, hb.trans hb1⟩, by simp [intOf]⟩
          · have Hx : Hid ([Value.int .u8 (8 * (s.size : Int) % 256)] = u8s [UInt8.ofNat (8 * s.size)]) := u8_cell (by rw [ofNat_mod]; omega)
            go_wp2_with (at_builtin; refine wpList_push_u8 _ rfl _ _ 32 rfl 5 Tryd.underlying32 Tryd.infoU8p _ _ _ rfl hown _ _ Hx.out 1 1 rfl rfl (by omega) hbs ?_; intro v1 w1 hown1 hg1 hb1)
            exact ⟨⟨8, by omega, by go_num, by rw [List.append_assoc _ _ [_]] at hown1; exact hown1, hb.trans hb1⟩, by simp [intOf]⟩
        · obtain rfl : j = 8 := by omega
          have hfin : s.data.toList ++ [128] ++ List.replicate (padZ s.size) 0 ++ (be64 (8 * s.size)).take 8 = padL s.data.toList := by
            unfold padL; rw [Hl.out]; rfl
          rw [hfin] at hown
          have hc := hown.text 32 9 5 Tryd.underlying32 Tryd.underlying5 Tryd.underlying9
          clear hfin hll'
          go_wp2_with fail
          go_ret
          exact ⟨rfl, hb⟩

end Go.Proofs.YtcehbmlibfalaaaDoor
