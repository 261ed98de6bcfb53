/-
  The walks of the words: reading numbers in base 128, on both sides.
-/
import Derived.Test.YtnlddjlbioelnaaDoorChecked
import Derived.Test.YtnlddjlbioelnaaDoorWords1
import Derived.Test.YtnlddjlbioelnaaDoorBits
namespace Go.Proofs.YtnlddjlbioelnaaDoor
open Go.RowKit

theorem pow_next {n x k : Nat} (hn : n < 128 ^ k) (hx : x ≤ 127 * 128 ^ k) : n + x < 128 ^ (k + 1) := by
  rw [Nat.pow_succ]; omega
theorem mul_next (b k : Nat) : b % 128 * 128 ^ k ≤ 127 * 128 ^ k := Nat.mul_le_mul_right _ (by omega)

set_option maxHeartbeats 2000000 in
set_option maxRecDepth 100000 in
theorem iReadVar_any (s : ByteArray) (p : Nat) (hs : s.size ≤ 1048576) (hp : p ≤ s.size) (w : World) :
    Calls Tryd.prog 13 #[.string s, .int .i64 p] w fun e w' => e = .returned (rvVal (readVar s.data.toList p)) ∧ w = w' := by
  go_enter Tryd.func13, Tryd.ntmps13
  go_wp2_with (go_at_call 21; refine (in_yes _ _ _ (by omega) _).mono ?_; rintro e w' ⟨rfl, rfl⟩)
  go_loop [7, 8] (fun a b => ∃ n k : Nat, k ≤ 5 ∧ p + k ≤ s.size ∧ n < 128 ^ k ∧ a = .int .i64 n ∧ b = .int .i64 k ∧ Hid (rv 5 0 0 (s.data.toList.drop p) = rv (5 - k) k n (s.data.toList.drop (p + k)))) (fun _ b => 5 - (intOf b).toNat)
  case atStart => exact ⟨0, 0, by omega, by omega, by decide, rfl, rfl, rfl⟩
  case round =>
    obtain ⟨n, k, hk, hpk, hn, rfl, rfl, H⟩ := hrel
    by_cases h5 : k < 5
    · have hn' : n < 34359738368 := Nat.lt_of_lt_of_le hn (Nat.pow_le_pow_right (by decide) hk)
      have hf : 5 - k = (5 - (k + 1)) + 1 := by omega
      have H5 : Hid (rv 5 0 0 (s.data.toList.drop p) = rv ((5 - (k + 1)) + 1) k n (s.data.toList.drop (p + k))) := by rw [← hf]; exact H
      clear hf H
      by_cases hlt : p + k < s.size
      · have hlt' : (p : Int) + k < s.size := by omega
        have hb0 : (s[p + k].toNat : Int) < 256 := by have := s[p + k].toNat_lt; omega
        have hdr := Lib.hid (drop_at s (p + k) hlt)
        have hc := castT s[p + k].toNat k
        have hm := mul_next s[p + k].toNat k
        have ht := boundT s[p + k].toNat k h5
        have hT0 : (0 : Int) ≤ (s[p + k].toNat : Int) % 128 * 2 ^ (7 * k) := by rw [← hc]; omega
        have hT1 : (s[p + k].toNat : Int) % 128 * 2 ^ (7 * k) ≤ 34091302912 := by rw [← hc]; omega
        have Hc := Lib.hid hc
        have Hm := Lib.hid hm
        have Hn := Lib.hid hn
        clear hc hm ht hn
        by_cases hb : (128 : Int) ≤ s[p + k].toNat
        · go_wp2_with fail
          go_round
          case rel => exact ⟨n + s[p + k].toNat % 128 * 128 ^ k, k + 1, by omega, by omega, pow_next Hn.out Hm.out, by rw [← Hc.out]; rfl, by go_num, H5.out.trans (rv_more hdr.out (by omega))⟩
          case measure => simp [intOf]; omega
        · by_cases hz : s[p + k].toNat = 0
          · have hz' : (s[p + k].toNat : Int) ≤ 0 := by omega
            have e0 : ((s[p + k].toNat : Int) == 0) = true := by rw [beq_iff_eq]; omega
            have Hz := Lib.hid hz
            clear hz
            by_cases hk0 : 0 < k
            · go_wp2_with fail
              go_ret3
              exact ⟨by rw [rvVal_none (readVar_none hp (H5.out.trans (rv_bad hdr.out (by omega) (Or.inl ⟨Hz.out, hk0⟩))))]; rfl, rfl⟩
            · have hV : (n : Int) + (s[p + k].toNat : Int) % 128 * 2 ^ (7 * k) ≤ 1000000000 := by
                obtain rfl : k = 0 := by omega
                have := Hn.out
                rw [← Hc.out, Hz.out]; omega
              go_wp2_with fail
              go_ret3
              refine ⟨?_, rfl⟩
              rw [rvVal_some (readVar_some hp (H5.out.trans (rv_good hdr.out (by omega) (fun hh => hh.elim (fun h => hk0 h.2) (fun h => by have := Hc.out; omega)))))]
              have e1 := Hc.out
              have e2 : (((n + s[p + k].toNat % 128 * 128 ^ k : Nat)) : Int) = (n : Int) + (s[p + k].toNat : Int) % 128 * 2 ^ (7 * k) := by rw [← e1]; rfl
              rw [e2]; rfl
          · have hz' : (1 : Int) ≤ s[p + k].toNat := by omega
            have e0 : ((s[p + k].toNat : Int) == 0) = false := by rw [beq_eq_false_iff_ne]; omega
            have Hz := Lib.hid hz
            clear hz
            by_cases hV : (1000000000 : Int) < (n : Int) + (s[p + k].toNat : Int) % 128 * 2 ^ (7 * k)
            · go_wp2_with fail
              go_ret3
              exact ⟨by rw [rvVal_none (readVar_none hp (H5.out.trans (rv_bad hdr.out (by omega) (Or.inr (by have := Hc.out; omega)))))]; rfl, rfl⟩
            · go_wp2_with fail
              go_ret3
              refine ⟨?_, rfl⟩
              rw [rvVal_some (readVar_some hp (H5.out.trans (rv_good hdr.out (by omega) (fun hh => hh.elim (fun h => Hz.out h.1) (fun h => by have := Hc.out; omega)))))]
              have e1 := Hc.out
              have e2 : (((n + s[p + k].toNat % 128 * 128 ^ k : Nat)) : Int) = (n : Int) + (s[p + k].toNat : Int) % 128 * 2 ^ (7 * k) := by rw [← e1]; rfl
              rw [e2]; rfl
      · have hlt' : (s.size : Int) ≤ p + k := by omega
        go_wp2_with fail
        go_ret3
        exact ⟨by rw [rvVal_none (readVar_none hp (H5.out.trans (rv_nil _ _ _ (by simp; omega))))]; rfl, rfl⟩
    · obtain ⟨f, hf⟩ : ∃ f, 5 - k = f := ⟨_, rfl⟩
      have hf0 : f = 0 := by omega
      have H5 : Hid (rv 5 0 0 (s.data.toList.drop p) = none) := by rw [H.out, hf, hf0]; rfl
      clear hf hf0 H hn
      go_wp2_with fail
      go_ret3
      exact ⟨by rw [rvVal_none (readVar_none hp H5.out)]; rfl, rfl⟩

theorem iReadVar_out (s : ByteArray) (p : Int) (hp : ¬ (0 ≤ p ∧ p ≤ s.size)) (w : World) :
    Calls Tryd.prog 13 #[.string s, .int .i64 p] w fun e w' => e = .returned (rvVal (readVar s.data.toList p)) ∧ w = w' := by
  have Hp := Lib.hid hp
  clear hp
  go_enter Tryd.func13, Tryd.ntmps13
  go_wp2_with (go_at_call 21; refine (in_no _ _ _ Hp.out _).mono ?_; rintro e w' ⟨rfl, rfl⟩)
  go_ret3
  exact ⟨by rw [rvVal_none (readVar_out (by simpa using Hp.out))]; rfl, rfl⟩

end Go.Proofs.YtnlddjlbioelnaaDoor
