/-
  The walks of the words: the reference reads a number in base 128.
-/
import Derived.Test.YtdecehecjlbbiaaChecked
import Derived.Test.YtdecehecjlbbiaaWords2
import Derived.Test.YtdecehecjlbbiaaKit2
import Derived.Test.YtdecehecjlbbiaaBits
namespace Go.Proofs.Ytdecehecjlbbiaa
open Go.RowKit

/-- The reference's test that a number is written as shortly as can be, in the walk's spelling. -/
theorem canon_step (s : ByteArray) (p k n C : Nat) (hlt : p + k < s.size) (hV : n = valL ((s.data.toList.drop p).take k) ∧ ∀ x ∈ (s.data.toList.drop p).take k, 128 ≤ x.toNat) (hC : C = 128 ^ k) (hb : s[p + k].toNat < 128) :
    (!(txt (varL (n + s[p + k].toNat % 128 * C))).toList == (s.extract p (p + k + 1)).toList) = decide (s[p + k].toNat = 0 ∧ 0 < k) := by
  have hl : ((s.data.toList.drop p).take k).length = k := by simp; omega
  have e1 : (s.data.toList.drop p).take (k + 1) = (s.data.toList.drop p).take k ++ [s[p + k]] := by
    rw [List.take_succ_eq_append_getElem (by simp; show k < s.size - p; omega), List.getElem_drop]; rfl
  have e2 : p + k + 1 - p = k + 1 := by omega
  have e3 : n + s[p + k].toNat % 128 * C = valL ((s.data.toList.drop p).take k ++ [s[p + k]]) := by
    rw [valL_snoc, hl, ← hV.1, hC]
  rw [extract_txt, same_toList, e2, e1, e3]
  have hc := varL_valL _ s[p + k] hV.2 hb
  have hnil : (s.data.toList.drop p).take k = [] ↔ k = 0 := by
    constructor
    · intro h; rw [h] at hl; simpa using hl.symm
    · intro h; rw [h]; rfl
  rw [hnil] at hc
  by_cases h : s[p + k].toNat = 0 ∧ 0 < k
  · rw [decide_eq_true h]
    have : ¬ (varL (valL ((s.data.toList.drop p).take k ++ [s[p + k]])) = (s.data.toList.drop p).take k ++ [s[p + k]]) := fun hh => by have := hc.1 hh; omega
    simpa using this
  · rw [decide_eq_false h]
    have : varL (valL ((s.data.toList.drop p).take k ++ [s[p + k]])) = (s.data.toList.drop p).take k ++ [s[p + k]] := hc.2 (by omega)
    simpa using this

theorem all_next (s : ByteArray) (p k n C : Nat) (hlt : p + k < s.size) (hV : n = valL ((s.data.toList.drop p).take k) ∧ ∀ x ∈ (s.data.toList.drop p).take k, 128 ≤ x.toNat) (hC : C = 128 ^ k) (hb : 128 ≤ s[p + k].toNat) :
    n + s[p + k].toNat % 128 * C = valL ((s.data.toList.drop p).take (k + 1)) ∧ ∀ x ∈ (s.data.toList.drop p).take (k + 1), 128 ≤ x.toNat := by
  have hl : ((s.data.toList.drop p).take k).length = k := by simp; omega
  have e1 : (s.data.toList.drop p).take (k + 1) = (s.data.toList.drop p).take k ++ [s[p + k]] := by
    rw [List.take_succ_eq_append_getElem (by simp; show k < s.size - p; omega), List.getElem_drop]; rfl
  rw [e1]
  refine ⟨by rw [valL_snoc, hl, ← hV.1, hC], fun x hx => ?_⟩
  rcases List.mem_append.1 hx with hx | hx
  · exact hV.2 x hx
  · rw [List.mem_singleton.1 hx]; exact hb

set_option maxHeartbeats 2000000 in
set_option maxRecDepth 100000 in
theorem sReadVar_any (s : ByteArray) (p : Nat) (hs : s.size ≤ 1048576) (hp : p ≤ s.size) (w : World) :
    Calls Try.prog 107 #[.string s, .int .i64 p] w fun e w' => e = .returned (rvVal (readVar s.data.toList p)) ∧ Below w.heap.size w w' := by
  go_enter Try.func107, Try.ntmps107
  go_wp2_with (go_at_call 64; refine (l01In_yes _ _ _ (by omega) _).mono ?_; rintro e w' ⟨rfl, rfl⟩)
  go_loop [7, 8, 9] (fun a c b => ∃ n k C : Nat, k ≤ 5 ∧ p + k ≤ s.size ∧ n < 128 ^ k ∧ C ≤ 34359738368 ∧ Hid (C = 128 ^ k) ∧ a = .int .i64 n ∧ c = .int .i64 C ∧ b = .int .i64 (p + k : Nat) ∧ Hid (rv 5 0 0 (s.data.toList.drop p) = rv (5 - k) k n (s.data.toList.drop (p + k))) ∧ Hid (n = valL ((s.data.toList.drop p).take k) ∧ ∀ x ∈ (s.data.toList.drop p).take k, 128 ≤ x.toNat)) (fun _ _ b => p + 5 - (intOf b).toNat)
  case atStart => exact ⟨0, 0, 1, by omega, by omega, by decide, by decide, rfl, rfl, rfl, rfl, rfl, rfl, fun x hx => by simp at hx⟩
  case round =>
    obtain ⟨n, k, C, hk, hpk, hn, hC, HC, rfl, rfl, rfl, H, HV⟩ := hrel
    by_cases h5 : k < 5
    · have hn' : n < 34359738368 := Nat.lt_of_lt_of_le hn (Nat.pow_le_pow_right (by decide) hk)
      have hf : 5 - k = (5 - (k + 1)) + 1 := by omega
      have H5 : Hid (rv 5 0 0 (s.data.toList.drop p) = rv ((5 - (k + 1)) + 1) k n (s.data.toList.drop (p + k))) := by rw [← hf]; exact H
      clear hf H
      by_cases hlt : p + k < s.size
      · have hlt' : (p : Int) + k < s.size := by omega
        have hb0 : (s[p + k].toNat : Int) < 256 := by have := s[p + k].toNat_lt; omega
        have hdr := Lib.hid (drop_at s (p + k) hlt)
        have hm := mul_next s[p + k].toNat k
        have ht := boundT s[p + k].toNat k h5
        rw [← HC.out] at hm ht
        have hT0 : (0 : Int) ≤ (s[p + k].toNat : Int) % 128 * C := by have : (0 : Int) ≤ ((s[p + k].toNat % 128 * C : Nat) : Int) := by omega
                                                                      simpa using this
        have hT1 : (s[p + k].toNat : Int) % 128 * C ≤ 34091302912 := by have : ((s[p + k].toNat % 128 * C : Nat) : Int) ≤ 34091302912 := by omega
                                                                        simpa using this
        have Hm := Lib.hid hm
        have Hn := Lib.hid hn
        clear hm ht hn
        by_cases hb : (128 : Int) ≤ s[p + k].toNat
        · go_wp2_with fail
          go_round
          case rel => exact ⟨n + s[p + k].toNat % 128 * C, k + 1, C * 128, by omega, by omega, pow_next Hn.out (by rw [HC.out]; exact mul_next _ _), by rw [HC.out]; have := Nat.pow_le_pow_right (show 0 < 128 by decide) (show k ≤ 4 by omega); omega, by show _ = 128 ^ (k + 1); rw [HC.out, Nat.pow_succ], by push_cast; rfl, by push_cast; rfl, by push_cast; rw [Int.add_assoc], H5.out.trans (by rw [HC.out]; exact rv_more hdr.out (by omega)), all_next s p k n C hlt HV.out HC.out (by omega)⟩
          case measure => simp [intOf]; omega
        · by_cases hV : (1000000000 : Int) < (n : Int) + (s[p + k].toNat : Int) % 128 * C
          · go_wp2_with fail
            go_quiet (fail)
            go_wp2_with fail
            go_ret3
            have hbig : 1000000000 < n + s[p + k].toNat % 128 * 128 ^ k := by
              rw [← HC.out]
              have : ((n + s[p + k].toNat % 128 * C : Nat) : Int) = (n : Int) + (s[p + k].toNat : Int) % 128 * C := by push_cast; rfl
              omega
            exact ⟨by rw [rvVal_none (readVar_none hp (H5.out.trans (rv_bad hdr.out (by omega) (Or.inr hbig))))]; rfl, below_drewN (Below.refl _ _) _⟩
          · go_wp2_with fail
            have q1 : IntKind.i64.wrap ((p : Int) + k + 1) = (p : Int) + k + 1 := IntWalk.i64_in _ (by omega)
            have q2 := fun wx => cut_str (P := Try.prog) Try.underlying9 s (p : Int) ((p : Int) + k + 1) p (p + k + 1) rfl (by omega) (by omega) (by omega) wx
            refine wp_region_quiet_below Try.checked.mixed (by kernel_rfl) ?_
            repeat (any_goals (first | go_big_quiet_step ((go_at_call 101; exact Calls.regrown_of (l01Var_int _ (by omega) (by omega) _))) | quiet_step ((go_at_call 101; exact Calls.regrown_of (l01Var_int _ (by omega) (by omega) _)))))
            refine wpQuiet_nil ?_
            intro _ hw'
            obtain ⟨⟨dq, osq⟩, hw''⟩ := hw'
            subst hw''
            go_wp2_with fail
            · rename_i hc
              have hbad : s[p + k].toNat = 0 ∧ 0 < k := by
                rcases hc with hc | hc
                · exact absurd hc (by omega)
                · rw [canon_step s p k n C hlt HV.out HC.out (by omega)] at hc
                  exact of_decide_eq_true hc
              go_ret3
              exact ⟨by rw [rvVal_none (readVar_none hp (H5.out.trans (rv_bad hdr.out (by omega) (Or.inl hbad))))]; rfl, below_regrown w dq osq⟩
            · rename_i hc
              have hok : ¬ (s[p + k].toNat = 0 ∧ 0 < k) := by
                have hc := hc.2
                rw [canon_step s p k n C hlt HV.out HC.out (by omega)] at hc
                exact of_decide_eq_false hc
              have e2 : ((n + s[p + k].toNat % 128 * C : Nat) : Int) = (n : Int) + (s[p + k].toNat : Int) % 128 * C := by push_cast; rfl
              go_ret3
              refine ⟨?_, below_regrown w dq osq⟩
              rw [rvVal_some (readVar_some hp (H5.out.trans (rv_good hdr.out (by omega) (fun hh => hh.elim hok (fun h => by rw [← HC.out] at h; omega))))), ← HC.out, e2]
              rfl
      · have hlt' : (s.size : Int) ≤ p + k := by omega
        go_wp2_with fail
        go_ret3
        exact ⟨by rw [rvVal_none (readVar_none hp (H5.out.trans (rv_nil _ _ _ (by simp; omega))))]; rfl, Below.refl _ _⟩
    · obtain ⟨f, hf⟩ : ∃ f, 5 - k = f := ⟨_, rfl⟩
      have hf0 : f = 0 := by omega
      have H5 : Hid (rv 5 0 0 (s.data.toList.drop p) = none) := by rw [H.out, hf, hf0]; rfl
      clear hf hf0 H hn
      by_cases hlt : p + k < s.size
      all_goals
        go_wp2_with fail
        go_ret3
        exact ⟨by rw [rvVal_none (readVar_none hp H5.out)]; rfl, Below.refl _ _⟩

theorem sReadVar_out (s : ByteArray) (p : Int) (hp : ¬ (0 ≤ p ∧ p ≤ s.size)) (w : World) :
    Calls Try.prog 107 #[.string s, .int .i64 p] w fun e w' => e = .returned (rvVal (readVar s.data.toList p)) ∧ w = w' := by
  have Hp := Lib.hid hp
  clear hp
  go_enter Try.func107, Try.ntmps107
  go_wp2_with (go_at_call 64; refine (l01In_no _ _ _ Hp.out _).mono ?_; rintro e w' ⟨rfl, rfl⟩)
  go_ret3
  exact ⟨by rw [rvVal_none (readVar_out (by simpa using Hp.out))]; rfl, rfl⟩

end Go.Proofs.Ytdecehecjlbbiaa
