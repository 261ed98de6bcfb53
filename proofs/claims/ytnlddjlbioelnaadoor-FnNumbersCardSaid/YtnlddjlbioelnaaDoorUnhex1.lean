/-
  The walks of reading hexadecimal digits, on both sides.
-/
import Derived.Test.YtnlddjlbioelnaaDoorChecked
import Derived.Test.YtnlddjlbioelnaaDoorPuUnhex
import Derived.Test.YtnlddjlbioelnaaDoorPuSeal
namespace Go.Proofs.YtnlddjlbioelnaaDoor
open Go.RowKit

theorem Tryd.infoU8u : (Tryd.prog.info? 5).map (fun i => (i.zero, i.size, i.bytes)) = some (some (.int .u8 0), 1, 1) := by kernel_rfl

theorem hexDigit_any (n : Int) (h0 : 0 ≤ n) (h1 : n < 256) (w : World) :
    Calls Tryd.prog 32 #[.int .u8 n] w fun e w' => e = .returned (.int .i64 (hexv n)) ∧ w' = w := by
  by_cases ha : 48 ≤ n
  · by_cases hb : n ≤ 57
    · have H := Lib.hid (hexv_num ⟨ha, hb⟩)
      go_enter Tryd.func32, Tryd.ntmps32
      go_wp2_with fail
      go_ret
      exact ⟨by rw [H.out]; rfl, rfl⟩
    · by_cases hc : 97 ≤ n
      · by_cases hd : n ≤ 102
        · have H := Lib.hid (hexv_let ⟨hc, hd⟩)
          go_enter Tryd.func32, Tryd.ntmps32
          go_wp2_with fail
          go_ret
          exact ⟨by rw [H.out, show n - 87 = n - 97 + 10 by omega]; rfl, rfl⟩
        · have H := Lib.hid (hexv_no (n := n) (by omega) (by omega))
          go_enter Tryd.func32, Tryd.ntmps32
          go_wp2_with fail
          go_ret
          exact ⟨by rw [H.out]; rfl, rfl⟩
      · have H := Lib.hid (hexv_no (n := n) (by omega) (by omega))
        go_enter Tryd.func32, Tryd.ntmps32
        go_wp2_with fail
        go_ret
        exact ⟨by rw [H.out]; rfl, rfl⟩
  · have H := Lib.hid (hexv_no (n := n) (by omega) (by omega))
    go_enter Tryd.func32, Tryd.ntmps32
    go_wp2_with fail
    go_ret
    exact ⟨by rw [H.out]; rfl, rfl⟩

set_option maxHeartbeats 1000000 in
set_option maxRecDepth 100000 in
theorem iUnhex_in (s : ByteArray) (h2 : s.size % 2 = 0) (hs : s.size ≤ 40000) (w : World) :
    Calls Tryd.prog 18 #[.string s] w fun e w' => e = .returned (optTxt (unhexL s.data.toList)) ∧ Below w.heap.size w w' := by
  have e2 : ((s.size : Int) % 2 != 0) = false := by rw [bne_eq_false_iff_eq]; omega
  go_enter Tryd.func18, Tryd.ntmps18
  go_wp2_with fail
  clear e2
  go_loopw [4, 5] (fun v i wr => ∃ (k : Nat) (l : List UInt8), 2 * k ≤ s.size ∧ i = .int .i64 (2 * (k : Int)) ∧ l.length ≤ k ∧ Hid (unhexL s.data.toList = (unhexL (s.data.toList.drop (2 * k))).map (l ++ ·)) ∧ OwnB wr w.heap.size v l ∧ Below w.heap.size w wr) (fun _ i _ => s.size - (intOf i).toNat)
  case atStart => exact ⟨0, [], by omega, rfl, by simp, by show _ = _; simp, OwnB.nil _ _, Below.refl _ _⟩
  case round =>
    obtain ⟨k, l, hk, rfl, hl, H, hown, hb⟩ := hrel
    have hbs := hb.size
    by_cases hlt : 2 * k < s.size
    · have hlt1 : 2 * k + 1 < s.size := by omega
      have hd := Lib.hid (drop2 s (2 * k) hlt1)
      have hb0 : (s[2 * k].toNat : Int) < 256 := by have := s[2 * k].toNat_lt; omega
      have hb1 : (s[2 * k + 1].toNat : Int) < 256 := by have := s[2 * k + 1].toNat_lt; omega
      have ha := hexv_le s[2 * k].toNat
      have hc := hexv_le s[2 * k + 1].toNat
      have Hn := Lib.hid hl
      have hl' : l.length ≤ 40000 := by omega
      have hx1 : hexv s[2 * k].toNat ≤ 15 := ha.2
      have hx2 : hexv s[2 * k + 1].toNat ≤ 15 := hc.2
      have hx3 : -1 ≤ hexv s[2 * k].toNat := ha.1
      have hx4 : -1 ≤ hexv s[2 * k + 1].toNat := hc.1
      clear ha hc
      by_cases hA : hexv s[2 * k].toNat < 0
      · go_wp2_with fail
        have q1 : IntKind.i64.wrap (2 * (k : Int) + 1) = 2 * (k : Int) + 1 := IntWalk.i64_in _ (by omega)
        have q2 : (2 * (k : Int) + 1).toNat = 2 * k + 1 := by omega
        have q3 := fun wx => idx_str (P := Tryd.prog) Tryd.underlying9 s (2 * (k : Int)) (2 * k) rfl hlt wx
        have q4 := fun wx => idx_str (P := Tryd.prog) Tryd.underlying9 s (2 * (k : Int) + 1) (2 * k + 1) (by omega) hlt1 wx
        go_quiet ((go_at_call 32; exact Calls.quiet_of_same (hexDigit_any _ (by omega) (by omega) _)))
        clear q1 q2 q3 q4
        go_wp2_with fail
        go_ret2
        exact ⟨by rw [H.out, unhex_bad hd.out (Or.inl hA)]; rfl, below_drewN hb _⟩
      by_cases hB : hexv s[2 * k + 1].toNat < 0
      · have hA' : 0 ≤ hexv s[2 * k].toNat := by omega
        go_wp2_with fail
        have q1 : IntKind.i64.wrap (2 * (k : Int) + 1) = 2 * (k : Int) + 1 := IntWalk.i64_in _ (by omega)
        have q2 : (2 * (k : Int) + 1).toNat = 2 * k + 1 := by omega
        have q3 := fun wx => idx_str (P := Tryd.prog) Tryd.underlying9 s (2 * (k : Int)) (2 * k) rfl hlt wx
        have q4 := fun wx => idx_str (P := Tryd.prog) Tryd.underlying9 s (2 * (k : Int) + 1) (2 * k + 1) (by omega) hlt1 wx
        go_quiet ((go_at_call 32; exact Calls.quiet_of_same (hexDigit_any _ (by omega) (by omega) _)))
        clear q1 q2 q3 q4
        go_wp2_with fail
        go_ret2
        exact ⟨by rw [H.out, unhex_bad hd.out (Or.inr hB)]; rfl, below_drewN hb _⟩
      have hA' : 0 ≤ hexv s[2 * k].toNat := by omega
      have hB' : 0 ≤ hexv s[2 * k + 1].toNat := by omega
      have Hx : Hid ([Value.int .u8 (16 * hexv s[2 * k].toNat + hexv s[2 * k + 1].toNat)] = u8s [UInt8.ofNat (16 * hexv s[2 * k].toNat + hexv s[2 * k + 1].toNat).toNat]) := u8_cell (by rw [ofNat_mod]; omega)
      · go_wp2_with fail
        have q1 : IntKind.i64.wrap (2 * (k : Int) + 1) = 2 * (k : Int) + 1 := IntWalk.i64_in _ (by omega)
        have q2 : (2 * (k : Int) + 1).toNat = 2 * k + 1 := by omega
        have q3 := fun wx => idx_str (P := Tryd.prog) Tryd.underlying9 s (2 * (k : Int)) (2 * k) rfl hlt wx
        have q4 := fun wx => idx_str (P := Tryd.prog) Tryd.underlying9 s (2 * (k : Int) + 1) (2 * k + 1) (by omega) hlt1 wx
        go_quiet ((go_at_call 32; exact Calls.quiet_of_same (hexDigit_any _ (by omega) (by omega) _)))
        clear q1 q2 q3 q4
        have hownq := hown.drewN nq
        go_wp2_with (at_builtin; refine wpList_push_u8w _ _ rfl _ _ 27 rfl 5 Tryd.underlying27 Tryd.infoU8u _ _ l rfl hownq _ _ Hx.out 1 1 rfl _ rfl rfl (by omega) hbs rfl ?_; intro v1 w1 hown1 hg1 hb1)
        refine ⟨⟨k + 1, _, by omega, by congr 1, by rw [List.length_append]; exact Nat.add_le_add_right Hn.out 1, ?_, hown1, (below_drewN hb _).trans hb1⟩, by simp [intOf]; omega⟩
        show _ = _
        rw [H.out, unhex_good hd.out (by omega), Option.map_map]
        congr 1
        funext t
        simp
    · have hend : s.data.toList.drop (2 * k) = [] := List.drop_of_length_le (by simp; omega)
      have hr : unhexL s.data.toList = some l := by rw [H.out, hend]; simp [unhexL]
      have Hr := Lib.hid hr
      have hc := hown.text 27 9 5 Tryd.underlying27 Tryd.underlying5 Tryd.underlying9
      clear hr hend H
      go_wp2_with fail
      go_ret2
      exact ⟨by rw [Hr.out]; rfl, hb⟩

theorem iUnhex_out (s : ByteArray) (h : ¬ (s.size % 2 = 0 ∧ s.size ≤ 40000)) (hs : s.size ≤ 1048576) (w : World) :
    Calls Tryd.prog 18 #[.string s] w fun e w' => e = .returned (.tuple #[.string ⟨#[]⟩, .bool false]) ∧ w = w' := by
  by_cases h2 : s.size % 2 = 0
  · have e2 : ((s.size : Int) % 2 != 0) = false := by rw [bne_eq_false_iff_eq]; omega
    have h4 : (40000 : Int) < s.size := by omega
    clear h h2
    go_enter Tryd.func18, Tryd.ntmps18
    go_wp2_with fail
    go_ret2
    exact ⟨rfl, rfl⟩
  · have e2 : ((s.size : Int) % 2 != 0) = true := by rw [bne_iff_ne]; omega
    by_cases h4 : (40000 : Int) < s.size
    all_goals
      clear h h2
      go_enter Tryd.func18, Tryd.ntmps18
      go_wp2_with fail
      go_ret2
      exact ⟨rfl, rfl⟩

theorem iUnhex_any (s : ByteArray) (hs : s.size ≤ 1048576) (w : World) : Calls Tryd.prog 18 #[.string s] w fun e w' => e = .returned (optTxt (unhexAll s.data.toList)) ∧ Below w.heap.size w w' := by
  have hl : s.data.toList.length = s.size := by rw [Array.length_toList]; rfl
  by_cases h : s.size % 2 = 0 ∧ s.size ≤ 40000
  · have e : unhexAll s.data.toList = unhexL s.data.toList := by rw [unhexAll, hl, if_pos h]
    rw [e]; exact iUnhex_in s h.1 h.2 w
  · have e : unhexAll s.data.toList = none := by rw [unhexAll, hl, if_neg h]
    rw [e]; exact below_of_same (iUnhex_out s h hs w)

end Go.Proofs.YtnlddjlbioelnaaDoor
