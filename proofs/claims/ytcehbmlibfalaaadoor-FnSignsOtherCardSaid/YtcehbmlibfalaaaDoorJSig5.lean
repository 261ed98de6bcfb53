/-
  The walks of a signature's form: so many strings of 16 bytes; the whole.
-/
import Derived.Test.YtcehbmlibfalaaaDoorJStrs1
import Derived.Test.YtcehbmlibfalaaaDoorJBits
import Derived.Test.YtcehbmlibfalaaaDoorBase7
namespace Go.Proofs.YtcehbmlibfalaaaDoor
open Go.RowKit

theorem wide_len {l : List ByteArray} {n : Nat} (h : ∀ x ∈ l, x.size = 16) : decide (WideL l n) = decide ((l.length : Int) = n) := by
  by_cases e : l.length = n
  · rw [decide_eq_true (show WideL l n from ⟨e, h⟩), decide_eq_true (by omega)]
  · rw [decide_eq_false (fun h2 => e h2.1), decide_eq_false (by omega)]
theorem wide_bad {l : List ByteArray} {n : Nat} {x : ByteArray} (hx : x ∈ l) (h : x.size ≠ 16) : decide (WideL l n) = false := decide_eq_false (fun h2 => h (h2.2 x hx))

set_option maxHeartbeats 1000000 in
theorem sWide_any (ao : Option Addr) (cap : Nat) (l : List ByteArray) (n : Nat) (w : World) (hl : l.length ≤ 1048576) (hs : ∀ x ∈ l, x.size ≤ 1048576) (h : RdS w ao l) :
    Calls Tryd.prog 79 #[.slice ao l.length cap, .int .i64 n] w fun e w' => e = .returned (.bool (decide (WideL l n))) ∧ w = w' := by
  have H := Lib.hid h
  have HS := Lib.hid hs
  clear h hs
  go_enter Tryd.func79, Tryd.ntmps79
  go_wp2_with fail
  go_loop [5] (fun i => ∃ k : Nat, k ≤ l.length ∧ i = .int .i64 k ∧ Hid (∀ y ∈ l.take k, y.size = 16)) (fun i => l.length - (intOf i).toNat)
  case atStart => exact ⟨0, Nat.zero_le _, rfl, Lib.hid (by intro y hy; simp at hy)⟩
  case round =>
    obtain ⟨k, hk, rfl, HA⟩ := hrel
    by_cases hlt : k < l.length
    · obtain ⟨x, hx⟩ : ∃ x, l[k]? = some x := ⟨_, List.getElem?_eq_getElem hlt⟩
      obtain ⟨b, o, rfl, hc⟩ := H.out k x hx
      have hxs := HS.out x (List.mem_of_getElem? hx)
      have Hx := Lib.hid hx
      clear hx
      by_cases h16 : x.size = 16
      · have e : ((x.size : Int) != 16) = false := by rw [bne_eq_false_iff_eq]; omega
        go_wp2_with fail
        exact ⟨⟨k + 1, by omega, by go_num, Lib.hid (all_step Hx.out HA.out h16)⟩, by simp [intOf]; omega⟩
      · have e : ((x.size : Int) != 16) = true := by rw [bne_iff_ne]; omega
        have HW := Lib.hid (wide_bad (n := n) (List.mem_of_getElem? Hx.out) h16)
        clear h16
        go_wp2_with fail
        go_ret
        exact ⟨by rw [HW.out]; rfl, rfl⟩
    · obtain rfl : k = l.length := by omega
      have HW := Lib.hid (wide_len (n := n) (by have := HA.out; rwa [List.take_length] at this))
      go_wp2_with fail
      go_ret
      exact ⟨by rw [HW.out]; rfl, rfl⟩

set_option maxHeartbeats 1000000 in
theorem iWide_any (ao : Option Addr) (cap : Nat) (l : List ByteArray) (n : Nat) (w : World) (hl : l.length ≤ 1048576) (hs : ∀ x ∈ l, x.size ≤ 1048576) (h : RdS w ao l) :
    Calls Tryd.prog 80 #[.slice ao l.length cap, .int .i64 n, .int .i64 16] w fun e w' => e = .returned (.bool (decide (WideL l n))) ∧ w = w' := by
  have H := Lib.hid h
  have HS := Lib.hid hs
  clear h hs
  go_enter Tryd.func80, Tryd.ntmps80
  go_wp2_with fail
  go_loop [11, 8] (fun i _ => ∃ k : Nat, k ≤ l.length ∧ i = .int .i64 k ∧ Hid (∀ y ∈ l.take k, y.size = 16)) (fun i _ => l.length - (intOf i).toNat)
  case atStart => exact ⟨0, Nat.zero_le _, rfl, Lib.hid (by intro y hy; simp at hy)⟩
  case round =>
    obtain ⟨k, hk, rfl, HA⟩ := hrel
    by_cases hlt : k < l.length
    · obtain ⟨x, hx⟩ : ∃ x, l[k]? = some x := ⟨_, List.getElem?_eq_getElem hlt⟩
      obtain ⟨b, o, rfl, hc⟩ := H.out k x hx
      have hxs := HS.out x (List.mem_of_getElem? hx)
      have Hx := Lib.hid hx
      clear hx
      by_cases h16 : x.size = 16
      · have e : ((x.size : Int) != 16) = false := by rw [bne_eq_false_iff_eq]; omega
        go_wp2_with fail
        exact ⟨⟨k + 1, by omega, by go_num, Lib.hid (all_step Hx.out HA.out h16)⟩, by simp [intOf]; omega⟩
      · have e : ((x.size : Int) != 16) = true := by rw [bne_iff_ne]; omega
        have HW := Lib.hid (wide_bad (n := n) (List.mem_of_getElem? Hx.out) h16)
        clear h16
        go_wp2_with fail
        go_ret
        exact ⟨by rw [HW.out]; rfl, rfl⟩
    · obtain rfl : k = l.length := by omega
      have HW := Lib.hid (wide_len (n := n) (by have := HA.out; rwa [List.take_length] at this))
      go_wp2_with fail
      go_ret
      exact ⟨by rw [HW.out]; rfl, rfl⟩

end Go.Proofs.YtcehbmlibfalaaaDoor
