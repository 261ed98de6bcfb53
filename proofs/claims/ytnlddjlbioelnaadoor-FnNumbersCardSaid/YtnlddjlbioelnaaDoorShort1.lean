/-
  The walks of reading a string behind its length, on both sides.
-/
import Derived.Test.YtnlddjlbioelnaaDoorWords3
import Derived.Test.YtnlddjlbioelnaaDoorPuShort
import Derived.Test.YtnlddjlbioelnaaDoorPuSeal
namespace Go.Proofs.YtnlddjlbioelnaaDoor
open Go.RowKit

theorem i_rv (s : ByteArray) (p : Int) (hs : s.size ≤ 1048576) (w : World) : Calls Tryd.prog 13 #[.string s, .int .i64 p] w fun e w' => e = .returned (rvVal (readVar s.data.toList p)) ∧ Below w.heap.size w w' := by
  by_cases h : 0 ≤ p ∧ p ≤ s.size
  · obtain ⟨q, rfl⟩ := Int.eq_ofNat_of_zero_le h.1
    exact below_of_same (iReadVar_any s q hs (by omega) w)
  · exact below_of_same (iReadVar_out s p h w)

set_option maxHeartbeats 1000000 in
theorem iReadShort_any (s : ByteArray) (p : Int) (hs : s.size ≤ 1048576) (w : World) : Calls Tryd.prog 16 #[.string s, .int .i64 p] w fun e w' => e = .returned (rsVal (readShort s.data.toList p)) ∧ Below w.heap.size w w' := by
  have hl : s.data.toList.length = s.size := by rw [Array.length_toList]; rfl
  have C := Lib.hid (fun w => i_rv s p hs w)
  rcases hr : readVar s.data.toList p with _ | ⟨m, q⟩
  · have H := Lib.hid (readShort_none hr)
    rw [hr] at C
    simp only [rvVal] at C
    clear hr hl
    go_enter Tryd.func16, Tryd.ntmps16
    go_wp2_with (go_at_call 13; refine (C.out _).mono ?_; rintro e w1 ⟨rfl, hb1⟩)
    go_ret3
    exact ⟨by rw [H.out]; rfl, hb1⟩
  · obtain ⟨hm, hq⟩ := readVar_bounds hr
    rw [hl] at hq
    by_cases h : m ≤ 20000 ∧ m ≤ s.data.toList.length - q
    · have H := Lib.hid (readShort_yes hr h)
      rw [hr] at C
      simp only [rvVal] at C
      obtain ⟨h1, h2⟩ := h
      rw [hl] at h2
      have c1 := fun wx => cut_str (P := Tryd.prog) Tryd.underlying9 s (q : Int) ((q : Int) + m) q (q + m) rfl (by omega) (by omega) (by omega) wx
      clear hr hl
      go_enter Tryd.func16, Tryd.ntmps16
      go_wp2_with (go_at_call 13; refine (C.out _).mono ?_; rintro e w1 ⟨rfl, hb1⟩)
      go_ret3
      exact ⟨by rw [H.out]; rfl, hb1⟩
    · have H := Lib.hid (readShort_no hr h)
      rw [hr] at C
      simp only [rvVal] at C
      rw [hl] at h
      have h' : 20000 < m ∨ (m ≤ 20000 ∧ s.size - q < m) := by omega
      clear hr hl h
      rcases h' with h1 | ⟨h1, h2⟩
      · go_enter Tryd.func16, Tryd.ntmps16
        go_wp2_with (go_at_call 13; refine (C.out _).mono ?_; rintro e w1 ⟨rfl, hb1⟩)
        go_ret3
        exact ⟨by rw [H.out]; rfl, hb1⟩
      · have h3 : (s.size : Int) - q < m := by omega
        clear h2
        go_enter Tryd.func16, Tryd.ntmps16
        go_wp2_with (go_at_call 13; refine (C.out _).mono ?_; rintro e w1 ⟨rfl, hb1⟩)
        go_ret3
        exact ⟨by rw [H.out]; rfl, hb1⟩

end Go.Proofs.YtnlddjlbioelnaaDoor
