/-
  The walk of the draw of a short text.
-/
import Derived.Test.YtnlddjlbioelnaaDraw2
namespace Go.Proofs.Ytnlddjlbioelnaa
open Go.RowKit

theorem drawSumOf_any (ao : Option Addr) (cap n : Nat) (w : World) (hn : n ≤ 1048576) (h : Bytes w ao n) :
    Calls Try.prog 8 #[.slice ao n cap] w (DrewS (fun s => s.size ≤ 39) w) := by
  have C := Lib.hid (l01New_any ao cap n w hn h)
  clear h
  go_enter Try.func8, Try.ntmps8
  go_wp2_with fail
  refine C.out.mono ?_
  rintro e w1 ⟨⟨g, rfl, hc1⟩, hb1⟩
  have C := Lib.hid (l01Below_any w n g 40 (by omega) (by omega) w1 hc1)
  have hge := hc1.ge
  have HB1 := Lib.hid hb1
  clear hc1 hb1
  go_wp2_with fail
  refine C.out.mono ?_
  rintro e w2 ⟨⟨x, x0, x1, rfl⟩, hc, hg⟩
  obtain ⟨m, rfl⟩ := Int.eq_ofNat_of_zero_le x0
  have hm : m ≤ 39 := by omega
  have D := Lib.hid (l01Text_any w n g m (by omega) w2 hc)
  have HB2 := Lib.hid (HB1.out.trans (below_only hg hge HB1.out.size))
  clear hc hg
  go_wp2_with fail
  refine D.out.mono ?_
  rintro e w3 ⟨⟨s, hs, rfl⟩, hc, hg⟩
  have HB3 := Lib.hid (HB2.out.trans (below_only hg hge HB2.out.size))
  have Hs : Hid (s.size = m) := Lib.hid hs
  clear hc hg hs
  go_wp2_with fail
  go_ret
  exact ⟨⟨_, by show s.size ≤ 39; rw [Hs.out]; exact hm, rfl⟩, HB3.out⟩

end Go.Proofs.Ytnlddjlbioelnaa
