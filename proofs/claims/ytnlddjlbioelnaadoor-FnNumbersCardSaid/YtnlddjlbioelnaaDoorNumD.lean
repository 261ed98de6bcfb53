/-
  The walks of the draws of a number and of a text for the laws on numbers.
-/
import Derived.Test.YtnlddjlbioelnaaDoorDraw2
import Derived.Test.YtnlddjlbioelnaaDoorLong1
namespace Go.Proofs.YtnlddjlbioelnaaDoor
open Go.RowKit

/-- A number is handed back; the cursor is there still, and nothing but it has turned. -/
def DrawnN (T : TypeId) (w0 : World) (n g : Nat) (w : World) (e : Ending) (w' : World) : Prop := (∃ x : Int, e = .returned (.int .i64 x)) ∧ Cur T w0 n w' g ∧ w.grownBy w' (some g)

def numL : List Int := [-1, 0, 127, 128, 16383, 16384, 1000000000, 1000000001, 9223372036854775807, -9223372036854775808]

set_option maxHeartbeats 2000000 in
theorem l01Number_any (w0 : World) (n g : Nat) (w : World) (h : Cur 57 w0 n w g) :
    Calls Tryd.prog 23 #[.pointer (some ⟨g, 0, none⟩)] w (DrawnN 57 w0 n g w) := by
  have hgl := h.lt
  have C := Lib.hid (l01Below_any w0 n g 4 (by omega) (by omega) w h)
  clear h
  go_enter Tryd.func23, Tryd.ntmps23
  go_wp2_with fail
  refine C.out.mono ?_
  rintro e w1 ⟨⟨x, x0, x1, rfl⟩, hc, hg⟩
  have Hg := Lib.hid hg
  have hgl1 := hc.lt
  rcases (show x = 0 ∨ x = 1 ∨ 2 ≤ x by omega) with rfl | rfl | hx
  · have C := Lib.hid (l01PickInt_any w0 n g (some ⟨w1.heap.size, 0, none⟩) 10 numL (by decide) (by decide) _ (Cur.alloc hc _) (rdC_new w1 (intC numL) _ rfl 3) (fun b off e => by cases e; omega))
    clear hc hg
    go_wp2_with fail
    refine C.out.mono ?_
    rintro e w2 ⟨⟨y, hy, rfl⟩, hc2, hg2⟩
    have Hc2 := Lib.hid hc2
    have Hg2 := Lib.hid (grownBy_trans Hg.out (grownBy_trans (grownBy_alloc' (World.grownBy.refl w1 (some g)) _) hg2))
    clear hc2 hg2 hy
    go_wp2_with fail
    go_ret
    exact ⟨⟨_, rfl⟩, Hc2.out, Hg2.out⟩
  · have C := Lib.hid (l01Below_any w0 n g 1000000000 (by omega) (by omega) w1 hc)
    clear hc hg
    go_wp2_with fail
    refine C.out.mono ?_
    rintro e w2 ⟨⟨y, y0, y1, rfl⟩, hc2, hg2⟩
    have Hc2 := Lib.hid hc2
    have Hg2 := Lib.hid (grownBy_trans Hg.out hg2)
    clear hc2 hg2
    go_wp2_with fail
    go_ret
    exact ⟨⟨_, rfl⟩, Hc2.out, Hg2.out⟩
  · have C := Lib.hid (l01Below_any w0 n g 400 (by omega) (by omega) w1 hc)
    have e0 : (x == 0) = false := by rw [beq_eq_false_iff_ne]; omega
    have e1 : (x == 1) = false := by rw [beq_eq_false_iff_ne]; omega
    clear hc hg
    go_wp2_with fail
    refine C.out.mono ?_
    rintro e w2 ⟨⟨y, y0, y1, rfl⟩, hc2, hg2⟩
    have Hc2 := Lib.hid hc2
    have Hg2 := Lib.hid (grownBy_trans Hg.out hg2)
    clear hc2 hg2
    go_wp2_with fail
    go_ret
    exact ⟨⟨_, rfl⟩, Hc2.out, Hg2.out⟩

theorem drawVarText_any (ao : Option Addr) (cap n : Nat) (w : World) (hn : n ≤ 1048576) (h : Bytes w ao n) :
    Calls Tryd.prog 11 #[.slice ao n cap] w fun e w' => (∃ x : Int, e = .returned (.int .i64 x)) ∧ Below w.heap.size w w' := by
  have C := Lib.hid (l01New_any ao cap n w hn h)
  clear h
  go_enter Tryd.func11, Tryd.ntmps11
  go_wp2_with fail
  refine C.out.mono ?_
  rintro e w1 ⟨⟨g, rfl, hc1⟩, hb1⟩
  have C := Lib.hid (l01Number_any w n g w1 hc1)
  have hge := hc1.ge
  have HB1 := Lib.hid hb1
  clear hc1 hb1
  go_wp2_with fail
  refine C.out.mono ?_
  rintro e w2 ⟨⟨x, rfl⟩, hc, hg⟩
  have HB2 := Lib.hid (HB1.out.trans (below_only hg hge HB1.out.size))
  clear hc hg
  go_wp2_with fail
  go_ret
  exact ⟨⟨_, rfl⟩, HB2.out⟩

set_option maxHeartbeats 2000000 in
theorem drawHex_any (ao : Option Addr) (cap n : Nat) (w : World) (hn : n ≤ 1048576) (h : Bytes w ao n) :
    Calls Tryd.prog 14 #[.slice ao n cap] w (DrewS (fun s => s.size ≤ 20001) w) := by
  have C := Lib.hid (l01New_any ao cap n w hn h)
  clear h
  go_enter Tryd.func14, Tryd.ntmps14
  go_wp2_with fail
  refine C.out.mono ?_
  rintro e w1 ⟨⟨g, rfl, hc1⟩, hb1⟩
  have C := Lib.hid (l01Once_any w n g 60 (by omega) (by omega) w1 hc1)
  have hge := hc1.ge
  have HB1 := Lib.hid hb1
  clear hc1 hb1
  go_wp2_with fail
  refine C.out.mono ?_
  rintro e w2 ⟨⟨x, rfl⟩, hc, hg⟩
  have HB2 := Lib.hid (HB1.out.trans (below_only hg hge HB1.out.size))
  cases x with
  | true =>
    have C := Lib.hid (l01Below_any w n g 2 (by omega) (by omega) w2 hc)
    clear hc hg HB1
    go_wp2_with fail
    refine C.out.mono ?_
    rintro e w3 ⟨⟨y, y0, y1, rfl⟩, hc, hg⟩
    have HB3 := Lib.hid (HB2.out.trans (below_only hg hge HB2.out.size))
    obtain ⟨q, rfl⟩ := Int.eq_ofNat_of_zero_le y0
    have C := l01Long_any (20000 + q) 200 (by omega) (by omega) w3
    rw [show ((20000 + q : Nat) : Int) = 20000 + (q : Int) by omega] at C
    have C' := Lib.hid C
    clear hc hg HB2 C
    go_wp2_with fail
    refine C'.out.mono ?_
    rintro e w4 ⟨⟨s, hs, rfl⟩, hb4⟩
    have HB4 := Lib.hid (HB3.out.trans (hb4.mono HB3.out.size))
    have hs' : s.size ≤ 20001 := by omega
    clear hb4 hs C'
    go_wp2_with fail
    go_ret
    exact ⟨⟨_, hs', rfl⟩, HB4.out⟩
  | false =>
    have C := Lib.hid (l01Below_any w n g 30 (by omega) (by omega) w2 hc)
    clear hc hg HB1
    go_wp2_with fail
    refine C.out.mono ?_
    rintro e w3 ⟨⟨y, y0, y1, rfl⟩, hc, hg⟩
    have HB3 := Lib.hid (HB2.out.trans (below_only hg hge HB2.out.size))
    obtain ⟨q, rfl⟩ := Int.eq_ofNat_of_zero_le y0
    have C := Lib.hid (l01Text_any w n g q (by omega) w3 hc)
    clear hc hg HB2
    go_wp2_with fail
    refine C.out.mono ?_
    rintro e w4 ⟨⟨s, hs, rfl⟩, hc, hg⟩
    have HB4 := Lib.hid (HB3.out.trans (below_only hg hge HB3.out.size))
    have hs' : s.size ≤ 20001 := by have : s.size = q := hs; omega
    clear hc hg hs
    go_wp2_with fail
    go_ret
    exact ⟨⟨_, hs', rfl⟩, HB4.out⟩

end Go.Proofs.YtnlddjlbioelnaaDoor
