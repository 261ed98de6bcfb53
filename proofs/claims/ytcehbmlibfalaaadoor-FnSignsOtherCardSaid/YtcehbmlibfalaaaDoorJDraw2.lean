/-
  The walks of the draws of numbers, texts, names and places.
-/
import Derived.Test.YtcehbmlibfalaaaDoorJDraw1
import Derived.Test.YtcehbmlibfalaaaDoorJInts1
import Derived.Test.YtcehbmlibfalaaaDoorJStrs1
namespace Go.Proofs.YtcehbmlibfalaaaDoor
open Go.RowKit

/-- Twelve numbers below 10000 are handed back. -/
def DrewPlaces (w : World) (e : Ending) (w' : World) : Prop := (∃ v l, e = .returned v ∧ OwnI w' w.heap.size v l ∧ l.length = 12 ∧ ∀ x ∈ l, 0 ≤ x ∧ x ≤ 9999) ∧ Below w.heap.size w w'
/-- A string is handed back. -/
def DrewS (p : ByteArray → Prop) (w : World) (e : Ending) (w' : World) : Prop := (∃ s, p s ∧ e = .returned (.string s)) ∧ Below w.heap.size w w'

set_option maxHeartbeats 1000000 in
theorem drawPlaces_any (ao : Option Addr) (cap n : Nat) (w : World) (hn : n ≤ 1048576) (h : Bytes w ao n) :
    Calls Tryd.prog 26 #[.slice ao n cap] w (DrewPlaces w) := by
  have C := Lib.hid (l01New_any ao cap n w hn h)
  clear h
  go_enter Tryd.func26, Tryd.ntmps26
  go_wp2_with fail
  refine C.out.mono ?_
  rintro e w1 ⟨⟨g, rfl, hc1⟩, hb1⟩
  have C := Lib.hid (l01Byte_any w n g w1 hc1)
  have hge := hc1.ge
  have hs1 := hb1.size
  have hgl1 := hc1.lt
  have HB1 := Lib.hid hb1
  clear hc1 hb1
  go_wp2_with fail
  refine C.out.mono ?_
  rintro e w2 ⟨⟨x, x0, x1, rfl⟩, hc, hg⟩
  have HB2 := Lib.hid (HB1.out.trans (below_only hg hge hs1))
  have hs2 := hg.size
  have Hc := Lib.hid hc
  clear hc hg HB1
  go_wp2_with fail
  have ho := OwnI.empty w2 w2.heap.size 3 (Nat.le_refl _)
  have hc0 := Cur.alloc Hc.out (.cells #[] 3)
  have hb0 := HB2.out.alloc (by omega) (.cells #[] 3)
  have hgl : g < w2.heap.size := Hc.out.lt
  go_loopw [4, 5] (fun v i wr => ∃ (k : Nat) (l : List Int), k ≤ 12 ∧ i = .int .i64 k ∧ l.length ≤ k ∧ k ≤ l.length ∧ Hid (∀ x ∈ l, 0 ≤ x ∧ x ≤ 9999) ∧ OwnI wr w2.heap.size v l ∧ Cur 81 w n wr g ∧ Below w.heap.size w wr ∧ w2.heap.size ≤ wr.heap.size) (fun _ i _ => 12 - (intOf i).toNat)
  case atStart => exact ⟨0, [], Nat.zero_le _, rfl, Nat.le_refl _, Nat.le_refl _, (fun x hx => by simp at hx), ho, hc0, hb0, by simp⟩
  case round =>
    clear ho hc0 hb0
    obtain ⟨k, l, hk, rfl, hl0, hl1, HL, hown, hcur, hb, hsz⟩ := hrel
    by_cases hlt : k < 12
    · have C := Lib.hid (l01Below_any w n g 10000 (by omega) (by omega) wr hcur)
      have Ho := Lib.hid hown
      have Hb := Lib.hid hb
      clear hown hcur hb
      go_wp2_with fail
      refine C.out.mono ?_
      rintro e w3 ⟨⟨y, y0, y1, rfl⟩, hc, hg3⟩
      have hown1 : OwnI w3 _ _ _ := Own.kept_only Ho.out hg3 hgl
      have hs3 := hg3.size
      have Hb3 := Lib.hid (Hb.out.trans (below_only hg3 hge (by have := Hb.out.size; omega)))
      have Hc3 := Lib.hid hc
      have HL' : Hid (∀ z ∈ l ++ [y], 0 ≤ z ∧ z ≤ 9999) := by
        show ∀ z ∈ l ++ [y], 0 ≤ z ∧ z ≤ 9999
        intro z hz
        rcases List.mem_append.1 hz with hz | hz
        · exact HL.out z hz
        · simp at hz; subst hz; omega
      clear hc hg3 Hb
      go_wp2_with (at_builtin; refine wpList_push_ints _ _ rfl _ _ 38 rfl 3 Tryd.underlying38 Tryd.infoInt _ _ _ rfl hown1 _ [y] rfl 1 1 rfl _ rfl rfl (by omega) (by omega) rfl ?_; intro v4 w4 hown4 hg4 hb4)
      refine ⟨⟨k + 1, l ++ [y], by omega, by go_num, by simp; omega, by simp; omega, HL', hown4, ?_, ?_, ?_⟩, by simp [intOf]; omega⟩
      · exact Hc3.out.kept_row hg4 (fun e => by have := (Own.block hown1 _ e).1; omega) (fun k e => by have := (Own.block hown1 _ e).1; omega)
      · exact Hb3.out.grown hg4 (by omega) (fun k e => by have := (Own.block hown1 _ e).1; omega)
      · have := hg4.size; omega
    · have Ho := Lib.hid hown
      have Hb := Lib.hid hb
      clear hown hcur hb
      go_wp2_with fail
      go_ret
      exact ⟨⟨_, l, rfl, Own.mono Ho.out (by omega), by omega, HL.out⟩, Hb.out⟩

set_option maxHeartbeats 1000000 in
theorem l03Some_any (w0 : World) (n g : Nat) (w : World) (h : Cur 81 w0 n w g) :
    Calls Tryd.prog 64 #[.pointer (some ⟨g, 0, none⟩)] w (DrawnS 81 (fun s => s.size ≤ 200) w0 n g w) := by
  have hgl := h.lt
  have C := Lib.hid (l01PickInt_any w0 n g (some ⟨w.heap.size, 0, none⟩) 13 [0, 1, 3, 9, 54, 55, 56, 63, 64, 65, 119, 120, 200] (by simp) (by decide) _ (Cur.alloc h _) (rdC_new w (intC [0, 1, 3, 9, 54, 55, 56, 63, 64, 65, 119, 120, 200]) _ rfl 3) (fun b off e => by cases e; omega))
  clear h
  go_enter Tryd.func64, Tryd.ntmps64
  go_wp2_with fail
  refine C.out.mono ?_
  rintro e w1 ⟨⟨x, hx, rfl⟩, hc, hg⟩
  have hx' : 0 ≤ x ∧ x ≤ 200 := by
    simp only [List.mem_cons, List.not_mem_nil, or_false] at hx
    rcases hx with rfl | rfl | rfl | rfl | rfl | rfl | rfl | rfl | rfl | rfl | rfl | rfl | rfl <;> omega
  obtain ⟨m, rfl⟩ := Int.eq_ofNat_of_zero_le hx'.1
  have hm : m ≤ 200 := by omega
  have D := Lib.hid (l01Text_any w0 n g m (by omega) w1 hc)
  have Hg := Lib.hid (grownBy_trans (grownBy_alloc' (World.grownBy.refl w (some g)) _) hg)
  clear hc hg hx hx'
  go_wp2_with fail
  refine D.out.mono ?_
  rintro e w2 ⟨⟨s, hs, rfl⟩, hc, hg⟩
  have Hs : Hid (s.size = m) := hs
  have Hc := Lib.hid hc
  have Hg2 := Lib.hid (grownBy_trans Hg.out hg)
  clear hc hg hs
  go_wp2_with fail
  go_ret
  exact ⟨⟨_, by show s.size ≤ 200; rw [Hs.out]; exact hm, rfl⟩, Hc.out, Hg2.out⟩

theorem drawTextOf_any (ao : Option Addr) (cap n : Nat) (w : World) (hn : n ≤ 1048576) (h : Bytes w ao n) :
    Calls Tryd.prog 27 #[.slice ao n cap] w (DrewS (fun s => s.size ≤ 200) w) := by
  have C := Lib.hid (l01New_any ao cap n w hn h)
  clear h
  go_enter Tryd.func27, Tryd.ntmps27
  go_wp2_with fail
  refine C.out.mono ?_
  rintro e w1 ⟨⟨g, rfl, hc1⟩, hb1⟩
  have C := Lib.hid (l03Some_any w n g w1 hc1)
  have hge := hc1.ge
  have HB1 := Lib.hid hb1
  clear hc1 hb1
  go_wp2_with fail
  refine C.out.mono ?_
  rintro e w2 ⟨⟨s, hs, rfl⟩, hc, hg⟩
  have HB2 := Lib.hid (HB1.out.trans (below_only hg hge HB1.out.size))
  have Hs := Lib.hid hs
  clear hc hg hs
  go_wp2_with fail
  go_ret
  exact ⟨⟨_, Hs.out, rfl⟩, HB2.out⟩

theorem big_yes (ao : Option Addr) (cap n : Nat) (w : World) (h : 1048576 < n) (h' : n ≤ 9223372036854775807) : Calls Tryd.prog 22 #[.slice ao n cap] w fun e w' => e = .returned (.bool true) ∧ w = w' := by
  have h1 : decide ((1048576 : Int) < n) = true := decide_eq_true (by omega)
  go_enter Tryd.func22, Tryd.ntmps22
  go_wp2_with fail
  go_ret
  exact ⟨by simp, rfl⟩
theorem big_no (ao : Option Addr) (cap n : Nat) (w : World) (h : n ≤ 1048576) : Calls Tryd.prog 22 #[.slice ao n cap] w fun e w' => e = .returned (.bool false) ∧ w = w' := by
  have h1 : decide ((1048576 : Int) < n) = false := decide_eq_false (by omega)
  go_enter Tryd.func22, Tryd.ntmps22
  go_wp2_with fail
  go_ret
  exact ⟨by simp, rfl⟩

end Go.Proofs.YtcehbmlibfalaaaDoor
