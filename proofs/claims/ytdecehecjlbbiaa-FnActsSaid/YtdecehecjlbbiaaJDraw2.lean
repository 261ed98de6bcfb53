/-
  The walks of the draws of numbers, texts, names and places.
-/
import Derived.Test.YtdecehecjlbbiaaJDraw1
import Derived.Test.YtdecehecjlbbiaaJInts1
import Derived.Test.YtdecehecjlbbiaaJStrs1
namespace Go.Proofs.Ytdecehecjlbbiaa
open Go.RowKit

/-- Twelve numbers below 10000 are handed back. -/
def DrewPlaces (w : World) (e : Ending) (w' : World) : Prop := (∃ v l, e = .returned v ∧ OwnI w' w.heap.size v l ∧ l.length = 12 ∧ ∀ x ∈ l, 0 ≤ x ∧ x ≤ 9999) ∧ Below w.heap.size w w'
/-- A string is handed back. -/
def DrewS (p : ByteArray → Prop) (w : World) (e : Ending) (w' : World) : Prop := (∃ s, p s ∧ e = .returned (.string s)) ∧ Below w.heap.size w w'

set_option maxHeartbeats 1000000 in
theorem drawPlaces_any (ao : Option Addr) (cap n : Nat) (w : World) (hn : n ≤ 1048576) (h : Bytes w ao n) :
    Calls Try.prog 34 #[.slice ao n cap] w (DrewPlaces w) := by
  have C := Lib.hid (l01New_any ao cap n w hn h)
  clear h
  go_enter Try.func34, Try.ntmps34
  go_wp2_with fail
  refine C.out.mono ?_
  rintro e w1 ⟨⟨g, rfl, hc1⟩, hb1⟩
  have C := Lib.hid (l01Byte_any w n g w1 hc1)
  have hge := hc1.ge
  have hs1 := hb1.size
  have hgl1 := hc1.lt
  have HB1 := Lib.hid hb1
  clear hc1 hb1
  go_wp2_with fail
  refine C.out.mono ?_
  rintro e w2 ⟨⟨x, x0, x1, rfl⟩, hc, hg⟩
  have HB2 := Lib.hid (HB1.out.trans (below_only hg hge hs1))
  have hs2 := hg.size
  have Hc := Lib.hid hc
  clear hc hg HB1
  go_wp2_with fail
  have ho := OwnI.empty w2 w2.heap.size 3 (Nat.le_refl _)
  have hc0 := Cur.alloc Hc.out (.cells #[] 3)
  have hb0 := HB2.out.alloc (by omega) (.cells #[] 3)
  have hgl : g < w2.heap.size := Hc.out.lt
  go_loopw [4, 5] (fun v i wr => ∃ (k : Nat) (l : List Int), k ≤ 12 ∧ i = .int .i64 k ∧ l.length ≤ k ∧ k ≤ l.length ∧ Hid (∀ x ∈ l, 0 ≤ x ∧ x ≤ 9999) ∧ OwnI wr w2.heap.size v l ∧ Cur 114 w n wr g ∧ Below w.heap.size w wr ∧ w2.heap.size ≤ wr.heap.size) (fun _ i _ => 12 - (intOf i).toNat)
  case atStart => exact ⟨0, [], Nat.zero_le _, rfl, Nat.le_refl _, Nat.le_refl _, (fun x hx => by simp at hx), ho, hc0, hb0, by simp⟩
  case round =>
    clear ho hc0 hb0
    obtain ⟨k, l, hk, rfl, hl0, hl1, HL, hown, hcur, hb, hsz⟩ := hrel
    by_cases hlt : k < 12
    · have C := Lib.hid (l01Below_any w n g 10000 (by omega) (by omega) wr hcur)
      have Ho := Lib.hid hown
      have Hb := Lib.hid hb
      clear hown hcur hb
      go_wp2_with fail
      refine C.out.mono ?_
      rintro e w3 ⟨⟨y, y0, y1, rfl⟩, hc, hg3⟩
      have hown1 : OwnI w3 _ _ _ := Own.kept_only Ho.out hg3 hgl
      have hs3 := hg3.size
      have Hb3 := Lib.hid (Hb.out.trans (below_only hg3 hge (by have := Hb.out.size; omega)))
      have Hc3 := Lib.hid hc
      have HL' : Hid (∀ z ∈ l ++ [y], 0 ≤ z ∧ z ≤ 9999) := by
        show ∀ z ∈ l ++ [y], 0 ≤ z ∧ z ≤ 9999
        intro z hz
        rcases List.mem_append.1 hz with hz | hz
        · exact HL.out z hz
        · simp at hz; subst hz; omega
      clear hc hg3 Hb
      go_wp2_with (at_builtin; refine wpList_push_ints _ _ rfl _ _ 36 rfl 3 Try.underlying36 Try.infoInt _ _ _ rfl hown1 _ [y] rfl 1 1 rfl _ rfl rfl (by omega) (by omega) rfl ?_; intro v4 w4 hown4 hg4 hb4)
      refine ⟨⟨k + 1, l ++ [y], by omega, by go_num, by simp; omega, by simp; omega, HL', hown4, ?_, ?_, ?_⟩, by simp [intOf]; omega⟩
      · exact Hc3.out.kept_row hg4 (fun e => by have := (Own.block hown1 _ e).1; omega) (fun k e => by have := (Own.block hown1 _ e).1; omega)
      · exact Hb3.out.grown hg4 (by omega) (fun k e => by have := (Own.block hown1 _ e).1; omega)
      · have := hg4.size; omega
    · have Ho := Lib.hid hown
      have Hb := Lib.hid hb
      clear hown hcur hb
      go_wp2_with fail
      go_ret
      exact ⟨⟨_, l, rfl, Own.mono Ho.out (by omega), by omega, HL.out⟩, Hb.out⟩

theorem big_yes (ao : Option Addr) (cap n : Nat) (w : World) (h : 1048576 < n) (h' : n ≤ 9223372036854775807) : Calls Try.prog 31 #[.slice ao n cap] w fun e w' => e = .returned (.bool true) ∧ w = w' := by
  have h1 : decide ((1048576 : Int) < n) = true := decide_eq_true (by omega)
  go_enter Try.func31, Try.ntmps31
  go_wp2_with fail
  go_ret
  exact ⟨by simp, rfl⟩
theorem big_no (ao : Option Addr) (cap n : Nat) (w : World) (h : n ≤ 1048576) : Calls Try.prog 31 #[.slice ao n cap] w fun e w' => e = .returned (.bool false) ∧ w = w' := by
  have h1 : decide ((1048576 : Int) < n) = false := decide_eq_false (by omega)
  go_enter Try.func31, Try.ntmps31
  go_wp2_with fail
  go_ret
  exact ⟨by simp, rfl⟩

end Go.Proofs.Ytdecehecjlbbiaa
