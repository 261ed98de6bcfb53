/-
  The walk of the draw of a kind and of parts.
-/
import Derived.Test.YtcehbmlibfalaaaDoorDraw2
import Derived.Test.YtcehbmlibfalaaaDoorLong1
namespace Go.Proofs.YtcehbmlibfalaaaDoor
open Go.RowKit

/-- A kind and parts are handed back. -/
def DrewTag (w : World) (e : Ending) (w' : World) : Prop := (∃ (kind : Int) (v : Value) (l : List ByteArray), e = .returned (.tuple #[.int .i64 kind, v]) ∧ OwnS w' w.heap.size v l ∧ l.length ≤ 1000 ∧ ∀ x ∈ l, x.size ≤ 300) ∧ Below w.heap.size w w'
set_option maxHeartbeats 4000000 in
set_option maxRecDepth 100000 in
theorem drawTagText_any (ao : Option Addr) (cap n : Nat) (w : World) (hn : n ≤ 1048576) (h : Bytes w ao n) :
    Calls Tryd.prog 23 #[.slice ao n cap] w (DrewTag w) := by
  have C := Lib.hid (l01New_any ao cap n w hn h)
  clear h
  go_enter Tryd.func23, Tryd.ntmps23
  go_wp2_with fail
  refine C.out.mono ?_
  rintro e w1 ⟨⟨g, rfl, hc1⟩, hb1⟩
  have hge := hc1.ge
  have hgl1 := hc1.lt
  have HB1 := Lib.hid hb1
  have hs1 := hb1.size
  have C := Lib.hid (l01PickInt_any w n g (some ⟨w1.heap.size, 0, none⟩) 7 [1, 2, 3, 8, 0, 9, 5] (by decide) (by decide) _ (Cur.alloc hc1 _) (rdC_new w1 (intC [1, 2, 3, 8, 0, 9, 5]) _ rfl 3) (fun b off e => by cases e; omega))
  have HBA := Lib.hid (hb1.alloc hs1 (.cells #[.int .i64 1, .int .i64 2, .int .i64 3, .int .i64 8, .int .i64 0, .int .i64 9, .int .i64 5] 3))
  clear hc1 hb1
  go_wp2_with fail
  refine C.out.mono ?_
  rintro e w2 ⟨⟨kind, hkd, rfl⟩, hc2, hg2⟩
  have HB2 := Lib.hid (HBA.out.trans (below_only hg2 hge HBA.out.size))
  have hs2 := HB2.out.size
  have C := Lib.hid (l01Below_any w n g 12 (by omega) (by omega) w2 hc2)
  clear hc2 hg2 hkd HBA HB1
  go_wp2_with fail
  refine C.out.mono ?_
  rintro e w3 ⟨⟨m, m0, m1, rfl⟩, hc3, hg3⟩
  have HB3 := Lib.hid (HB2.out.trans (below_only hg3 hge hs2))
  have hs3 := HB3.out.size
  have hgl3 := hc3.lt
  have Hc := Lib.hid hc3
  clear hc3 hg3 HB2 C hs2
  go_wp2_with fail
  have ho := OwnS.empty w3 w3.heap.size 9 (Nat.le_refl _)
  have hc0 := Cur.alloc Hc.out (.cells #[] 9)
  have hb0 := HB3.out.alloc hs3 (.cells #[] 9)
  go_loopw [7, 8] (fun v i wr => ∃ (k : Nat) (l : List ByteArray), k ≤ 4 ∧ i = .int .i64 k ∧ l.length ≤ k ∧ Hid (∀ x ∈ l, x.size ≤ 300) ∧ OwnS wr w3.heap.size v l ∧ Cur 81 w n wr g ∧ Below w.heap.size w wr ∧ w3.heap.size ≤ wr.heap.size) (fun _ i _ => 4 - (intOf i).toNat)
  case atStart => exact ⟨0, [], Nat.zero_le _, rfl, Nat.le_refl _, (fun x hx => by simp at hx), ho, hc0, hb0, by simp⟩
  case round =>
    clear ho hc0 hb0
    obtain ⟨k, l, hk, rfl, hl, HL, hown, hcur, hb, hsz⟩ := hrel
    have C := Lib.hid (l01Below_any w n g 4 (by omega) (by omega) wr hcur)
    have Ho := Lib.hid hown
    have Hb := Lib.hid hb
    have hsr := hb.size
    clear hown hcur hb
    go_wp2_with fail
    refine C.out.mono ?_
    rintro e w4 ⟨⟨x, x0, x1, rfl⟩, hc4, hg4⟩
    have Ho4 := Lib.hid (Own.kept_only Ho.out hg4 hgl3)
    have Hb4 := Lib.hid (Hb.out.trans (below_only hg4 hge hsr))
    have hs4 := hg4.size
    have Hc4 := Lib.hid hc4
    clear hc4 hg4 Ho Hb C
    by_cases hlt : (k : Int) < x
    · have C := Lib.hid (l01Below_any w n g 9 (by omega) (by omega) w4 Hc4.out)
      go_wp2_with fail
      refine C.out.mono ?_
      rintro e w5 ⟨⟨y, y0, y1, rfl⟩, hc5, hg5⟩
      have Ho5 := Lib.hid (Own.kept_only Ho4.out hg5 hgl3)
      have Hb5 := Lib.hid (Hb4.out.trans (below_only hg5 hge (Nat.le_trans hsr hs4)))
      have hs5 := hg5.size
      obtain ⟨q, rfl⟩ := Int.eq_ofNat_of_zero_le y0
      have C := Lib.hid (l01Text_any w n g q (by omega) w5 hc5)
      clear hc5 hg5 Ho4 Hb4
      go_wp2_with fail
      refine C.out.mono ?_
      rintro e w6 ⟨⟨t, ht, rfl⟩, hc6, hg6⟩
      have hown6 : OwnS w6 _ _ _ := Own.kept_only Ho5.out hg6 hgl3
      have Hb6 := Lib.hid (Hb5.out.trans (below_only hg6 hge (by omega)))
      have hs6 := hg6.size
      have Hc6 := Lib.hid hc6
      have ht' : t.size ≤ 8 := by have : t.size = q := ht; omega
      have HL' : Hid (∀ z ∈ l ++ [t], z.size ≤ 300) := Lib.hid (by
        intro z hz
        rcases List.mem_append.1 hz with hz | hz
        · exact HL.out z hz
        · simp at hz; subst hz; omega)
      clear hc6 hg6 ht Ho5 Hb5 C
      go_wp2_with (at_builtin; refine wpList_push_strs _ _ rfl _ _ 24 rfl 9 Tryd.underlying24 Tryd.infoStr _ _ _ rfl hown6 _ [t] rfl 1 1 rfl _ rfl rfl (by omega) (by omega) rfl ?_; intro v7 w7 hown7 hg7 hb7)
      refine ⟨⟨k + 1, l ++ [t], by omega, by go_num, by simp; omega, HL', hown7, ?_, ?_, ?_⟩, by simp [intOf]; omega⟩
      · exact Hc6.out.kept_row hg7 (fun e => by have := (Own.block hown6 _ e).1; omega) (fun k e => by have := (Own.block hown6 _ e).1; omega)
      · exact Hb6.out.grown hg7 (by omega) (fun k e => by have := (Own.block hown6 _ e).1; omega)
      · have := hg7.size; omega
    · rcases (show m = 0 ∨ m = 1 ∨ 2 ≤ m by omega) with rfl | rfl | hm2
      · have C := Lib.hid (l01Below_any w n g 2 (by omega) (by omega) w4 Hc4.out)
        go_wp2_with fail
        refine C.out.mono ?_
        rintro e w5 ⟨⟨y, y0, y1, rfl⟩, hc5, hg5⟩
        have Ho5 := Lib.hid (Own.kept_only Ho4.out hg5 hgl3)
        have Hb5 := Lib.hid (Hb4.out.trans (below_only hg5 hge (Nat.le_trans hsr hs4)))
        have hs5 := hg5.size
        obtain ⟨q, rfl⟩ := Int.eq_ofNat_of_zero_le y0
        have C := l01Long_any (200 + q) 97 (by omega) (by omega) w5
        rw [show ((200 + q : Nat) : Int) = 200 + (q : Int) by push_cast; rfl] at C
        have C' := Lib.hid C
        clear hc5 hg5 Ho4 Hb4 C
        go_wp2_with fail
        refine C'.out.mono ?_
        rintro e w6 ⟨⟨t, ht, rfl⟩, hb6⟩
        have hown6 : OwnS w6 _ _ _ := Own.below Ho5.out hb6 (Nat.le_refl _)
        have Hb6 := Lib.hid (Hb5.out.trans (hb6.mono (by omega)))
        have hs6 := hb6.size
        have HL' : Hid (∀ z ∈ l ++ [t], z.size ≤ 300) := Lib.hid (by
          intro z hz
          rcases List.mem_append.1 hz with hz | hz
          · exact HL.out z hz
          · simp at hz; subst hz; omega)
        clear hb6 ht Ho5 Hb5 C'
        go_wp2_with (at_builtin; refine wpList_push_strs _ _ rfl _ _ 24 rfl 9 Tryd.underlying24 Tryd.infoStr _ _ _ rfl hown6 _ [t] rfl 1 1 rfl _ rfl rfl (by omega) (by omega) rfl ?_; intro v7 w7 hown7 hg7 hb7)
        go_ret2
        exact ⟨⟨kind, v7, l ++ [t], rfl, Own.mono hown7 (by omega), by simp; omega, HL'.out⟩, Hb6.out.grown hg7 (by omega) (fun k e => by have := (Own.block hown6 _ e).1; omega)⟩
      · have hmod : (0 : Int) ≤ (n : Int) % 2 ∧ (n : Int) % 2 ≤ 1 := ⟨Int.emod_nonneg _ (by omega), by have := Int.emod_lt_of_pos (n : Int) (show (0 : Int) < 2 by omega); omega⟩
        obtain ⟨p0, p1⟩ := hmod
        have ho := Ho4.out
        have hb := Hb4.out
        have hz : w3.heap.size ≤ w4.heap.size := by omega
        obtain ⟨q4, k4, rfl⟩ := Own.shape ho
        clear Ho4 Hb4 Hc4
        go_wp2_with fail
        clear hlt
        generalize Value.bool (decide ((k : Int) < x)) = qd
        go_loopw [7] (fun v wr => ∃ (l : List ByteArray), l.length ≤ 61 ∧ Hid (∀ x ∈ l, x.size ≤ 300) ∧ OwnS wr w3.heap.size v l ∧ Below w.heap.size w wr ∧ w3.heap.size ≤ wr.heap.size) (fun v _ => 61 - lenV v)
        case atStart => exact ⟨l, by omega, HL, ho, hb, hz⟩
        case round =>
          clear ho hb hz HL
          obtain ⟨l, hl6, HL, hown, hb, hsz⟩ := hrel
          obtain ⟨q5, k5, rfl⟩ := Own.shape hown
          have hsr := hb.size
          have Hb := Lib.hid hb
          clear hb
          by_cases hlt : (l.length : Int) < 60 + (n : Int) % 2
          · have HL' : Hid (∀ z ∈ l ++ [(⟨#[120]⟩ : ByteArray)], z.size ≤ 300) := Lib.hid (by
              intro z hz
              rcases List.mem_append.1 hz with hz | hz
              · exact HL.out z hz
              · simp at hz; subst hz; decide)
            go_wp2_with (at_builtin; refine wpList_push_strs _ _ rfl _ _ 24 rfl 9 Tryd.underlying24 Tryd.infoStr _ _ _ rfl hown _ [⟨#[120]⟩] rfl 1 1 rfl _ rfl rfl (by omega) (by omega) rfl ?_; intro v7 w7 hown7 hg7 hb7; obtain ⟨q7, k7, rfl⟩ := Own.shape hown7; have hl7 : (l ++ [(⟨#[120]⟩ : ByteArray)]).length = l.length + 1 := (by simp); rw [hl7] at hown7)
            refine ⟨⟨l ++ [⟨#[120]⟩], by simp; omega, HL', hown7, ?_, ?_⟩, by simp [lenV]; omega⟩
            · exact Hb.out.grown hg7 (by omega) (fun k e => by have := (Own.block hown _ e).1; omega)
            · have := hg7.size; omega
          · go_wp2_with fail
            go_ret2
            exact ⟨⟨kind, _, l, rfl, Own.mono hown (by omega), by omega, HL.out⟩, Hb.out⟩
      · have e0 : (m == 0) = false := by rw [beq_eq_false_iff_ne]; omega
        have e1 : (m == 1) = false := by rw [beq_eq_false_iff_ne]; omega
        go_wp2_with fail
        go_ret2
        exact ⟨⟨kind, _, l, rfl, Own.mono Ho4.out (by omega), by omega, HL.out⟩, Hb4.out⟩

end Go.Proofs.YtcehbmlibfalaaaDoor
