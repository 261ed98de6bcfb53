/-
  The walks of one level up a pool.
-/
import Derived.Test.YtcehbmlibfalaaaDoorJPool1
import Derived.Test.YtcehbmlibfalaaaDoorBase6
import Derived.Test.YtcehbmlibfalaaaDoorBase4
import Derived.Deep.DrawnRows
namespace Go.Proofs.YtcehbmlibfalaaaDoor
open Go.RowKit
attribute [local go_sem ↓] Go.wp_at_zero Go.wp_at_succ

set_option maxHeartbeats 2000000 in
set_option maxRecDepth 100000 in
theorem sUp_any (ao : Option Addr) (cap : Nat) (l : List ByteArray) (w : World) (hl : l.length ≤ 1048576) (hs : ∀ x ∈ l, x.size ≤ 1048576) (h : RdS w ao l) :
    Calls Tryd.prog 51 #[.slice ao l.length cap] w fun e w' => (∃ v, e = .returned v ∧ OwnS w' w.heap.size v (upL l)) ∧ Below w.heap.size w w' := by
  have H := Lib.hid h
  have HS := Lib.hid hs
  clear h hs
  go_enter Tryd.func51, Tryd.ntmps51
  go_wp2_with fail
  go_loopw [3, 4] (fun v i wr => ∃ n j : Nat, Hid (n = 2 * j) ∧ n ≤ l.length ∧ i = .int .i64 n ∧ OwnS wr w.heap.size v (upTo l j) ∧ Below w.heap.size w wr) (fun _ i _ => l.length - (intOf i).toNat)
  case atStart => exact ⟨0, 0, rfl, Nat.zero_le _, rfl, OwnS.empty _ _ _ (Nat.le_refl _), (Below.refl _ _).alloc (Nat.le_refl _) _⟩
  case round =>
    obtain ⟨n, j, hnj, hn, rfl, hown, hb⟩ := hrel
    have hbs := hb.size
    by_cases hlt : n + 1 < l.length
    · obtain ⟨x, hx⟩ : ∃ x, l[n]? = some x := ⟨_, List.getElem?_eq_getElem (by omega)⟩
      obtain ⟨y, hy⟩ : ∃ y, l[n + 1]? = some y := ⟨_, List.getElem?_eq_getElem hlt⟩
      have hnext := upTo_next (n := j) (hnj.out ▸ hx) (hnj.out ▸ hy)
      have hpl : (upTo l j).length ≤ 1048576 := by have := hnj.out; rw [upTo_len]; omega
      have hxs := HS.out x (List.mem_of_getElem? hx)
      have hys := HS.out y (List.mem_of_getElem? hy)
      have C0 := fun wx => sTagHash_any 3 (some ⟨wx.heap.size, 0, none⟩) 2 [x, y] 16 (wx.alloc (.cells #[.string x, .string y] 9)).drew (by simp) (by intro z hz; simp at hz; rcases hz with rfl | rfl <;> omega) ((rdS_two wx x y 9).below ((Below.refl _ _).drew) (Nat.le_refl _))
      generalize hashT 3 [x, y] 16 = d at *
      generalize upTo l j = pl at *
      obtain ⟨b, off, rfl, hw1⟩ := H.out n x hx
      obtain ⟨b2, off2, he2, hw2⟩ := H.out (n + 1) y hy
      cases he2
      have hkeep : Hid (∀ W, Below w.heap.size w W → W.cell? ⟨b, off + n, none⟩ = some (.string x) ∧ W.cell? ⟨b, off + (n + 1), none⟩ = some (.string y)) :=
        Lib.hid fun W hW => ⟨(hW.cell (p := ⟨b, off + n, none⟩) (World.block_lt_of_cell? _ _ hw1)).trans hw1, (hW.cell (p := ⟨b, off + (n + 1), none⟩) (World.block_lt_of_cell? _ _ hw2)).trans hw2⟩
      have hbA : Below wr.heap.size wr ((wr.alloc (.cells #[.string x, .string y] 9)).drew) := ((Below.refl _ wr).alloc (Nat.le_refl _) _).drew
      have C := Lib.hid (C0 wr)
      have HN := Lib.hid hnext
      have HbA := Lib.hid hbA
      have Hb := Lib.hid hb
      have i0 : (0 : Int) ≤ (n : Int) := Int.natCast_nonneg _
      have i1 : (n : Int) < (l.length : Int) := by omega
      have i2 : (0 : Int) ≤ (n : Int) + 1 := by omega
      have i3 : (n : Int) + 1 < (l.length : Int) := by omega
      have i4 : IntKind.i64.wrap ((n : Int) + 1) = (n : Int) + 1 := IntWalk.i64_in _ ⟨by omega, by omega⟩
      obtain ⟨hc1, hc2⟩ := hkeep.out _ hb
      clear C0 hnext hx hy hxs hys hb hbA hw1 hw2
      go_wp2_with fail
      go_region_held3 (fun w' => w'.cell? ⟨b, off + n, none⟩ = some (.string x) ∧ w'.cell? ⟨b, off + (n + 1), none⟩ = some (.string y))
        (first | exact hkeep.out _ hb03 | exact hkeep.out _ hb02 | go_keep)
        (first
          | (go_at_call 29; refine C.out.mono ?_; rintro e w2 ⟨rfl, hb2⟩; have hbw2 := HbA.out.trans (hb2.mono HbA.out.size); have hown2 := hown.below hbw2 (Nat.le_refl _); have hb02 := Hb.out.trans (hbw2.mono hbs); have hbs2 := hb02.size)
          | (refine step_push_strs _ _ (by rfl) _ _ 24 (by rfl) 9 Tryd.underlying24 Tryd.infoStr _ _ pl (by rfl) hown2 _ [txt d] (by rfl) 1 1 (by rfl) _ (by rfl) (by rfl) (by omega) hbs2 (by rfl) ?_; intro v1 w3 hown3 hg3 hb3; have hb03 := hb02.trans hb3))
      go_wp2_with fail
      exact ⟨⟨n + 2, j + 1, Lib.hid (by have := hnj.out; omega), by omega, by go_num, by rw [HN.out]; exact hown3, hb03⟩, by simp [intOf] <;> omega⟩
    · obtain rfl : j = l.length / 2 := by have := hnj.out; omega
      have Ho := Lib.hid hown
      clear hown
      go_wp2_with fail
      go_ret
      exact ⟨⟨_, rfl, Ho.out⟩, hb⟩

set_option maxHeartbeats 2000000 in
set_option maxRecDepth 100000 in
theorem above_any (ao : Option Addr) (cap : Nat) (l : List ByteArray) (w : World) (hl : l.length ≤ 1048576) (hs : ∀ x ∈ l, x.size ≤ 1048576) (h : RdS w ao l) (hT : YtcehbmlibfalaaaDoorTabs w) :
    Calls Tryd.prog 52 #[.slice ao l.length cap, .int .i64 16] w fun e w' => (∃ v, e = .returned v ∧ OwnS w' w.heap.size v (upL l)) ∧ Below w.heap.size w w' := by
  have H := Lib.hid h
  have HS := Lib.hid hs
  have HT := Lib.hid hT
  clear h hs hT
  go_enter Tryd.func52, Tryd.ntmps52
  go_wp2_with fail
  go_loopw [5, 6] (fun v i wr => ∃ n j : Nat, Hid (n = 2 * j) ∧ n ≤ l.length ∧ i = .int .i64 n ∧ OwnS wr w.heap.size v (upTo l j) ∧ Below w.heap.size w wr) (fun _ i _ => l.length - (intOf i).toNat)
  case atStart => exact ⟨0, 0, rfl, Nat.zero_le _, rfl, OwnS.nil _ _, Below.refl _ _⟩
  case round =>
    obtain ⟨n, j, hnj, hn, rfl, hown, hb⟩ := hrel
    have hbs := hb.size
    by_cases hlt : n + 1 < l.length
    · obtain ⟨x, hx⟩ : ∃ x, l[n]? = some x := ⟨_, List.getElem?_eq_getElem (by omega)⟩
      obtain ⟨y, hy⟩ : ∃ y, l[n + 1]? = some y := ⟨_, List.getElem?_eq_getElem hlt⟩
      have hnext := upTo_next (n := j) (hnj.out ▸ hx) (hnj.out ▸ hy)
      have hpl : (upTo l j).length ≤ 1048576 := by have := hnj.out; rw [upTo_len]; omega
      have hxs := HS.out x (List.mem_of_getElem? hx)
      have hys := HS.out y (List.mem_of_getElem? hy)
      have C0 := fun wx hx => hashOf_any 3 (some ⟨wx.heap.size, 0, none⟩) 2 [x, y] 16 (wx.alloc (.cells #[.string x, .string y] 9)).drew (by simp) (by intro z hz; simp at hz; rcases hz with rfl | rfl <;> omega) ((rdS_two wx x y 9).below ((Below.refl _ _).drew) (Nat.le_refl _)) hx
      generalize hashT 3 [x, y] 16 = d at *
      generalize upTo l j = pl at *
      obtain ⟨b, off, rfl, hw1⟩ := H.out n x hx
      obtain ⟨b2, off2, he2, hw2⟩ := H.out (n + 1) y hy
      cases he2
      have hkeep : Hid (∀ W, Below w.heap.size w W → W.cell? ⟨b, off + n, none⟩ = some (.string x) ∧ W.cell? ⟨b, off + (n + 1), none⟩ = some (.string y)) :=
        Lib.hid fun W hW => ⟨(hW.cell (p := ⟨b, off + n, none⟩) (World.block_lt_of_cell? _ _ hw1)).trans hw1, (hW.cell (p := ⟨b, off + (n + 1), none⟩) (World.block_lt_of_cell? _ _ hw2)).trans hw2⟩
      have hbA : Below wr.heap.size wr ((wr.alloc (.cells #[.string x, .string y] 9)).drew) := ((Below.refl _ wr).alloc (Nat.le_refl _) _).drew
      have C := Lib.hid (C0 wr (HT.out.below (hb.trans (hbA.mono hbs)) (Nat.le_refl _)))
      have HN := Lib.hid hnext
      have HbA := Lib.hid hbA
      have Hb := Lib.hid hb
      have i0 : (0 : Int) ≤ (n : Int) := Int.natCast_nonneg _
      have i1 : (n : Int) < (l.length : Int) := by omega
      have i2 : (0 : Int) ≤ (n : Int) + 1 := by omega
      have i3 : (n : Int) + 1 < (l.length : Int) := by omega
      have i4 : IntKind.i64.wrap ((n : Int) + 1) = (n : Int) + 1 := IntWalk.i64_in _ ⟨by omega, by omega⟩
      obtain ⟨hc1, hc2⟩ := hkeep.out _ hb
      clear C0 hnext hx hy hxs hys hb hbA hw1 hw2
      go_wp2_with fail
      go_region_held3 (fun w' => w'.cell? ⟨b, off + n, none⟩ = some (.string x) ∧ w'.cell? ⟨b, off + (n + 1), none⟩ = some (.string y))
        (first | exact hkeep.out _ hb03 | exact hkeep.out _ hb02 | go_keep)
        (first
          | (go_at_call 74; refine C.out.mono ?_; rintro e w2 ⟨rfl, hb2⟩; have hbw2 := HbA.out.trans (hb2.mono HbA.out.size); have hown2 := hown.below hbw2 (Nat.le_refl _); have hb02 := Hb.out.trans (hbw2.mono hbs); have hbs2 := hb02.size)
          | (refine step_push_strs _ _ (by rfl) _ _ 24 (by rfl) 9 Tryd.underlying24 Tryd.infoStr _ _ pl (by rfl) hown2 _ [txt d] (by rfl) 1 1 (by rfl) _ (by rfl) (by rfl) (by omega) hbs2 (by rfl) ?_; intro v1 w3 hown3 hg3 hb3; have hb03 := hb02.trans hb3))
      go_wp2_with fail
      exact ⟨⟨n + 2, j + 1, Lib.hid (by have := hnj.out; omega), by omega, by go_num, by rw [HN.out]; exact hown3, hb03⟩, by simp [intOf] <;> omega⟩
    · obtain rfl : j = l.length / 2 := by have := hnj.out; omega
      have Ho := Lib.hid hown
      clear hown
      go_wp2_with fail
      go_ret
      exact ⟨⟨_, rfl, Ho.out⟩, hb⟩

end Go.Proofs.YtcehbmlibfalaaaDoor
