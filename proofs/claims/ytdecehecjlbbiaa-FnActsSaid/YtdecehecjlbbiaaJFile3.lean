/-
  The walks of what a law does with a disk: its size, its copy, the test for sameness, its marks and their reading.
-/
import Derived.Test.YtdecehecjlbbiaaJFile2
namespace Go.Proofs.Ytdecehecjlbbiaa
open Go.RowKit

set_option maxHeartbeats 1000000 in
theorem szDisk_any (ao : Option Addr) (cap : Nat) (l : List Fl) (left : Int) (w : World) (hl : l.length ≤ 9223372036854775807) (hs : ∀ x ∈ l, x.1.size ≤ 9223372036854775807 ∧ x.2.1.size ≤ 9223372036854775807) (h0 : 0 ≤ left) (h1 : left ≤ 1048576) (h : RdF w ao l) :
    Calls Try.prog 15 #[.agg #[.slice ao l.length cap], .int .i64 left] w fun e w' => e = .returned (.int .i64 (szFl l left)) ∧ Below w.heap.size w w' := by
  have hB := (Below.refl w.heap.size w).alloc (Nat.le_refl _) (.cells #[.slice ao l.length cap] 24)
  have C := szFileS_any ao cap l left _ hl hs h0 h1 (h.below hB (Nat.le_refl _))
  have HB := Lib.hid hB
  have HBz := hB.size
  have hz := alloc_size w (.cells #[.slice ao l.length cap] 24)
  clear h hs hB
  by_cases ht : (l.length : Int) + sumFl l ≤ left
  · rw [szFl_yes ht] at C ⊢
    have hn : ¬ (left - l.length - (sumFl l : Int) < 0) := by omega
    have D := Lib.hid C
    clear C ht hz HBz
    generalize left - l.length - (sumFl l : Int) = r at *
    go_enter Try.func15, Try.ntmps15
    go_wp2_with fail
    refine D.out.mono ?_
    rintro e w1 ⟨rfl, hb1⟩
    have HB1 := Lib.hid (HB.out.trans (hb1.mono HB.out.size))
    clear hb1
    go_wp2_with fail
    go_ret
    exact ⟨rfl, HB1.out⟩
  · rw [szFl_no ht] at C ⊢
    have D := Lib.hid C
    clear C ht hz HBz
    go_enter Try.func15, Try.ntmps15
    go_wp2_with fail
    refine D.out.mono ?_
    rintro e w1 ⟨rfl, hb1⟩
    have HB1 := Lib.hid (HB.out.trans (hb1.mono HB.out.size))
    clear hb1
    go_wp2_with fail
    go_ret
    exact ⟨rfl, HB1.out⟩

set_option maxHeartbeats 1000000 in
theorem toDisk_any (ao : Option Addr) (cap : Nat) (l : List Fl) (w : World) (hl : l.length ≤ 1048576) (h : RdF w ao l) :
    Calls Try.prog 17 #[.agg #[.slice ao l.length cap]] w fun e w' => (∃ v u, e = .returned v ∧ OwnK w' w.heap.size v u l) ∧ Below w.heap.size w w' := by
  have hz1 := alloc_size w (.cells #[.slice ao l.length cap] 24)
  have hz2 := alloc_size (w.alloc (.cells #[.slice ao l.length cap] 24)) (.cells #[.slice none 0 0] 29)
  have hz3 := alloc_size ((w.alloc (.cells #[.slice ao l.length cap] 24)).alloc (.cells #[.slice none 0 0] 29)) (.cells #[.slice none 0 0] 29)
  have hB := (((Below.refl w.heap.size w).alloc (Nat.le_refl _) (.cells #[.slice ao l.length cap] 24)).alloc (by omega) (.cells #[.slice none 0 0] 29)).alloc (by omega) (.cells #[.slice none 0 0] 29)
  have b2 := Blk.new (w.alloc (.cells #[.slice ao l.length cap] 24)) 29 [.slice none 0 0] _ rfl
  have b3 := Blk.new ((w.alloc (.cells #[.slice ao l.length cap] 24)).alloc (.cells #[.slice none 0 0] 29)) 29 [.slice none 0 0] _ rfl
  rw [hz1] at b2
  rw [hz2, hz1] at b3
  have hz : (((w.alloc (.cells #[.slice ao l.length cap] 24)).alloc (.cells #[.slice none 0 0] 29)).alloc (.cells #[.slice none 0 0] 29)).heap.size = w.heap.size + 3 := by omega
  have B2 := Lib.hid (b2.alloc (.cells #[.slice none 0 0] 29))
  have B3 := Lib.hid b3
  have HZ := Lib.hid hz
  have HB := Lib.hid hB
  have C := Lib.hid (toFileS_any ao cap l _ hl (h.below hB (Nat.le_refl _)))
  clear hz hz1 hz2 hz3 hB b2 b3 h
  go_enter Try.func17, Try.ntmps17
  go_wp2_with fail
  refine C.out.mono ?_
  rintro e w1 ⟨⟨v1, rfl, ho1⟩, hb1⟩
  obtain ⟨q1, m1, rfl⟩ := Own.shape ho1
  have hzz := HZ.out
  have D2 := B2.out.below hb1 (by rw [hzz]; omega)
  have D3 := B3.out.below hb1 (by rw [hzz]; omega)
  have g1 : w1.cell? ⟨w.heap.size + 1 + 1, 0, none⟩ = some (.slice none 0 0) := D3.cell 0
  have g2 := D3.frozen 0
  have g3 : w1.cell? ⟨w.heap.size + 1, 0, none⟩ = some (.slice none 0 0) := D2.cell 0
  have g4 := D2.frozen 0
  have hB1 := HB.out.trans (hb1.mono (by rw [hzz]; omega))
  have E2 := Lib.hid ((D2.far (p := ⟨w.heap.size + 1 + 1, 0, none⟩) (by simp only; omega) (.slice q1 l.length m1)).set_ 0 (.slice q1 l.length m1))
  have F1 : OwnF ((w1.setCell ⟨w.heap.size + 1 + 1, 0, none⟩ (.slice q1 l.length m1)).setCell ⟨w.heap.size + 1, 0, none⟩ (.slice q1 l.length m1)) w.heap.size (.slice q1 l.length m1) l :=
    Own.mono ((Own.setCell (a := ⟨w.heap.size + 1 + 1, 0, none⟩) ho1 (by rw [hzz]; simp only; omega) _).setCell (a := ⟨w.heap.size + 1, 0, none⟩) (by rw [hzz]; simp only; omega) _) (by rw [hzz]; omega)
  have HF := Lib.hid F1
  have HB2 := Lib.hid ((hB1.setCell (p := ⟨w.heap.size + 1 + 1, 0, none⟩) (by simp only; omega) (.slice q1 l.length m1)).setCell (p := ⟨w.heap.size + 1, 0, none⟩) (by simp only; omega) (.slice q1 l.length m1))
  clear D2 D3 ho1 hb1 hB1 F1 hzz
  go_wp2_with fail
  refine bodyPost_ret (results_cell_row rfl _ _ (w.heap.size + 1) 29 #[.slice q1 l.length m1] (0, 0) _ rfl E2.out Try.underlying29 rfl (by kernel_rfl)) rfl ?_
  exact ⟨⟨_, _, rfl, rfl, HF.out⟩, HB2.out⟩

theorem eqDisk_any (v1 v2 : Value) (l : List Fl) (w : World) (hl : l.length ≤ 1048576) (h1 : RdK w v1 l) (h2 : RdK w v2 l) :
    Calls Try.prog 19 #[v1, v2] w fun e w' => e = .returned (.bool true) ∧ Below w.heap.size w w' := by
  obtain ⟨a1, c1, rfl, r1⟩ := h1
  obtain ⟨a2, c2, rfl, r2⟩ := h2
  have hB := ((Below.refl w.heap.size w).alloc (Nat.le_refl _) (.cells #[.slice a1 l.length c1] 29)).alloc (by rw [alloc_size]; omega) (.cells #[.slice a2 l.length c2] 29)
  have C := Lib.hid (eqFileS_any a1 a2 c1 c2 l _ hl (r1.below hB (Nat.le_refl _)) (r2.below hB (Nat.le_refl _)))
  have HB := Lib.hid hB
  clear hB r1 r2
  go_enter Try.func19, Try.ntmps19
  go_wp2_with fail
  refine C.out.mono ?_
  rintro e w1 ⟨rfl, hb1⟩
  have HB1 := Lib.hid (HB.out.trans (hb1.mono HB.out.size))
  clear hb1
  go_wp2_with fail
  go_ret
  exact ⟨rfl, HB1.out⟩

theorem markDisk_any (v u : Value) (l : List Fl) (B K : Nat) (w : World) (hl : l.length ≤ 1048576) (h0 : 0 < K) (hK : K ≤ 1099500000000) (h : OwnK w B v u l) :
    Calls Try.prog 28 #[v, .int .i64 K] w fun e w' => e = .returned (.int .i64 ((K : Int) + 3 * l.length)) ∧ OwnK w' B v u (marksF K l.length) ∧ w.grownBy w' u.ownBlock := by
  obtain ⟨rfl, ho⟩ := h
  have C := Lib.hid (markFileS_any u l B K _ hl h0 hK (Own.alloc ho (.cells #[u] 29)))
  obtain ⟨q, c, rfl⟩ := Own.shape ho
  have HG := Lib.hid (World.grownBy_alloc w (.cells #[.slice q l.length c] 29) (Value.ownBlock (.slice q l.length c)))
  clear ho
  go_enter Try.func28, Try.ntmps28
  go_wp2_with fail
  refine C.out.mono ?_
  rintro e w1 ⟨rfl, ho1, hg1⟩
  have HO := Lib.hid ho1
  have HG1 := Lib.hid (grownBy_trans HG.out hg1)
  clear ho1 hg1
  go_wp2_with fail
  go_ret
  exact ⟨rfl, ⟨rfl, HO.out⟩, HG1.out⟩

theorem heldDisk_any (v : Value) (N K : Nat) (w : World) (hl : N ≤ 1048576) (h0 : 0 < K) (hK : K ≤ 1099500000000) (h : RdK w v (marksF K N)) :
    Calls Try.prog 30 #[v, .int .i64 K] w fun e w' => e = .returned (.int .i64 ((K : Int) + 3 * N)) ∧ Below w.heap.size w w' := by
  obtain ⟨a, c, rfl, r⟩ := h
  rw [marksF_length]
  have hB := (Below.refl w.heap.size w).alloc (Nat.le_refl _) (.cells #[.slice a N c] 29)
  have C := Lib.hid (heldFileS_any a c N K _ hl h0 hK (r.below hB (Nat.le_refl _)))
  have HB := Lib.hid hB
  have hn : ¬ ((K : Int) + 3 * N < 0) := by omega
  clear hB r
  go_enter Try.func30, Try.ntmps30
  go_wp2_with fail
  refine C.out.mono ?_
  rintro e w1 ⟨rfl, hb1⟩
  have HB1 := Lib.hid (HB.out.trans (hb1.mono HB.out.size))
  clear hb1
  go_wp2_with fail
  go_ret
  exact ⟨rfl, HB1.out⟩

end Go.Proofs.Ytdecehecjlbbiaa
