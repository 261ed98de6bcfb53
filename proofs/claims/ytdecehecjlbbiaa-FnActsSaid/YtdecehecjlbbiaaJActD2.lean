/-
  The walks of the draws of numbers left and of lists of operations.
-/
import Derived.Test.YtdecehecjlbbiaaJActD1
import Derived.Test.YtdecehecjlbbiaaBase8
import Derived.Test.YtdecehecjlbbiaaJInts1
import Derived.Test.YtdecehecjlbbiaaJActs2
namespace Go.Proofs.Ytdecehecjlbbiaa
open Go.RowKit

def leftL : List Int := [0, 1, 2, 3, 5, 9, 40, 200, -1, 9223372036854775807]

set_option maxHeartbeats 1000000 in
theorem l06Left_any (w0 : World) (n g : Nat) (w : World) (h : Cur 114 w0 n w g) (h0 : w0.heap.size ≤ w.heap.size) :
    Calls Try.prog 96 #[.pointer (some ⟨g, 0, none⟩)] w (DrawnIs 114 w0 n g w) := by
  have hgl := h.lt
  have ho := OwnI.empty w w.heap.size 3 (Nat.le_refl _)
  have hc0 := Cur.alloc h (.cells #[] 3)
  have hg0 := grownBy_alloc' (World.grownBy.refl w (some g)) (.cells #[] 3)
  have HG := Lib.hid h
  clear h
  go_enter Try.func96, Try.ntmps96
  go_wp2_with fail
  go_loopw [3, 4] (fun v i wr => ∃ (k : Nat) (l : List Int), k ≤ 6 ∧ i = .int .i64 k ∧ l.length ≤ k ∧ OwnI wr w.heap.size v l ∧ Cur 114 w0 n wr g ∧ w.grownBy wr (some g)) (fun _ i _ => 6 - (intOf i).toNat)
  case atStart => exact ⟨0, [], Nat.zero_le _, rfl, Nat.le_refl _, ho, hc0, hg0⟩
  case round =>
    clear ho hc0 hg0
    obtain ⟨k, l, hk, rfl, hl0, hown, hcur, hg⟩ := hrel
    have C := Lib.hid (l01Below_any w0 n g 6 (by omega) (by omega) wr hcur)
    have Ho := Lib.hid hown
    have Hg := Lib.hid hg
    clear hown hcur hg
    go_wp2_with fail
    refine C.out.mono ?_
    rintro e w3 ⟨⟨x, x0, x1, rfl⟩, hc, hg3⟩
    have Ho3 := Lib.hid (Own.kept_only Ho.out hg3 hgl)
    have Hg3 := Lib.hid (grownBy_trans Hg.out hg3)
    have Hc := Lib.hid hc
    have hgl3 := hc.lt
    clear hc hg3 Ho Hg C
    by_cases hlt : (k : Int) < x
    · have C := Lib.hid (l01PickInt_any w0 n g (some ⟨w3.heap.size, 0, none⟩) 10 leftL (by decide) (by decide) _ (Cur.alloc Hc.out _) (rdC_new w3 (intC leftL) _ rfl 3) (fun b off e => by cases e; omega))
      have hz3 := alloc_size w3 (.cells (intC leftL).toArray 3)
      have Ho4 := Lib.hid (Own.alloc Ho3.out (.cells (intC leftL).toArray 3))
      have Hg4 := Lib.hid (grownBy_alloc' Hg3.out (.cells (intC leftL).toArray 3))
      go_wp2_with fail
      refine C.out.mono ?_
      rintro e w4 ⟨⟨y, -, rfl⟩, hc, hg4⟩
      have hs4 := hg4.size
      have hs0 := Hg3.out.size
      have hown1 : OwnI w4 w.heap.size _ l := Own.kept_only Ho4.out hg4 hgl
      have Hg5 := Lib.hid (grownBy_trans Hg4.out hg4)
      have hs5 := Hg5.out.size
      have Hc4 := Lib.hid hc
      clear hc hg4 Ho4 Hg4 Ho3 Hg3 Hc C
      go_wp2_with (at_builtin; refine wpList_push_ints _ _ rfl _ _ 36 rfl 3 Try.underlying36 Try.infoInt _ _ _ rfl hown1 _ [y] rfl 1 1 rfl _ rfl rfl (by omega) (by omega) rfl ?_; intro v5 w5 hown5 hg5 hb5)
      refine ⟨⟨k + 1, l ++ [y], by omega, by go_num, by simp; omega, hown5, ?_, ?_⟩, by simp [intOf]; omega⟩
      · exact Hc4.out.kept_row hg5 (fun e => by have := (Own.block hown1 _ e).1; omega) (fun k e => by have := (Own.block hown1 _ e).1; omega)
      · exact grownBy_only Hg5.out hg5 (fun k e => (Own.block hown1 _ e).1)
    · go_wp2_with fail
      go_ret
      exact ⟨⟨_, l, rfl, Ho3.out, by omega⟩, Hc.out, Hg3.out⟩

theorem Try.infoActD : (Try.prog.info? 67).map (fun i => (i.zero, i.size, i.bytes)) = some (some (.agg #[.int .i64 0, .string ⟨#[]⟩, .string ⟨#[]⟩, .string ⟨#[]⟩]), 4, 56) := by kernel_rfl

set_option maxHeartbeats 8000000 in
set_option maxRecDepth 100000 in
theorem l06Acts_any (w0 : World) (n g : Nat) (ao : Option Addr) (c : Nat) (l : List Fl) (w : World) (hl : FlSmall l) (h : Cur 114 w0 n w g) (h0 : w0.heap.size ≤ w.heap.size) (hr : RdF w ao l) (hne : ∀ b off, ao = some ⟨b, off, none⟩ → b ≠ g) (hlt : ∀ b off, ao = some ⟨b, off, none⟩ → b < w.heap.size) :
    Calls Try.prog 94 #[.pointer (some ⟨g, 0, none⟩), .agg #[.slice ao l.length c]] w (DrawnAcs 114 w0 n g w) := by
  have hgl := h.lt
  have hz := alloc_size w (.cells #[.slice ao l.length c] 29)
  have hz2 := alloc_size (w.alloc (.cells #[.slice ao l.length c] 29)) (.cells #[] 67)
  have hB := ((Below.refl w.heap.size w).alloc (Nat.le_refl _) (.cells #[.slice ao l.length c] 29)).alloc (by omega) (.cells #[] 67)
  have hap : l ≠ [] → ∀ b off, ao = some ⟨b, off, none⟩ → (Value.slice (some ⟨(w.alloc (.cells #[.slice ao l.length c] 29)).heap.size, 0, none⟩) 0 0).ownBlock ≠ some b := by
    intro _ b off e hv
    have h1 : (w.alloc (.cells #[.slice ao l.length c] 29)).heap.size = b := Option.some.inj hv
    have h2 := hlt b off e
    omega
  have st : ActsSt w w0 114 29 n g w.heap.size l ao c [] (.slice (some ⟨(w.alloc (.cells #[.slice ao l.length c] 29)).heap.size, 0, none⟩) 0 0) ((w.alloc (.cells #[.slice ao l.length c] 29)).alloc (.cells #[] 67)) :=
    ⟨Cur.alloc (Cur.alloc h _) _, (Blk.new w 29 [.slice ao l.length c] _ rfl).alloc _, RdF.below hr hB (Nat.le_refl _), Own.empty _ _ _ _ (by omega), grownBy_below hB (Nat.le_refl _) _, hne, hap, hgl, Nat.le_refl _, h0⟩
  simp only [hz] at st
  clear h hr hB hz2 hap
  have HL := Lib.hid hl
  have HZ := Lib.hid hz
  clear hl hz hne hlt
  go_enter Try.func94, Try.ntmps94
  go_wp2_with fail
  generalize (w.alloc (.cells #[.slice ao l.length c] 29)).alloc (.cells #[] 67) = wA at *
  go_loopw [5, 6] (fun v i wr => ∃ (k : Nat) (m : List Fl) (ao : Option Addr) (c : Nat) (q : List Ac), k ≤ 9 ∧ i = .int .i64 k ∧ q.length ≤ k ∧ Hid (FlSmall m) ∧ Hid (∀ x ∈ q, AcSmall x 100) ∧ ActsSt w w0 114 29 n g w.heap.size m ao c q v wr) (fun _ i _ => 9 - (intOf i).toNat)
  case atStart => exact ⟨0, l, ao, c, [], Nat.zero_le _, rfl, Nat.le_refl _, HL, Lib.hid (fun x hx => by simp at hx), st⟩
  case round =>
    clear st HL
    obtain ⟨k, m, ao, c, q, hk, rfl, hq, HM, HQ, st⟩ := hrel
    have C := Lib.hid (l01Below_any w0 n g 9 (by omega) (by omega) wr st.cur)
    have St := Lib.hid st
    clear st
    go_wp2_with fail
    refine C.out.mono ?_
    rintro e w1 ⟨⟨x, x0, x1, rfl⟩, hc, hg⟩
    have St1 := Lib.hid (St.out.drawn hc hg)
    clear hc hg C St
    by_cases hlt : (k : Int) < x
    · have C := Lib.hid (l06Act_any w0 n g w1 St1.out.cur (by have := St1.out.cd; have := St1.out.box.lt; omega))
      go_wp2_with fail
      refine C.out.mono ?_
      rintro e w2 ⟨⟨⟨ak, an, at_, ad⟩, rfl, hsm⟩, hc, hg⟩
      have St2 := Lib.hid (St1.out.drawn hc hg)
      have HS := Lib.hid hsm
      have HGW := Lib.hid (St2.out.cur.lt)
      clear hc hg hsm C St1
      have hb3 := (Below.refl w2.heap.size w2).alloc (Nat.le_refl _) (.cells #[.int .i64 ak, .string an, .string at_, .string ad] 67)
      have St3 := Lib.hid (St2.out.below hb3)
      have bA := Blk.new w2 67 [.int .i64 ak, .string an, .string at_, .string ad] _ rfl
      have c0 := St3.out.cell
      have hz3 := alloc_size w2 (.cells #[.int .i64 ak, .string an, .string at_, .string ad] 67)
      have a0 := Blk.cell bA 0
      have a1 := Blk.cell bA 1
      have a2 := Blk.cell bA 2
      have a3 := Blk.cell bA 3
      simp only [List.getElem?_cons_zero, List.getElem?_cons_succ] at a0 a1 a2 a3
      have BA := Lib.hid bA
      have DA := Lib.hid (sDoAct_any _ m (ak, an, at_, ad) _ HM.out.1 HM.out.2 (by have := HS.out.2.1; simp only at this ⊢; omega) St3.out.rdk)
      have HM2 := Lib.hid (doV_small' (l := m) (ak, an, at_, ad))
      clear bA hb3 St2
      generalize hwb : w2.alloc (.cells #[.int .i64 ak, .string an, .string at_, .string ad] 67) = wB at *
      have HWB := Lib.hid hwb
      go_wp2_with fail
      refine DA.out.mono ?_
      rintro e w4 ⟨⟨v4, u4, rfl, ho⟩, hb4⟩
      obtain ⟨rfl, ho⟩ := ho
      have HQ2 := Lib.hid (show ∀ x ∈ q ++ [(ak, an, at_, ad)], AcSmall x 100 from fun x hx => (List.mem_append.1 hx).elim (HQ.out x) (fun h => by rw [List.mem_singleton.1 h]; exact HS.out))
      generalize (doV m (ak, an, at_, ad)).1 = rl at *
      generalize (doV m (ak, an, at_, ad)).2 = rb at *
      obtain ⟨q4, k4, rfl⟩ := Own.shape ho
      have hs4 := hb4.size
      have hbz : w2.heap.size < wB.heap.size := by omega
      have hb5 := hb4.alloc (by omega) (.cells #[.slice q4 rl.length k4] 29)
      have St5 := Lib.hid (St3.out.below hb5)
      have BA5 := Lib.hid (BA.out.below hb5 hbz)
      have BN5 := Lib.hid (Blk.new w4 29 [.slice q4 rl.length k4] _ rfl)
      have HO5 := Lib.hid (Own.alloc ho (.cells #[.slice q4 rl.length k4] 29))
      have hb4s := Lib.hid hs4
      have hz5 := alloc_size w4 (.cells #[.slice q4 rl.length k4] 29)
      clear ho hb4 hb5 a0 a1 a2 a3 c0
      cases rb with
      | true =>
        generalize hw5 : w4.alloc (.cells #[.slice q4 rl.length k4] 29) = w5 at *
        obtain ⟨f0, f1, f2, f3⟩ : w5.cell? ⟨w2.heap.size, 0, none⟩ = some (.int .i64 ak) ∧ w5.cell? ⟨w2.heap.size, 1, none⟩ = some (.string an) ∧ w5.cell? ⟨w2.heap.size, 2, none⟩ = some (.string at_) ∧ w5.cell? ⟨w2.heap.size, 3, none⟩ = some (.string ad) := ⟨BA5.out.cell 0, BA5.out.cell 1, BA5.out.cell 2, BA5.out.cell 3⟩
        go_wp2_with (at_builtin; go_loud (refine wpList_push_cells w5 _ rfl _ _ 51 rfl 67 Try.underlying51 _ 4 56 rfl Try.infoActD (w.heap.size + 1) _ q.length (actC q) rfl St5.out.own _ (actC [(ak, an, at_, ad)]) rfl (actC_one _) 1 1 rfl _ rfl hz5 (by omega) (by decide) (by have := St5.out.box.lt; omega) rfl ?_); intro v7 w7 o7 g7 b7; have h7 : Own w7 (w.heap.size + 1) 4 v7 (q ++ [(ak, an, at_, ad)]).length (actC (q ++ [(ak, an, at_, ad)])) := (by rw [actC_append, List.length_append]; exact o7); have hvb := Own.block St5.out.own; have hvb0 := Own.block St3.out.own; have BD7 := Blk.kept St5.out.box g7 (fun e => by have := hvb _ e.symm; omega); have BN7 := Blk.kept BN5.out g7 (fun e => by have := hvb0 _ e.symm; have := hb4s.out; omega); have d7 := BN7.cell 0; have e7 := BD7.cell 0; have x7 := Blk.frozen BD7 0; simp only [List.getElem?_cons_zero] at d7 e7; have ST7 := Lib.hid (ActsSt.next St5.out St3.out.own (by have := St3.out.box.lt; omega) HO5.out g7 h7); clear o7 g7 b7 h7 hvb hvb0 BD7 BN7 f0 f1 f2 f3 DA)
        exact ⟨⟨k + 1, _, _, _, q ++ [(ak, an, at_, ad)], by omega, by go_num, by simp; omega, HM2, HQ2, ST7.out⟩, by simp [intOf]; omega⟩
      | false =>
        have C := Lib.hid (l01Once_any w0 n g 20 (by omega) (by omega) _ St5.out.cur)
        go_wp2_with fail
        refine C.out.mono ?_
        rintro e w6 ⟨⟨y, rfl⟩, hc, hg⟩
        have hs6 := hg.size
        have hgl4 : g < wB.heap.size := St3.out.cur.lt
        have St6 := Lib.hid (St5.out.drawn hc hg)
        have BA6 := Lib.hid (BA5.out.kept hg (fun e => by have := Option.some.inj e; have := St5.out.gd; have := St3.out.wd; have := HGW.out; omega))
        have BN6 := Lib.hid (BN5.out.kept hg (fun e => by have := Option.some.inj e; omega))
        have HO6 := Lib.hid (Own.kept_only HO5.out hg hgl4)
        clear hc hg St5 BA5 BN5 HO5 C
        cases y with
        | true =>
          obtain ⟨f0, f1, f2, f3⟩ : w6.cell? ⟨w2.heap.size, 0, none⟩ = some (.int .i64 ak) ∧ w6.cell? ⟨w2.heap.size, 1, none⟩ = some (.string an) ∧ w6.cell? ⟨w2.heap.size, 2, none⟩ = some (.string at_) ∧ w6.cell? ⟨w2.heap.size, 3, none⟩ = some (.string ad) := ⟨BA6.out.cell 0, BA6.out.cell 1, BA6.out.cell 2, BA6.out.cell 3⟩
          go_wp2_with (at_builtin; go_loud (refine wpList_push_cells w6 _ rfl _ _ 51 rfl 67 Try.underlying51 _ 4 56 rfl Try.infoActD (w.heap.size + 1) _ q.length (actC q) rfl St6.out.own _ (actC [(ak, an, at_, ad)]) rfl (actC_one _) 1 1 rfl _ rfl rfl (by omega) (by decide) (by have := St6.out.box.lt; omega) rfl ?_); intro v7 w7 o7 g7 b7; have h7 : Own w7 (w.heap.size + 1) 4 v7 (q ++ [(ak, an, at_, ad)]).length (actC (q ++ [(ak, an, at_, ad)])) := (by rw [actC_append, List.length_append]; exact o7); have hvb := Own.block St6.out.own; have hvb0 := Own.block St3.out.own; have BD7 := Blk.kept St6.out.box g7 (fun e => by have := hvb _ e.symm; omega); have BN7 := Blk.kept BN6.out g7 (fun e => by have := hvb0 _ e.symm; have := hb4s.out; omega); have d7 := BN7.cell 0; have e7 := BD7.cell 0; have x7 := Blk.frozen BD7 0; simp only [List.getElem?_cons_zero] at d7 e7; have ST7 := Lib.hid (ActsSt.next St6.out St3.out.own (by have := St3.out.box.lt; omega) HO6.out g7 h7); clear o7 g7 b7 h7 hvb hvb0 BD7 BN7 f0 f1 f2 f3 DA)
          exact ⟨⟨k + 1, _, _, _, q ++ [(ak, an, at_, ad)], by omega, by go_num, by simp; omega, HM2, HQ2, ST7.out⟩, by simp [intOf]; omega⟩
        | false =>
          go_wp2_with fail
          exact ⟨⟨k + 1, m, ao, c, q, by omega, by go_num, by omega, HM, HQ, St6.out⟩, by simp [intOf]; omega⟩
    · go_wp2_with fail
      go_ret
      exact ⟨⟨_, q, rfl, Own.mono St1.out.own (by omega), by omega, HQ.out⟩, St1.out.cur, St1.out.low⟩

end Go.Proofs.Ytdecehecjlbbiaa
