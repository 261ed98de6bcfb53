/-
  The walks of the compression function over eight integers, on both sides.
-/
import Derived.Test.YtbjbengbkdoinaaDoorSha4
import Derived.Test.YtbjbengbkdoinaaDoorPuShaB
import Derived.Test.YtbjbengbkdoinaaDoorInts1
import Derived.Test.YtbjbengbkdoinaaDoorBits
namespace Go.Proofs.YtbjbengbkdoinaaDoor
open Go.RowKit

theorem bcellB {W w1 : World} (hb : Below W.heap.size W w1) : (∀ b o, b < W.heap.size → w1.cell? ⟨b, o, none⟩ = W.cell? ⟨b, o, none⟩) ∧ (∀ b o, b < W.heap.size → w1.frozen? ⟨b, o, none⟩ = W.frozen? ⟨b, o, none⟩) :=
  ⟨fun b o h => hb.cell (p := ⟨b, o, none⟩) h, fun b o h => hb.frozen (p := ⟨b, o, none⟩) h⟩

/-- A row of integers is there. -/
def SomeI (w : World) (B : Nat) (l : List Int) (e : Ending) (w' : World) : Prop := (∃ v, e = .returned v ∧ OwnI w' B v l) ∧ Below w.heap.size w w'

theorem l03Block_lit (s : W8) (hs : s.Ok) (b : ByteArray) (hb : b.size = 64) (r : W8) (hr : comp s b.data.toList = r) (w : World) :
    Calls Tryd.prog 56 #[.agg #[.int .u32 s.a, .int .u32 s.b, .int .u32 s.c, .int .u32 s.d, .int .u32 s.e, .int .u32 s.f, .int .u32 s.g, .int .u32 s.h], .string b, .agg (natC keyL).toArray] w fun e w' => e = .returned (.agg #[.int .u32 r.a, .int .u32 r.b, .int .u32 r.c, .int .u32 r.d, .int .u32 r.e, .int .u32 r.f, .int .u32 r.g, .int .u32 r.h]) ∧ Below w.heap.size w w' := by
  subst hr; exact l03Block_any s hs b hb w

set_option maxHeartbeats 2000000 in
set_option maxRecDepth 100000 in
theorem sShaBlock_any (ao : Option Addr) (cap : Nat) (l : List Int) (b : ByteArray) (w : World) (hl : l.length ≤ 1099511627776) (h : RdI w ao l) :
    Calls Tryd.prog 15 #[.slice ao l.length cap, .string b] w (SomeI w w.heap.size (shaB l b.data.toList)) := by
  have H := Lib.hid h
  have hsrc : Src Tryd.prog 1 22 (.slice ao l.length cap) l.length (intC l) (w.alloc (.cells #[] 3)) := RdI.src Tryd.underlying22 (RdI.below h ((Below.refl _ _).alloc (Nat.le_refl _) _) (Nat.le_refl _)) cap
  have Hsrc := Lib.hid hsrc
  clear h hsrc
  have hbl : b.data.toList.length = b.size := by simp
  by_cases h8 : l.length = 8 ∧ b.size = 64
  · have e1 : ((l.length : Int) != 8) = false := by rw [bne_eq_false_iff_eq]; omega
    have e2 : ((b.size : Int) != 64) = false := by rw [bne_eq_false_iff_eq]; omega
    have H8 := Lib.hid h8
    have Hbl := Lib.hid hbl
    clear h8 hbl
    go_enter Tryd.func15, Tryd.ntmps15
    go_upto_region 5 with (at_builtin; refine wpList_append_Own _ rfl _ _ 22 22 rfl w.heap.size 3 _ 1 8 Tryd.underlying22 Tryd.infoInt rfl _ 0 [] rfl (OwnI.empty w w.heap.size 3 (Nat.le_refl _)) _ rfl l.length (intC l) Hsrc.out (by unfold maxLen; omega) (by omega) (by simp) ?_; intro v1 w1 hown1 hg1 _)
    simp only [Nat.zero_add, List.nil_append] at hown1
    have hb1 : Below w.heap.size w w1 := ((Below.refl _ _).alloc (Nat.le_refl _) _).grown hg1 (by simp) (fun k hk => by cases hk; exact Nat.le_refl _)
    clear hg1
    refine wp_one ?_
    intro W kA hbA hsA
    have hbW := hb1.trans (hbA.mono hb1.size)
    have hownW : OwnI W w.heap.size v1 l := Own.below hown1 hbA (Nat.le_refl _)
    have hgv : v1.ownBlock ≠ some w1.heap.size := fun hk => Nat.lt_irrefl _ (hown1.block _ hk).2
    have hge := hb1.size
    clear hown1 hb1 hbA hsA
    generalize w1.heap.size = g at *
    go_wp2_with fail
    go_loopw [7] (fun i wr => ∃ (k : Nat) (cs : List Value), k ≤ 8 ∧ i = .int .i64 k ∧ Hid (cs.length = 8 ∧ ∀ j, j < k → cs[j]? = some (.int .u32 (wOf l j : Nat))) ∧ Hid (∀ x ∈ l.take k, 0 ≤ x ∧ x ≤ 4294967295) ∧ Blk wr g 50 cs ∧ OwnI wr w.heap.size v1 l ∧ Below w.heap.size w wr) (fun i _ => 8 - (intOf i).toNat)
    case atStart => exact ⟨0, _, Nat.zero_le _, rfl, ⟨rfl, fun j hj => by omega⟩, (fun x hx => by simp at hx), kA, hownW, hbW⟩
    case round =>
      clear kA hownW hbW
      obtain ⟨k, cs, hk, rfl, HC, HR, kS, hown, hb⟩ := hrel
      by_cases hlt : k < 8
      · obtain ⟨x, hx⟩ : ∃ x, l[k]? = some x := ⟨_, List.getElem?_eq_getElem (by rw [H8.out.1]; exact hlt)⟩
        obtain ⟨b0, o0, rfl, hc⟩ := (RdI.below H.out hb (Nat.le_refl _)).at_ k x hx
        have hkl : k < l.length := by rw [H8.out.1]; exact hlt
        by_cases hr : 0 ≤ x ∧ x ≤ 4294967295
        · have hR' : ∀ y ∈ l.take (k + 1), 0 ≤ y ∧ y ≤ 4294967295 := by
            intro y hy
            rw [List.take_add_one, hx] at hy
            rcases List.mem_append.1 hy with hy | hy
            · exact HR.out y hy
            · simp at hy; subst hy; exact hr
          have hw : x = (wOf l k : Nat) := by
            unfold wOf
            rw [List.getD_eq_getElem?_getD, hx]
            simp only [Option.getD_some]
            omega
          have HR' := Lib.hid hR'
          have Hw := Lib.hid hw
          have hr0 := hr.1
          have hr1 := hr.2
          have hf := kS.frozen k
          have hcl : k < cs.length := by rw [HC.out.1]; omega
          have hcc : wr.cell? ⟨g, k, none⟩ = some cs[k] := by rw [kS.cell k, List.getElem?_eq_getElem hcl]
          generalize cs[k] = u at hcc
          have C := Lib.hid (fun wx => l01In_yes x 0 4294967295 hr wx)
          clear hx hR' hw hcl hr
          go_wp2_with (go_at_call 55; refine (C.out _).mono ?_; rintro e w' ⟨rfl, rfl⟩)
          exact ⟨⟨k + 1, _, by omega, by go_num, step_set HC.out (by omega) (by rw [← Hw.out]), HR', kS.set_ k _, Own.far hown hgv _, hb.setCell hge _⟩, by simp [intOf]; omega⟩
        · have hno : shaB l b.data.toList = l := shaB_no (fun h => hr (h.2.2 x (List.mem_of_getElem? hx)))
          have Hno := Lib.hid hno
          have C := Lib.hid (fun wx => l01In_no x 0 4294967295 hr wx)
          clear hno hx hr
          go_wp2_with (go_at_call 55; refine (C.out _).mono ?_; rintro e w' ⟨rfl, rfl⟩)
          go_ret
          exact ⟨⟨_, rfl, by rw [Hno.out]; exact hown⟩, hb⟩
      · obtain rfl : k = 8 := by omega
        have hall : ∀ x ∈ l, 0 ≤ x ∧ x ≤ 4294967295 := by
          have h := HR.out
          rw [List.take_of_length_le (by rw [H8.out.1]; omega)] at h
          exact h
        have hok := w8Of_ok hall
        have he : cs = natC (w8Of l).toL := w8_of HC.out.1 (fun j hj => by rw [HC.out.2 j hj, w8Of_at l j hj])
        have hyes : shaB l b.data.toList = intsOf (comp (w8Of l) b.data.toList).toL := shaB_yes ⟨H8.out.1, by rw [Hbl.out]; exact H8.out.2, hall⟩
        have hbs := H8.out.2
        rw [he] at kS
        generalize w8Of l = s at *
        obtain ⟨r, hr⟩ : ∃ r, comp s b.data.toList = r := ⟨_, rfl⟩
        rw [hr] at hyes
        have C0 := fun wx => l03Block_lit s hok b hbs r hr wx
        have C := Lib.hid C0
        have Hyes := Lib.hid hyes
        have Hrok : Hid r.Ok := by show r.Ok; rw [← hr]; exact comp_ok _ _
        obtain ⟨s0, s1, s2, s3, s4, s5, s6, s7⟩ := s
        obtain ⟨r0, r1, r2, r3, r4, r5, r6, r7⟩ := r
        obtain ⟨⟨d0, d1, d2, d3, d4, d5, d6, d7⟩, f0, f1, f2, f3, f4, f5, f6, f7⟩ := state8 kS
        have hgl := kS.lt
        clear C0 hyes hall hok he hbs hr HC HR hlt hk
        go_wp2_with fail
        go_region_with (first | (go_at_call 57; refine (l03Keys_any _).mono ?_; rintro e w5 ⟨rfl, hb5⟩; have hg5 : g < w5.heap.size := Nat.lt_of_lt_of_le hgl hb5.size; have k5 := Blk.below (Blk.drew kS) hb5 hgl; obtain ⟨⟨y0, y1, y2, y3, y4, y5, y6, y7⟩, x0, x1, x2, x3, x4, x5, x6, x7⟩ := state8 k5) | (go_at_call 56; refine (C.out _).mono ?_; rintro e w6 ⟨rfl, hb6⟩; have k6 := Blk.below k5 hb6 hg5; obtain ⟨⟨z0, z1, z2, z3, z4, z5, z6, z7⟩, x0, x1, x2, x3, x4, x5, x6, x7⟩ := state8 k6))
        all_goals
          have hge6 : w5.heap.size ≤ w6.heap.size := hb6.size
          have hb56 : Below wr.heap.size wr w6 := (Below.refl _ _).drew.trans (Below.trans hb5 (hb6.mono hb5.size))
          have k7 := ((((((((k6.set_ 0 (.int .u32 r0)).set_ 1 (.int .u32 r1)).set_ 2 (.int .u32 r2)).set_ 3 (.int .u32 r3)).set_ 4 (.int .u32 r4)).set_ 5 (.int .u32 r5)).set_ 6 (.int .u32 r6)).set_ 7 (.int .u32 r7))
          have o6 : OwnI w6 w.heap.size v1 l := Own.below hown hb56 (Nat.le_refl _)
          have o7 := (((((((Own.far o6 (a := ⟨g, 0, none⟩) hgv (.int .u32 r0)).far (a := ⟨g, 1, none⟩) hgv (.int .u32 r1)).far (a := ⟨g, 2, none⟩) hgv (.int .u32 r2)).far (a := ⟨g, 3, none⟩) hgv (.int .u32 r3)).far (a := ⟨g, 4, none⟩) hgv (.int .u32 r4)).far (a := ⟨g, 5, none⟩) hgv (.int .u32 r5)).far (a := ⟨g, 6, none⟩) hgv (.int .u32 r6)).far (a := ⟨g, 7, none⟩) hgv (.int .u32 r7)
          have b6 : Below w.heap.size w w6 := hb.trans (hb56.mono hb.size)
          have b7 := (((((((b6.setCell (p := ⟨g, 0, none⟩) hge (.int .u32 r0)).setCell (p := ⟨g, 1, none⟩) hge (.int .u32 r1)).setCell (p := ⟨g, 2, none⟩) hge (.int .u32 r2)).setCell (p := ⟨g, 3, none⟩) hge (.int .u32 r3)).setCell (p := ⟨g, 4, none⟩) hge (.int .u32 r4)).setCell (p := ⟨g, 5, none⟩) hge (.int .u32 r5)).setCell (p := ⟨g, 6, none⟩) hge (.int .u32 r6)).setCell (p := ⟨g, 7, none⟩) hge (.int .u32 r7)
          clear k6 z0 z1 z2 z3 z4 z5 z6 z7 x0 x1 x2 x3 x4 x5 x6 x7
          obtain ⟨gv, cv, hv⟩ := own_some o7 (by rw [H8.out.1]; omega)
          rw [H8.out.1] at hv
          subst hv
          have o8 := o7
          rw [H8.out.1] at o8
          have hne : ¬ gv = g := fun e => hgv (by rw [e]; rfl)
          have hne' : ¬ g = gv := fun e => hne e.symm
          have hgv' : w.heap.size ≤ gv := (hown.block gv rfl).1
          clear o7 o6 b6 hb hown hge6 hb56 hb5 hb6 k5 kS e1 e2 d0 d1 d2 d3 d4 d5 d6 d7 f0 f1 f2 f3 f4 f5 f6 f7 hgv
          go_wp2_with fail
          go_loopw [8] (fun i wr => ∃ (k : Nat) (cs : List Value), k ≤ 8 ∧ i = .int .i64 k ∧ Hid (cs.length = 8 ∧ ∀ j, j < k → cs[j]? = some (.int .i64 (W8.at_ ⟨r0, r1, r2, r3, r4, r5, r6, r7⟩ j : Nat))) ∧ Own wr w.heap.size 1 (.slice (some ⟨gv, 0, none⟩) 8 cv) 8 cs ∧ Blk wr g 50 (natC (W8.toL ⟨r0, r1, r2, r3, r4, r5, r6, r7⟩)) ∧ Below w.heap.size w wr) (fun i _ => 8 - (intOf i).toNat)
          case atStart => exact ⟨0, _, Nat.zero_le _, rfl, ⟨Own.len o8, fun j hj => by omega⟩, o8, k7, b7⟩
          case round =>
            clear o8 k7 b7
            obtain ⟨k, cs, hk, rfl, HC, hown, kS, hb⟩ := hrel
            by_cases hlt : k < 8
            · have c0 : wr.cell? ⟨g, k, none⟩ = some (.int .u32 (W8.at_ ⟨r0, r1, r2, r3, r4, r5, r6, r7⟩ k : Nat)) := by rw [kS.cell]; exact W8.cell_at _ k hlt
              have hl : W8.at_ ⟨r0, r1, r2, r3, r4, r5, r6, r7⟩ k < 4294967296 := W8.at_lt (Hrok.out) k
              obtain ⟨⟨u, hu⟩, hf⟩ := hown.at1 k hlt
              have Hx := Lib.hid (rfl : W8.at_ ⟨r0, r1, r2, r3, r4, r5, r6, r7⟩ k = W8.at_ ⟨r0, r1, r2, r3, r4, r5, r6, r7⟩ k)
              generalize hxx : W8.at_ ⟨r0, r1, r2, r3, r4, r5, r6, r7⟩ k = x at c0 hl
              have Hxx := Lib.hid hxx
              clear hxx Hx
              go_wp2_with fail
              exact ⟨⟨k + 1, _, by omega, by go_num, step_set HC.out (by omega) (by rw [Hxx.out]), hown.store1 k hlt _, kS.far hne' _, hb.setCell hgv' _⟩, by simp [intOf]; omega⟩
            · obtain rfl : k = 8 := by omega
              have he : cs = intC (intsOf (W8.toL ⟨r0, r1, r2, r3, r4, r5, r6, r7⟩)) := ints8_of HC.out.1 HC.out.2
              have ho : OwnI wr w.heap.size (.slice (some ⟨gv, 0, none⟩) 8 cv) (shaB l b.data.toList) := by
                rw [Hyes.out]
                unfold OwnI
                rw [← he]
                exact hown
              clear he HC Hyes hown
              go_wp2_with fail
              go_ret
              exact ⟨⟨_, rfl, ho⟩, hb⟩
  · have hno : shaB l b.data.toList = l := shaB_no (fun h => h8 ⟨h.1, by rw [← hbl]; exact h.2.1⟩)
    have Hno := Lib.hid hno
    clear hno hbl
    by_cases hl8 : l.length = 8
    · have e1 : ((l.length : Int) != 8) = false := by rw [bne_eq_false_iff_eq]; omega
      have e2 : ((b.size : Int) != 64) = true := by rw [bne_iff_ne]; omega
      clear h8 hl8
      go_enter Tryd.func15, Tryd.ntmps15
      go_wp2_with (at_builtin; refine wpList_append_Own _ rfl _ _ 22 22 rfl w.heap.size 3 _ 1 8 Tryd.underlying22 Tryd.infoInt rfl _ 0 [] rfl (OwnI.empty w w.heap.size 3 (Nat.le_refl _)) _ rfl l.length (intC l) Hsrc.out (by unfold maxLen; omega) (by omega) (by simp) ?_; intro v1 w1 hown1 hg1 _)
      simp only [Nat.zero_add, List.nil_append] at hown1
      go_ret
      exact ⟨⟨_, rfl, by rw [Hno.out]; exact hown1⟩, ((Below.refl _ _).alloc (Nat.le_refl _) _).grown hg1 (by simp) (fun k hk => by cases hk; exact Nat.le_refl _)⟩
    · have e1 : ((l.length : Int) != 8) = true := by rw [bne_iff_ne]; omega
      clear h8 hl8
      go_enter Tryd.func15, Tryd.ntmps15
      go_wp2_with (at_builtin; refine wpList_append_Own _ rfl _ _ 22 22 rfl w.heap.size 3 _ 1 8 Tryd.underlying22 Tryd.infoInt rfl _ 0 [] rfl (OwnI.empty w w.heap.size 3 (Nat.le_refl _)) _ rfl l.length (intC l) Hsrc.out (by unfold maxLen; omega) (by omega) (by simp) ?_; intro v1 w1 hown1 hg1 _)
      simp only [Nat.zero_add, List.nil_append] at hown1
      go_ret
      exact ⟨⟨_, rfl, by rw [Hno.out]; exact hown1⟩, ((Below.refl _ _).alloc (Nat.le_refl _) _).grown hg1 (by simp) (fun k hk => by cases hk; exact Nat.le_refl _)⟩

theorem Tryd.sizeU32b : (Tryd.prog.info? 49).map (·.size) = some 1 := by kernel_rfl
set_option maxHeartbeats 2000000 in
set_option maxRecDepth 100000 in
theorem iShaBlock_any (ao : Option Addr) (cap : Nat) (l : List Int) (b : ByteArray) (w : World) (hl : l.length ≤ 1099511627776) (h : RdI w ao l) (hT : TabAt w 1 .u32 keyZ) :
    Calls Tryd.prog 17 #[.slice ao l.length cap, .string b] w (SomeI w w.heap.size (shaB l b.data.toList)) := by
  have H := Lib.hid h
  have hsrc : Src Tryd.prog 1 22 (.slice ao l.length cap) l.length (intC l) w := RdI.src Tryd.underlying22 h cap
  have Hsrc := Lib.hid hsrc
  have HT := Lib.hid hT
  clear h hsrc hT
  have hbl : b.data.toList.length = b.size := by simp
  by_cases h8 : l.length = 8 ∧ b.size = 64
  · have e1 : ((l.length : Int) != 8) = false := by rw [bne_eq_false_iff_eq]; omega
    have e2 : ((b.size : Int) != 64) = false := by rw [bne_eq_false_iff_eq]; omega
    have hl8a : l.length ≤ 8 := by omega
    have hl8b : 8 ≤ l.length := by omega
    have H8 := Lib.hid h8
    have Hbl := Lib.hid hbl
    clear h8 hbl
    go_enter Tryd.func17, Tryd.ntmps17
    go_upto_region 5 with (at_builtin; refine wpList_append_Own _ rfl _ _ 22 22 rfl w.heap.size 3 _ 1 8 Tryd.underlying22 Tryd.infoInt rfl _ 0 [] rfl (OwnI.nil w w.heap.size) _ rfl l.length (intC l) Hsrc.out (by unfold maxLen; omega) (by omega) (Nat.le_refl _) ?_; intro v1 w1 hown1 hg1 _)
    simp only [Nat.zero_add, List.nil_append] at hown1
    have hb1 : Below w.heap.size w w1 := (Below.refl _ _).grown hg1 (Nat.le_refl _) (fun k hk => by cases hk)
    clear hg1
    refine wp_one ?_
    intro W kA hbA hsA
    have hbW := hb1.trans (hbA.mono hb1.size)
    have hownW : OwnI W w.heap.size v1 l := Own.below hown1 hbA (Nat.le_refl _)
    have hgv : v1.ownBlock ≠ some w1.heap.size := fun hk => Nat.lt_irrefl _ (hown1.block _ hk).2
    have hge := hb1.size
    clear hown1 hb1 hbA hsA
    generalize w1.heap.size = g at *
    go_wp2_with fail
    go_loopw [24] (fun i wr => ∃ (k : Nat) (cs : List Value), k ≤ 8 ∧ i = .int .i64 k ∧ Hid (cs.length = 8 ∧ ∀ j, j < k → cs[j]? = some (.int .u32 (wOf l j : Nat))) ∧ Hid (∀ x ∈ l.take k, 0 ≤ x ∧ x ≤ 4294967295) ∧ Blk wr g 50 cs ∧ OwnI wr w.heap.size v1 l ∧ Below w.heap.size w wr) (fun i _ => 8 - (intOf i).toNat)
    case atStart => exact ⟨0, _, Nat.zero_le _, rfl, ⟨rfl, fun j hj => by omega⟩, (fun x hx => by simp at hx), kA, hownW, hbW⟩
    case round =>
      clear kA hownW hbW
      obtain ⟨k, cs, hk, rfl, HC, HR, kS, hown, hb⟩ := hrel
      by_cases hlt : k < 8
      · obtain ⟨x, hx⟩ : ∃ x, l[k]? = some x := ⟨_, List.getElem?_eq_getElem (by rw [H8.out.1]; exact hlt)⟩
        obtain ⟨b0, o0, rfl, hc⟩ := (RdI.below H.out hb (Nat.le_refl _)).at_ k x hx
        have hkl : k < l.length := by rw [H8.out.1]; exact hlt
        by_cases hr : 0 ≤ x ∧ x ≤ 4294967295
        · have hR' : ∀ y ∈ l.take (k + 1), 0 ≤ y ∧ y ≤ 4294967295 := by
            intro y hy
            rw [List.take_add_one, hx] at hy
            rcases List.mem_append.1 hy with hy | hy
            · exact HR.out y hy
            · simp at hy; subst hy; exact hr
          have hw : x = (wOf l k : Nat) := by
            unfold wOf
            rw [List.getD_eq_getElem?_getD, hx]
            simp only [Option.getD_some]
            omega
          have HR' := Lib.hid hR'
          have Hw := Lib.hid hw
          have hr0 := hr.1
          have hr1 := hr.2
          have hf := kS.frozen k
          have hcl : k < cs.length := by rw [HC.out.1]; omega
          have hcc : wr.cell? ⟨g, k, none⟩ = some cs[k] := by rw [kS.cell k, List.getElem?_eq_getElem hcl]
          generalize cs[k] = u at hcc
          have C := Lib.hid (fun wx => in_yes x 0 4294967295 hr wx)
          clear hx hR' hw hcl hr
          go_wp2_with (go_at_call 58; refine (C.out _).mono ?_; rintro e w' ⟨rfl, rfl⟩)
          exact ⟨⟨k + 1, _, by omega, by go_num, step_set HC.out (by omega) (by rw [← Hw.out]), HR', kS.set_ k _, Own.far hown hgv _, hb.setCell hge _⟩, by simp [intOf]; omega⟩
        · have hno : shaB l b.data.toList = l := shaB_no (fun h => hr (h.2.2 x (List.mem_of_getElem? hx)))
          have Hno := Lib.hid hno
          have C := Lib.hid (fun wx => in_no x 0 4294967295 hr wx)
          clear hno hx hr
          go_wp2_with (go_at_call 58; refine (C.out _).mono ?_; rintro e w' ⟨rfl, rfl⟩)
          go_ret
          exact ⟨⟨_, rfl, by rw [Hno.out]; exact hown⟩, hb⟩
      · obtain rfl : k = 8 := by omega
        have hall : ∀ x ∈ l, 0 ≤ x ∧ x ≤ 4294967295 := by
          have h := HR.out
          rw [List.take_of_length_le (by rw [H8.out.1]; omega)] at h
          exact h
        have hok := w8Of_ok hall
        have he : cs = natC (w8Of l).toL := w8_of HC.out.1 (fun j hj => by rw [HC.out.2 j hj, w8Of_at l j hj])
        have hyes : shaB l b.data.toList = intsOf (comp (w8Of l) b.data.toList).toL := shaB_yes ⟨H8.out.1, by rw [Hbl.out]; exact H8.out.2, hall⟩
        have hbs := H8.out.2
        rw [he] at kS
        generalize w8Of l = s at *
        have C0 := fun wx hx => compress_any s hok b hbs wx hx
        have hrok : (comp s b.data.toList).Ok := comp_ok _ _
        generalize comp s b.data.toList = r at *
        have C := Lib.hid C0
        have Hyes := Lib.hid hyes
        have Hrok := Lib.hid hrok
        obtain ⟨s0, s1, s2, s3, s4, s5, s6, s7⟩ := s
        obtain ⟨⟨d0, d1, d2, d3, d4, d5, d6, d7⟩, f0, f1, f2, f3, f4, f5, f6, f7⟩ := state8 kS
        clear C0 hyes hall hok he hbs hrok HC HR hlt hk f0 f1 f2 f3 f4 f5 f6 f7
        go_wp2_with fail
        refine (C.out wr (TabAt.below HT.out hb (Nat.le_refl _))).mono ?_
        rintro e w5 ⟨rfl, hb5⟩
        have o7 := Own.below hown hb5 (Nat.le_refl _)
        have b7 := hb.trans (hb5.mono hb.size)
        obtain ⟨gv, cv, hv⟩ := own_some o7 (by rw [H8.out.1]; omega)
        rw [H8.out.1] at hv
        subst hv
        have o8 := o7
        rw [H8.out.1] at o8
        have hgv' : w.heap.size ≤ gv := (hown.block gv rfl).1
        have hA : ∀ j, j < 8 → (natC r.toL).toArray[j]? = some (.int .u32 (r.at_ j : Nat)) := fun j hj => by rw [List.getElem?_toArray]; exact r.cell_at j hj
        generalize (natC r.toL).toArray = A at *
        have HA := Lib.hid hA
        clear hA o7 hb hown hb5 kS e1 e2 d0 d1 d2 d3 d4 d5 d6 d7 hgv C
        go_wp2_with fail
        go_loopw [41] (fun i wr => ∃ (k : Nat) (cs : List Value), k ≤ 8 ∧ i = .int .i64 k ∧ Hid (cs.length = 8 ∧ ∀ j, j < k → cs[j]? = some (.int .i64 (r.at_ j : Nat))) ∧ Own wr w.heap.size 1 (.slice (some ⟨gv, 0, none⟩) 8 cv) 8 cs ∧ Below w.heap.size w wr) (fun i _ => 8 - (intOf i).toNat)
        case atStart => exact ⟨0, _, Nat.zero_le _, rfl, ⟨Own.len o8, fun j hj => by omega⟩, o8, b7⟩
        case round =>
          clear o8 b7
          obtain ⟨k, cs, hk, rfl, HC, hown, hb⟩ := hrel
          by_cases hlt : k < 8
          · have hl := W8.at_lt Hrok.out k
            have q := fun wx => idx_arr (P := Tryd.prog) (k := .i64) Tryd.underlying50 Tryd.underlying49 Tryd.sizeU32b A k hlt _ (HA.out k hlt) wx
            obtain ⟨⟨u, hu⟩, hf⟩ := hown.at1 k hlt
            generalize hxx : r.at_ k = x at q hl
            have Hxx := Lib.hid hxx
            clear hxx
            go_wp2_with fail
            exact ⟨⟨k + 1, _, by omega, by go_num, step_set HC.out (by omega) (by rw [Hxx.out]), hown.store1 k hlt _, hb.setCell hgv' _⟩, by simp [intOf]; omega⟩
          · obtain rfl : k = 8 := by omega
            have he : cs = intC (intsOf r.toL) := ints8_of HC.out.1 HC.out.2
            have ho : OwnI wr w.heap.size (.slice (some ⟨gv, 0, none⟩) 8 cv) (shaB l b.data.toList) := by
              rw [Hyes.out]
              unfold OwnI
              rw [← he]
              exact hown
            clear he HC Hyes hown
            go_wp2_with fail
            go_ret
            exact ⟨⟨_, rfl, ho⟩, hb⟩
  · have hno : shaB l b.data.toList = l := shaB_no (fun h => h8 ⟨h.1, by rw [← hbl]; exact h.2.1⟩)
    have Hno := Lib.hid hno
    clear hno hbl
    by_cases hl8 : l.length = 8
    · have e1 : ((l.length : Int) != 8) = false := by rw [bne_eq_false_iff_eq]; omega
      have e2 : ((b.size : Int) != 64) = true := by rw [bne_iff_ne]; omega
      clear h8 hl8
      go_enter Tryd.func17, Tryd.ntmps17
      go_wp2_with (at_builtin; refine wpList_append_Own _ rfl _ _ 22 22 rfl w.heap.size 3 _ 1 8 Tryd.underlying22 Tryd.infoInt rfl _ 0 [] rfl (OwnI.nil w w.heap.size) _ rfl l.length (intC l) Hsrc.out (by unfold maxLen; omega) (by omega) (Nat.le_refl _) ?_; intro v1 w1 hown1 hg1 _)
      simp only [Nat.zero_add, List.nil_append] at hown1
      go_ret
      exact ⟨⟨_, rfl, by rw [Hno.out]; exact hown1⟩, (Below.refl _ _).grown hg1 (Nat.le_refl _) (fun k hk => by cases hk)⟩
    · have e1 : ((l.length : Int) != 8) = true := by rw [bne_iff_ne]; omega
      clear h8 hl8
      go_enter Tryd.func17, Tryd.ntmps17
      go_wp2_with (at_builtin; refine wpList_append_Own _ rfl _ _ 22 22 rfl w.heap.size 3 _ 1 8 Tryd.underlying22 Tryd.infoInt rfl _ 0 [] rfl (OwnI.nil w w.heap.size) _ rfl l.length (intC l) Hsrc.out (by unfold maxLen; omega) (by omega) (Nat.le_refl _) ?_; intro v1 w1 hown1 hg1 _)
      simp only [Nat.zero_add, List.nil_append] at hown1
      go_ret
      exact ⟨⟨_, rfl, by rw [Hno.out]; exact hown1⟩, (Below.refl _ _).grown hg1 (Nat.le_refl _) (fun k hk => by cases hk)⟩

end Go.Proofs.YtbjbengbkdoinaaDoor
