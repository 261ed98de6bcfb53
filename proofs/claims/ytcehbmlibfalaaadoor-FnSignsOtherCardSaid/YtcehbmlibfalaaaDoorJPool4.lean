/-
  The walks of a pool's root.
-/
import Derived.Test.YtcehbmlibfalaaaDoorJPool3
import Derived.Test.YtcehbmlibfalaaaDoorBase4
namespace Go.Proofs.YtcehbmlibfalaaaDoor
open Go.RowKit

theorem iPoolRoot_any (ao : Option Addr) (cap : Nat) (l : List ByteArray) (w : World) (_hl : l.length ≤ 1048576) (hs : ∀ x ∈ l, x.size ≤ 1048576) (h : RdS w ao l) (hT : YtcehbmlibfalaaaDoorTabs w) :
    Calls Tryd.prog 16 #[.slice ao l.length cap] w fun e w' => e = .returned (.string (rootL l)) ∧ Below w.heap.size w w' := by
  by_cases h16 : l.length = 16
  · have hr : rootL l = (upN 4 l).getD 0 ByteArray.empty := if_pos h16
    rw [hr]
    generalize hr0 : (upN 4 l).getD 0 ByteArray.empty = r
    have HR := Lib.hid hr0
    have hU : Hid (∀ k, k ≤ 4 → (upN k l).length = 2 ^ (4 - k) ∧ ∀ x ∈ upN k l, x.size ≤ 1048576) := Lib.hid fun k hk => ⟨upN_len h16 k hk, upN_size (by decide) hs k⟩
    have H := Lib.hid h
    have HT := Lib.hid hT
    clear hr hr0 h hs hT
    rw [h16]
    go_enter Tryd.func16, Tryd.ntmps16
    go_wp2_with fail
    go_loopw [3] (fun v wr => ∃ (k : Nat) (m : List ByteArray) (am : Option Addr) (cm : Nat), k ≤ 4 ∧ v = .slice am m.length cm ∧ Hid (m = upN k l) ∧ RdS wr am m ∧ Below w.heap.size w wr) (fun v _ => lenV v)
    case atStart => exact ⟨0, l, ao, cap, Nat.zero_le _, by rw [h16], rfl, H.out, Below.refl _ _⟩
    case round =>
      obtain ⟨k, m, am, cm, hk, rfl, hm, hrd, hb⟩ := hrel
      have hbs := hb.size
      obtain ⟨hml, hms⟩ := hU.out k hk
      rw [← hm.out] at hml hms
      by_cases hlt : k < 4
      · have hm2 : 1 < m.length := by rw [hml]; exact Nat.one_lt_two_pow (by omega)
        have hm16 : m.length ≤ 16 := by rw [hml]; exact (Nat.pow_le_pow_right (by decide) (by omega) : 2 ^ (4 - k) ≤ 2 ^ 4)
        have C := Lib.hid (above_any am cm m wr (by omega) hms hrd (HT.out.below hb (Nat.le_refl _)))
        have hul := upL_len m
        have HN : Hid (upL m = upN (k + 1) l) := by rw [hm.out]; rfl
        generalize upL m = u at *
        clear hrd hms hml hm
        go_wp2_with fail
        refine C.out.mono ?_
        rintro e w1 ⟨⟨v1, rfl, ho1⟩, hb1⟩
        obtain ⟨ao1, c1, rfl, r1⟩ := ho1.rd
        have R1 := Lib.hid r1
        have HB1 := Lib.hid (hb.trans (hb1.mono hbs))
        clear ho1 r1 hb hb1 hbs
        go_wp2_with fail
        exact ⟨⟨k + 1, u, ao1, c1, by omega, by rw [hul], HN, R1.out, HB1.out⟩, by simp [lenV]; omega⟩
      · obtain rfl : k = 4 := by omega
        have hm1 : m.length = 1 := hml
        obtain ⟨x, hx⟩ : ∃ x, m[0]? = some x := ⟨_, List.getElem?_eq_getElem (by omega)⟩
        have he : r = x := by
          have h1 := HR.out
          rw [← hm.out, List.getD_eq_getElem?_getD, hx] at h1
          exact h1.symm
        obtain ⟨b, off, rfl, hc⟩ := hrd 0 x hx
        rw [hm1]
        rw [Nat.add_zero] at hc
        subst he
        clear hm hx HR hml hms
        go_wp2_with fail
        go_ret
        exact ⟨rfl, hb⟩
  · have hr : rootL l = ⟨#[]⟩ := if_neg h16
    have hne : ((l.length : Int) != 16) = true := by rw [bne_iff_ne]; omega
    rw [hr]
    clear hr h hs hT
    go_enter Tryd.func16, Tryd.ntmps16
    go_wp2_with fail
    go_ret
    exact ⟨rfl, Below.refl _ _⟩

theorem sPoolRoot_any (ao : Option Addr) (cap : Nat) (l : List ByteArray) (w : World) (_hl : l.length ≤ 1048576) (hs : ∀ x ∈ l, x.size ≤ 1048576) (h : RdS w ao l) :
    Calls Tryd.prog 14 #[.slice ao l.length cap] w fun e w' => e = .returned (.string (rootL l)) ∧ Below w.heap.size w w' := by
  by_cases h16 : l.length = 16
  · have hr : rootL l = (upN 4 l).getD 0 ByteArray.empty := if_pos h16
    rw [hr]
    generalize hr0 : (upN 4 l).getD 0 ByteArray.empty = r
    have HR := Lib.hid hr0
    have hU : Hid (∀ k, k ≤ 4 → (upN k l).length = 2 ^ (4 - k) ∧ ∀ x ∈ upN k l, x.size ≤ 1048576) := Lib.hid fun k hk => ⟨upN_len h16 k hk, upN_size (by decide) hs k⟩
    have Hsrc := Lib.hid (RdS.src (P := Tryd.prog) Tryd.underlying24 (h.below ((Below.refl _ _).alloc (Nat.le_refl _) (.cells #[] 9)) (Nat.le_refl _)) cap)
    have h16b : ((l.length : Int) != 16) = false := by rw [bne_eq_false_iff_eq]; omega
    clear hr hr0 h hs
    go_enter Tryd.func14, Tryd.ntmps14
    go_upto_region 4 with (at_builtin; refine wpList_append_Own _ rfl _ _ 24 24 rfl w.heap.size 9 _ 1 16 Tryd.underlying24 Tryd.infoStr rfl _ 0 [] rfl (OwnS.empty w w.heap.size 9 (Nat.le_refl _)) _ rfl l.length (strC l) Hsrc.out (by unfold maxLen; omega) (by omega) (by simp) ?_; intro v1 w1 hown1 hg1 _)
    simp only [Nat.zero_add, List.nil_append] at hown1
    have hown2 : OwnS w1 w.heap.size v1 l := hown1
    have hb2 : Below w.heap.size w w1 := ((Below.refl _ _).alloc (Nat.le_refl _) _).grown hg1 (by simp) (fun k hk => by cases hk; exact Nat.le_refl _)
    obtain ⟨ao2, cap2, rfl, H2⟩ := hown2.rd
    have H16 := Lib.hid h16
    clear hown1 hg1 hown2 Hsrc h16b h16
    try generalize Value.bool ((l.length : Int) != 16) = q6 at *
    try generalize Value.bool (decide ((l.length : Int) ≠ 16)) = q6 at *
    go_loopw [3] (fun v wr => ∃ (k : Nat) (m : List ByteArray) (am : Option Addr) (cm : Nat), k ≤ 4 ∧ v = .slice am m.length cm ∧ Hid (m = upN k l) ∧ RdS wr am m ∧ Below w.heap.size w wr) (fun v _ => lenV v)
    case atStart => exact ⟨0, l, ao2, cap2, Nat.zero_le _, rfl, rfl, H2, hb2⟩
    case round =>
      obtain ⟨k, m, am, cm, hk, rfl, hm, hrd, hb⟩ := hrel
      have hbs := hb.size
      obtain ⟨hml, hms⟩ := hU.out k hk
      rw [← hm.out] at hml hms
      by_cases hlt : k < 4
      · have hm2 : 1 < m.length := by rw [hml]; exact Nat.one_lt_two_pow (by omega)
        have hm16 : m.length ≤ 16 := by rw [hml]; exact (Nat.pow_le_pow_right (by decide) (by omega) : 2 ^ (4 - k) ≤ 2 ^ 4)
        have C := Lib.hid (sUp_any am cm m wr (by omega) hms hrd)
        have hul := upL_len m
        have HN : Hid (upL m = upN (k + 1) l) := by rw [hm.out]; rfl
        generalize upL m = u at *
        clear hrd hms hml hm
        go_wp2_with fail
        refine C.out.mono ?_
        rintro e w1 ⟨⟨v1, rfl, ho1⟩, hb1⟩
        obtain ⟨ao1, c1, rfl, r1⟩ := ho1.rd
        have R1 := Lib.hid r1
        have HB1 := Lib.hid (hb.trans (hb1.mono hbs))
        clear ho1 r1 hb hb1 hbs
        go_wp2_with fail
        exact ⟨⟨k + 1, u, ao1, c1, by omega, by rw [hul], HN, R1.out, HB1.out⟩, by simp [lenV]; omega⟩
      · obtain rfl : k = 4 := by omega
        have hm1 : m.length = 1 := hml
        obtain ⟨x, hx⟩ : ∃ x, m[0]? = some x := ⟨_, List.getElem?_eq_getElem (by omega)⟩
        have he : r = x := by
          have h1 := HR.out
          rw [← hm.out, List.getD_eq_getElem?_getD, hx] at h1
          exact h1.symm
        obtain ⟨b, off, rfl, hc⟩ := hrd 0 x hx
        rw [hm1]
        rw [Nat.add_zero] at hc
        subst he
        clear hm hx HR hml hms
        go_wp2_with fail
        go_ret
        exact ⟨rfl, hb⟩
  · have hr : rootL l = ⟨#[]⟩ := if_neg h16
    have hne : ((l.length : Int) != 16) = true := by rw [bne_iff_ne]; omega
    rw [hr]
    clear hr h hs
    go_enter Tryd.func14, Tryd.ntmps14
    go_wp2_with fail
    go_ret
    exact ⟨rfl, Below.refl _ _⟩

end Go.Proofs.YtcehbmlibfalaaaDoor
