/-
  The walks of a string with its purpose, on both sides.
-/
import Derived.Test.YtcehbmlibfalaaaDoorBase4
import Derived.Test.YtcehbmlibfalaaaDoorJStrs1
import Derived.Test.YtcehbmlibfalaaaDoorJWords1
import Derived.Test.YtcehbmlibfalaaaDoorJSums2
import Derived.Test.YtcehbmlibfalaaaDoorJBits
namespace Go.Proofs.YtcehbmlibfalaaaDoor
open Go.RowKit

theorem kind_cell (k : Int) (h : 1 ≤ k ∧ k ≤ 8) : [Value.int .u8 k] = u8s [UInt8.ofNat k.toNat] := u8_cell (by rw [ofNat_mod]; omega)

theorem txt_append_assoc (a b c : ByteArray) : a ++ b ++ c = a ++ (b ++ c) := ByteArray.append_assoc

set_option maxHeartbeats 2000000 in
set_option maxRecDepth 100000 in
theorem iTagText_any (k : Int) (ao : Option Addr) (cap : Nat) (l : List ByteArray) (w : World) (hl : l.length ≤ 1048576) (hs : ∀ x ∈ l, x.size ≤ 1048576) (h : RdS w ao l) :
    Calls Tryd.prog 24 #[.int .i64 k, .slice ao l.length cap] w fun e w' => e = .returned (optTxt (tagL k l)) ∧ Below w.heap.size w w' := by
  have H := Lib.hid h
  have HS := Lib.hid hs
  clear h hs
  by_cases hk : 1 ≤ k ∧ k ≤ 8
  · by_cases hn : l.length ≤ 60
    · have hc := Lib.hid (kind_cell k hk)
      go_enter Tryd.func24, Tryd.ntmps24
      go_wp2_with (go_at_call 59; refine (in_yes _ _ _ hk _).mono ?_; rintro e w' ⟨rfl, rfl⟩)
      have hmade := OwnB.made w w.heap.size _ _ hc.out 1 rfl 5 (Nat.le_refl _) (by decide)
      generalize hkb : UInt8.ofNat k.toNat = kb at *
      go_loopw [6, 22] (fun v i wr => ∃ j : Nat, j ≤ l.length ∧ i = .int .i64 j ∧ Hid (∀ y ∈ l.take j, y.size ≤ 200) ∧ OwnB wr w.heap.size v (kb :: tagBody (l.take j)) ∧ Below w.heap.size w wr) (fun _ i _ => l.length - (intOf i).toNat)
      case atStart => exact ⟨0, Nat.zero_le _, rfl, fun y hy => by simp at hy, hmade, (Below.refl _ _).alloc (Nat.le_refl _) _⟩
      case round =>
        obtain ⟨j, hj, rfl, hA, hown, hb⟩ := hrel
        have hbs := hb.size
        by_cases hlt : j < l.length
        · obtain ⟨x, hx⟩ : ∃ x, l[j]? = some x := ⟨_, List.getElem?_eq_getElem hlt⟩
          obtain ⟨b, o, rfl, hcell⟩ := (H.out.below hb (Nat.le_refl _)) j x hx
          by_cases hxs : x.size ≤ 200
          · have hbl : (tagBody (l.take j)).length ≤ 203 * l.length := by
              have := tagBody_len hA.out
              rw [List.length_take] at this; omega
            have hvx : (txt (varL x.size ++ x.data.toList)).size ≤ 204 := by
              have h3 := varL_length_le 2 x.size (by omega)
              have h4 : x.data.toList.length = x.size := by rw [Array.length_toList]; rfl
              rw [txt_size, List.length_append]; omega
            have hbl' : (kb :: tagBody (l.take j)).length ≤ 203 * l.length + 1 := by rw [List.length_cons]; omega
            have hA' := Lib.hid (all_step hx hA.out hxs)
            have hst := Lib.hid (tagBody_step hx)
            clear hA hx hbl
            go_wp2_with (first | (go_at_call 60; refine (shortText_any _ (by omega) _).mono ?_; rintro e w1 ⟨rfl, hb1⟩; have hown1 := hown.below hb1 (Nat.le_refl _); have hbb := hb.trans (hb1.mono hbs); have hbbs := hbb.size) | (at_builtin; refine wpList_push_text _ rfl _ _ 32 9 rfl 5 Tryd.underlying32 Tryd.underlying9 Tryd.infoU8 _ _ _ rfl hown1 _ rfl (by omega) hbbs ?_; intro v1 w3 hown3 hg3 hb3))
            exact ⟨⟨j + 1, by omega, by go_num, hA'.out, by rw [hst.out, ← List.cons_append]; rw [txt_data] at hown3; exact hown3, hbb.trans hb3⟩, by simp [intOf] <;> omega⟩
          · have HR := Lib.hid (tagL_no (k := k) (ps := l) (fun y => hxs (y.2.2.2 x (List.mem_of_getElem? hx))))
            go_wp2_with fail
            go_ret2
            exact ⟨by rw [HR.out]; rfl, hb⟩
        · obtain rfl : j = l.length := by omega
          rw [List.take_length] at *
          have HR := Lib.hid (tagL_yes hk hn hA.out)
          rw [hkb] at HR
          have hc := hown.text 32 9 5 Tryd.underlying32 Tryd.underlying5 Tryd.underlying9
          clear hA
          go_wp2_with fail
          go_ret2
          exact ⟨by rw [HR.out]; rfl, hb⟩
    · have HR := Lib.hid (tagL_no (k := k) (ps := l) (fun x => hn x.2.2.1))
      go_enter Tryd.func24, Tryd.ntmps24
      go_wp2_with (go_at_call 59; refine (in_yes _ _ _ hk _).mono ?_; rintro e w' ⟨rfl, rfl⟩)
      go_ret2
      exact ⟨by rw [HR.out]; rfl, Below.refl _ _⟩
  · have HR := Lib.hid (tagL_no (k := k) (ps := l) (fun x => hk ⟨x.1, x.2.1⟩))
    have hk' := Lib.hid hk
    clear hk
    go_enter Tryd.func24, Tryd.ntmps24
    go_wp2_with (go_at_call 59; refine (in_no _ _ _ hk'.out _).mono ?_; rintro e w' ⟨rfl, rfl⟩)
    go_ret2
    exact ⟨by rw [HR.out]; rfl, Below.refl _ _⟩

set_option maxHeartbeats 2000000 in
set_option maxRecDepth 100000 in
theorem sTagText_any (k : Int) (ao : Option Addr) (cap : Nat) (l : List ByteArray) (w : World) (hl : l.length ≤ 1048576) (hs : ∀ x ∈ l, x.size ≤ 1048576) (h : RdS w ao l) :
    Calls Tryd.prog 25 #[.int .i64 k, .slice ao l.length cap] w fun e w' => e = .returned (optTxt (tagL k l)) ∧ Below w.heap.size w w' := by
  have H := Lib.hid h
  have HS := Lib.hid hs
  clear h hs
  by_cases hk : 1 ≤ k ∧ k ≤ 8
  · by_cases hn : l.length ≤ 60
    · have hc := built_txt (P := Tryd.prog) Tryd.underlying32 Tryd.underlying5 Tryd.underlying9 w _ _ (kind_cell k hk) 1 1 rfl 5
      go_enter Tryd.func25, Tryd.ntmps25
      go_wp2_with (go_at_call 61; refine (l01In_yes _ _ _ hk _).mono ?_; rintro e w' ⟨rfl, rfl⟩)
      clear hc
      generalize hkb : UInt8.ofNat k.toNat = kb at *
      go_loopw [6, 7] (fun v i wr => ∃ j : Nat, j ≤ l.length ∧ i = .int .i64 j ∧ Hid (∀ y ∈ l.take j, y.size ≤ 200) ∧ v = .string (txt (kb :: tagBody (l.take j))) ∧ Below w.heap.size w wr) (fun _ i _ => l.length - (intOf i).toNat)
      case atStart => exact ⟨0, Nat.zero_le _, rfl, fun y hy => by simp at hy, rfl, (Below.refl _ _).alloc (Nat.le_refl _) _⟩
      case round =>
        obtain ⟨j, hj, rfl, hA, rfl, hb⟩ := hrel
        have hbs := hb.size
        by_cases hlt : j < l.length
        · obtain ⟨x, hx⟩ : ∃ x, l[j]? = some x := ⟨_, List.getElem?_eq_getElem hlt⟩
          obtain ⟨b, o, rfl, hcell⟩ := (H.out.below hb (Nat.le_refl _)) j x hx
          by_cases hxs : x.size ≤ 200
          · have hbl : (tagBody (l.take j)).length ≤ 203 * l.length := by
              have := tagBody_len hA.out
              rw [List.length_take] at this; omega
            have hvx : (txt (varL x.size)).size ≤ 3 := by rw [txt_size]; exact varL_length_le 2 x.size (by omega)
            have hvs : (txt (kb :: tagBody (l.take j))).size ≤ 20000 := by rw [txt_size, List.length_cons]; omega
            have hA' := Lib.hid (all_step hx hA.out hxs)
            have hst := Lib.hid (tagBody_step hx)
            generalize hT : txt (kb :: tagBody (l.take j)) = T at *
            have HT := Lib.hid hT
            clear hA hx hbl hT
            go_wp2_with fail
            have hcr := fun d os => cell_regrown hcell d os
            refine wp_region_quiet_below Tryd.checked.mixed (by kernel_rfl) ?_
            repeat (any_goals (first
              | go_big_quiet_step ((go_at_call 62; exact Calls.regrown_of (l01Var_int _ (by omega) (by omega) _)))
              | quiet_step ((go_at_call 62; exact Calls.regrown_of (l01Var_int _ (by omega) (by omega) _)))))
            refine wpQuiet_nil ?_
            intro w2 hw'
            have hb2 : Below wr.heap.size wr w2 := by obtain ⟨⟨dq, osq⟩, hw''⟩ := hw'; rw [hw'']; exact below_regrown wr dq osq
            have hbb := hb.trans (hb2.mono hbs)
            clear hb2 hw' hcr hvs hvx
            go_wp2_with fail
            refine ⟨⟨j + 1, by omega, by go_num, hA'.out, ?_, hbb⟩, by simp [intOf] <;> omega⟩
            rw [hst.out, ← List.cons_append, ← txt_join2, HT.out, ← txt_join2, txt_toList, ← txt_append_assoc]
          · have HR := Lib.hid (tagL_no (k := k) (ps := l) (fun y => hxs (y.2.2.2 x (List.mem_of_getElem? hx))))
            go_wp2_with fail
            go_ret2
            exact ⟨by rw [HR.out]; rfl, hb⟩
        · obtain rfl : j = l.length := by omega
          rw [List.take_length] at *
          have HR := Lib.hid (tagL_yes hk hn hA.out)
          rw [hkb] at HR
          clear hA
          go_wp2_with fail
          go_ret2
          exact ⟨by rw [HR.out]; rfl, hb⟩
    · have HR := Lib.hid (tagL_no (k := k) (ps := l) (fun x => hn x.2.2.1))
      go_enter Tryd.func25, Tryd.ntmps25
      go_wp2_with (go_at_call 61; refine (l01In_yes _ _ _ hk _).mono ?_; rintro e w' ⟨rfl, rfl⟩)
      go_ret2
      exact ⟨by rw [HR.out]; rfl, Below.refl _ _⟩
  · have HR := Lib.hid (tagL_no (k := k) (ps := l) (fun x => hk ⟨x.1, x.2.1⟩))
    have hk' := Lib.hid hk
    clear hk
    go_enter Tryd.func25, Tryd.ntmps25
    go_wp2_with (go_at_call 61; refine (l01In_no _ _ _ hk'.out _).mono ?_; rintro e w' ⟨rfl, rfl⟩)
    go_ret2
    exact ⟨by rw [HR.out]; rfl, Below.refl _ _⟩

end Go.Proofs.YtcehbmlibfalaaaDoor
