/-
  For every draw of at most 2^20 bytes (a longer one is passed by) a number comes back from its bytes and from its decimal text, and a text from behind its length and from its hexadecimal text: 'FnNumbers' returns true. No conditions.
-/
import Derived.Test.YtnlddjlbioelnaaDoorFrameE
import Derived.Test.YtnlddjlbioelnaaDoorFrameB
import Derived.Test.YtnlddjlbioelnaaDoorRdec1
import Derived.Test.YtnlddjlbioelnaaDoorNumD
import Derived.Test.YtnlddjlbioelnaaDoorPuNum2
import Derived.Test.YtnlddjlbioelnaaDoorHex1
import Derived.Test.YtnlddjlbioelnaaDoorUnhex1
import Derived.Test.YtnlddjlbioelnaaDoorShort1
import Derived.Test.YtnlddjlbioelnaaDoorWords2
namespace Go.Proofs.YtnlddjlbioelnaaDoor.fnNumbers
open Go.ChangeShapes Go.WideShapes Go.ChangeAt Go.RowKit
open Go.ChangeMaps (open_string shut_string)
set_option linter.unusedVariables false

set_option maxHeartbeats 4000000 in
set_option maxRecDepth 100000 in
theorem walk (a0 : Option Addr) (len0 cap0 : Nat) (z0 : List Int) (w : World) (w0 : IsRow .u8 w a0 len0 cap0 z0) (hL : laidMetH Tryd.prog Rows.fnNumbersRow.laid w) :
    Calls Tryd.prog 5 #[.slice a0 len0 cap0] w fun e w' => e = .returned (.bool true) ∧ Below w.heap.size w w' := by
  have HP := Lib.hid (powsMet hL)
  obtain ⟨tp, pv, hE⟩ := errMet hL
  have HE := Lib.hid hE
  obtain ⟨hmax, hB⟩ := bytes_of_row w0
  unfold maxLen at hmax
  clear hL w0 hE
  by_cases hs : len0 ≤ 1048576
  · have C := Lib.hid (drawVarText_any a0 cap0 len0 w hs hB)
    have D := Lib.hid (fun wx (hb : Below w.heap.size w wx) => drawHex_any a0 cap0 len0 wx hs (hB.below hb (Nat.le_refl _)))
    clear hB hmax
    go_enter Tryd.func5, Tryd.ntmps5
    go_wp2_with (go_at_call 10; refine (big_no _ _ _ _ hs).mono ?_; rintro e w' ⟨rfl, rfl⟩)
    refine C.out.mono ?_
    rintro e w1 ⟨⟨x, rfl⟩, hb1⟩
    have HB1 := Lib.hid hb1
    clear hb1 C
    rcases (show (0 ≤ x ∧ x ≤ 1000000000) ∨ x < 0 ∨ (0 ≤ x ∧ 1000000000 < x) by omega) with ⟨hx0, hx1⟩ | hx | ⟨hx0, hx1⟩
    · obtain ⟨n, rfl⟩ := Int.eq_ofNat_of_zero_le hx0
      have hn : n ≤ 1000000000 := by omega
      obtain ⟨vs, ds, hvs, hds, hV, hD, hR, hG⟩ := num_pack (n := n) hn
      have V0 := fun W => iVarText_yes n hn W
      have R0 := fun W => i_rv ((⟨#[120]⟩ : ByteArray) ++ vs ++ (⟨#[121]⟩ : ByteArray)) 1 (by rw [ByteArray.size_append, ByteArray.size_append]; show 1 + vs.size + 1 ≤ 1048576; omega) W
      have D0 := fun W hx => iDecimal_any ((n : Nat) : Int) (by omega) (by omega) W hx
      have G0 := fun W hx hy => iReadDec_any ds W (by omega) hx tp pv hy
      simp only [hV] at V0
      simp only [hR] at R0
      simp only [hD] at D0
      simp only [hG] at G0
      have V1 := Lib.hid V0
      have R1 := Lib.hid R0
      have D1 := Lib.hid D0
      have G1 := Lib.hid G0
      have n1 : ¬ (9223372036854775807 < 1 + vs.size) := by omega
      have n2 : ¬ (9223372036854775807 < 1 + vs.size + 1) := by omega
      have ex : (((vs.size : Int) + 1) == ((vs.size : Int) + 1)) = true := beq_self_eq_true _
      have hwv : IntKind.i64.wrap ((vs.size : Int) + 1) = (vs.size : Int) + 1 := IntWalk.i64_in _ ⟨by omega, by omega⟩
      have en : ((n : Int) == (n : Int)) = true := beq_self_eq_true _
      clear V0 R0 D0 G0 hV hD hR hG hds
      go_wp2_with fail
      refine (V1.out _).mono ?_
      rintro e w2 ⟨rfl, hb2⟩
      have HB2 := Lib.hid (HB1.out.trans (hb2.mono HB1.out.size))
      clear hb2 HB1
      go_wp2_with fail
      refine (R1.out _).mono ?_
      rintro e w3 ⟨rfl, hb3⟩
      have HB3 := Lib.hid (HB2.out.trans (hb3.mono HB2.out.size))
      clear hb3 HB2
      go_wp2_with fail
      refine (D1.out _ (HP.out.below HB3.out)).mono ?_
      rintro e w4 ⟨rfl, hb4⟩
      have HB4 := Lib.hid (HB3.out.trans (hb4.mono HB3.out.size))
      clear hb4 HB3
      go_wp2_with fail
      refine (G1.out _ (HP.out.below HB4.out) (HE.out.below HB4.out)).mono ?_
      rintro e w5 ⟨rfl, hb5⟩
      have HB5 := Lib.hid (HB4.out.trans (hb5.mono HB4.out.size))
      clear hb5 HB4
      go_wp2_with fail
      refine (D.out _ HB5.out).mono ?_
      rintro e w6 ⟨⟨t, ht, rfl⟩, hb6⟩
      have ht' : t.size ≤ 20001 := ht
      have HB6 := Lib.hid (HB5.out.trans (hb6.mono HB5.out.size))
      clear hb6 HB5 ht V1 R1 D1 G1
      by_cases h300 : t.size ≤ 300
      · skip
        obtain ⟨ss, hx, hss, hhs, h1, h2, h3, h4⟩ := text_pack t h300
        have S0 := fun W => iShortText_yes t (by first | omega | decide) W
        have Q0 := fun W => iReadShort_any ss 0 (by omega) W
        have X0 := fun W => iHex_yes t (by first | omega | decide) W
        have U0 := fun W => iUnhex_any hx (by omega) W
        simp only [h1] at S0
        simp only [h3] at Q0
        simp only [h2] at X0
        simp only [h4] at U0
        have S1 := Lib.hid S0
        have Q1 := Lib.hid Q0
        have X1 := Lib.hid X0
        have U1 := Lib.hid U0
        have et : (t.toList == t.toList) = true := beq_self_eq_true _
        have es : ((ss.size : Int) == (ss.size : Int)) = true := beq_self_eq_true _
        clear S0 Q0 X0 U0 h1 h2 h3 h4
        go_wp2_with fail
        refine (S1.out _).mono ?_
        rintro e w7 ⟨rfl, hb7⟩
        have HB7 := Lib.hid (HB6.out.trans (hb7.mono HB6.out.size))
        clear hb7 HB6
        go_wp2_with fail
        refine (Q1.out _).mono ?_
        rintro e w8 ⟨rfl, hb8⟩
        have HB8 := Lib.hid (HB7.out.trans (hb8.mono HB7.out.size))
        clear hb8 HB7
        go_wp2_with fail
        refine (X1.out _).mono ?_
        rintro e w9 ⟨rfl, hb9⟩
        have HB9 := Lib.hid (HB8.out.trans (hb9.mono HB8.out.size))
        clear hb9 HB8
        go_wp2_with fail
        refine (U1.out _).mono ?_
        rintro e w10 ⟨rfl, hb10⟩
        have HB10 := Lib.hid (HB9.out.trans (hb10.mono HB9.out.size))
        clear hb10 HB9
        go_wp2_with fail
        go_ret
        exact ⟨rfl, HB10.out⟩
      · obtain ⟨u, hu⟩ : ∃ u : ByteArray, u = ⟨#[97, 98, 99]⟩ := ⟨_, rfl⟩
        have h300' : u.size ≤ 300 := by rw [hu]; decide
        subst hu
        obtain ⟨ss, hx, hss, hhs, h1, h2, h3, h4⟩ := text_pack (⟨#[97, 98, 99]⟩ : ByteArray) h300'
        have S0 := fun W => iShortText_yes (⟨#[97, 98, 99]⟩ : ByteArray) (by first | omega | decide) W
        have Q0 := fun W => iReadShort_any ss 0 (by omega) W
        have X0 := fun W => iHex_yes (⟨#[97, 98, 99]⟩ : ByteArray) (by first | omega | decide) W
        have U0 := fun W => iUnhex_any hx (by omega) W
        simp only [h1] at S0
        simp only [h3] at Q0
        simp only [h2] at X0
        simp only [h4] at U0
        have S1 := Lib.hid S0
        have Q1 := Lib.hid Q0
        have X1 := Lib.hid X0
        have U1 := Lib.hid U0
        have et : ((⟨#[97, 98, 99]⟩ : ByteArray).toList == (⟨#[97, 98, 99]⟩ : ByteArray).toList) = true := beq_self_eq_true _
        have es : ((ss.size : Int) == (ss.size : Int)) = true := beq_self_eq_true _
        clear S0 Q0 X0 U0 h1 h2 h3 h4
        go_wp2_with fail
        refine (S1.out _).mono ?_
        rintro e w7 ⟨rfl, hb7⟩
        have HB7 := Lib.hid (HB6.out.trans (hb7.mono HB6.out.size))
        clear hb7 HB6
        go_wp2_with fail
        refine (Q1.out _).mono ?_
        rintro e w8 ⟨rfl, hb8⟩
        have HB8 := Lib.hid (HB7.out.trans (hb8.mono HB7.out.size))
        clear hb8 HB7
        go_wp2_with fail
        refine (X1.out _).mono ?_
        rintro e w9 ⟨rfl, hb9⟩
        have HB9 := Lib.hid (HB8.out.trans (hb9.mono HB8.out.size))
        clear hb9 HB8
        go_wp2_with fail
        refine (U1.out _).mono ?_
        rintro e w10 ⟨rfl, hb10⟩
        have HB10 := Lib.hid (HB9.out.trans (hb10.mono HB9.out.size))
        clear hb10 HB9
        go_wp2_with fail
        go_ret
        exact ⟨rfl, HB10.out⟩
    · have hn : 12345 ≤ 1000000000 := by decide
      obtain ⟨vs, ds, hvs, hds, hV, hD, hR, hG⟩ := num_pack (n := 12345) hn
      have V0 := fun W => iVarText_yes 12345 hn W
      have R0 := fun W => i_rv ((⟨#[120]⟩ : ByteArray) ++ vs ++ (⟨#[121]⟩ : ByteArray)) 1 (by rw [ByteArray.size_append, ByteArray.size_append]; show 1 + vs.size + 1 ≤ 1048576; omega) W
      have D0 := fun W hx => iDecimal_any ((12345 : Nat) : Int) (by omega) (by omega) W hx
      have G0 := fun W hx hy => iReadDec_any ds W (by omega) hx tp pv hy
      simp only [hV] at V0
      simp only [hR] at R0
      simp only [hD] at D0
      simp only [hG] at G0
      have hc : ((12345 : Nat) : Int) = 12345 := rfl
      simp only [hc] at V0 R0 D0 G0
      have V1 := Lib.hid V0
      have R1 := Lib.hid R0
      have D1 := Lib.hid D0
      have G1 := Lib.hid G0
      have n1 : ¬ (9223372036854775807 < 1 + vs.size) := by omega
      have n2 : ¬ (9223372036854775807 < 1 + vs.size + 1) := by omega
      have ex : (((vs.size : Int) + 1) == ((vs.size : Int) + 1)) = true := beq_self_eq_true _
      have hwv : IntKind.i64.wrap ((vs.size : Int) + 1) = (vs.size : Int) + 1 := IntWalk.i64_in _ ⟨by omega, by omega⟩
      clear V0 R0 D0 G0 hV hD hR hG hds
      go_wp2_with fail
      refine (V1.out _).mono ?_
      rintro e w2 ⟨rfl, hb2⟩
      have HB2 := Lib.hid (HB1.out.trans (hb2.mono HB1.out.size))
      clear hb2 HB1
      go_wp2_with fail
      refine (R1.out _).mono ?_
      rintro e w3 ⟨rfl, hb3⟩
      have HB3 := Lib.hid (HB2.out.trans (hb3.mono HB2.out.size))
      clear hb3 HB2
      go_wp2_with fail
      refine (D1.out _ (HP.out.below HB3.out)).mono ?_
      rintro e w4 ⟨rfl, hb4⟩
      have HB4 := Lib.hid (HB3.out.trans (hb4.mono HB3.out.size))
      clear hb4 HB3
      go_wp2_with fail
      refine (G1.out _ (HP.out.below HB4.out) (HE.out.below HB4.out)).mono ?_
      rintro e w5 ⟨rfl, hb5⟩
      have HB5 := Lib.hid (HB4.out.trans (hb5.mono HB4.out.size))
      clear hb5 HB4
      go_wp2_with fail
      refine (D.out _ HB5.out).mono ?_
      rintro e w6 ⟨⟨t, ht, rfl⟩, hb6⟩
      have ht' : t.size ≤ 20001 := ht
      have HB6 := Lib.hid (HB5.out.trans (hb6.mono HB5.out.size))
      clear hb6 HB5 ht V1 R1 D1 G1
      by_cases h300 : t.size ≤ 300
      · skip
        obtain ⟨ss, hx, hss, hhs, h1, h2, h3, h4⟩ := text_pack t h300
        have S0 := fun W => iShortText_yes t (by first | omega | decide) W
        have Q0 := fun W => iReadShort_any ss 0 (by omega) W
        have X0 := fun W => iHex_yes t (by first | omega | decide) W
        have U0 := fun W => iUnhex_any hx (by omega) W
        simp only [h1] at S0
        simp only [h3] at Q0
        simp only [h2] at X0
        simp only [h4] at U0
        have S1 := Lib.hid S0
        have Q1 := Lib.hid Q0
        have X1 := Lib.hid X0
        have U1 := Lib.hid U0
        have et : (t.toList == t.toList) = true := beq_self_eq_true _
        have es : ((ss.size : Int) == (ss.size : Int)) = true := beq_self_eq_true _
        clear S0 Q0 X0 U0 h1 h2 h3 h4
        go_wp2_with fail
        refine (S1.out _).mono ?_
        rintro e w7 ⟨rfl, hb7⟩
        have HB7 := Lib.hid (HB6.out.trans (hb7.mono HB6.out.size))
        clear hb7 HB6
        go_wp2_with fail
        refine (Q1.out _).mono ?_
        rintro e w8 ⟨rfl, hb8⟩
        have HB8 := Lib.hid (HB7.out.trans (hb8.mono HB7.out.size))
        clear hb8 HB7
        go_wp2_with fail
        refine (X1.out _).mono ?_
        rintro e w9 ⟨rfl, hb9⟩
        have HB9 := Lib.hid (HB8.out.trans (hb9.mono HB8.out.size))
        clear hb9 HB8
        go_wp2_with fail
        refine (U1.out _).mono ?_
        rintro e w10 ⟨rfl, hb10⟩
        have HB10 := Lib.hid (HB9.out.trans (hb10.mono HB9.out.size))
        clear hb10 HB9
        go_wp2_with fail
        go_ret
        exact ⟨rfl, HB10.out⟩
      · obtain ⟨u, hu⟩ : ∃ u : ByteArray, u = ⟨#[97, 98, 99]⟩ := ⟨_, rfl⟩
        have h300' : u.size ≤ 300 := by rw [hu]; decide
        subst hu
        obtain ⟨ss, hx, hss, hhs, h1, h2, h3, h4⟩ := text_pack (⟨#[97, 98, 99]⟩ : ByteArray) h300'
        have S0 := fun W => iShortText_yes (⟨#[97, 98, 99]⟩ : ByteArray) (by first | omega | decide) W
        have Q0 := fun W => iReadShort_any ss 0 (by omega) W
        have X0 := fun W => iHex_yes (⟨#[97, 98, 99]⟩ : ByteArray) (by first | omega | decide) W
        have U0 := fun W => iUnhex_any hx (by omega) W
        simp only [h1] at S0
        simp only [h3] at Q0
        simp only [h2] at X0
        simp only [h4] at U0
        have S1 := Lib.hid S0
        have Q1 := Lib.hid Q0
        have X1 := Lib.hid X0
        have U1 := Lib.hid U0
        have et : ((⟨#[97, 98, 99]⟩ : ByteArray).toList == (⟨#[97, 98, 99]⟩ : ByteArray).toList) = true := beq_self_eq_true _
        have es : ((ss.size : Int) == (ss.size : Int)) = true := beq_self_eq_true _
        clear S0 Q0 X0 U0 h1 h2 h3 h4
        go_wp2_with fail
        refine (S1.out _).mono ?_
        rintro e w7 ⟨rfl, hb7⟩
        have HB7 := Lib.hid (HB6.out.trans (hb7.mono HB6.out.size))
        clear hb7 HB6
        go_wp2_with fail
        refine (Q1.out _).mono ?_
        rintro e w8 ⟨rfl, hb8⟩
        have HB8 := Lib.hid (HB7.out.trans (hb8.mono HB7.out.size))
        clear hb8 HB7
        go_wp2_with fail
        refine (X1.out _).mono ?_
        rintro e w9 ⟨rfl, hb9⟩
        have HB9 := Lib.hid (HB8.out.trans (hb9.mono HB8.out.size))
        clear hb9 HB8
        go_wp2_with fail
        refine (U1.out _).mono ?_
        rintro e w10 ⟨rfl, hb10⟩
        have HB10 := Lib.hid (HB9.out.trans (hb10.mono HB9.out.size))
        clear hb10 HB9
        go_wp2_with fail
        go_ret
        exact ⟨rfl, HB10.out⟩
    · have hn : 12345 ≤ 1000000000 := by decide
      obtain ⟨vs, ds, hvs, hds, hV, hD, hR, hG⟩ := num_pack (n := 12345) hn
      have V0 := fun W => iVarText_yes 12345 hn W
      have R0 := fun W => i_rv ((⟨#[120]⟩ : ByteArray) ++ vs ++ (⟨#[121]⟩ : ByteArray)) 1 (by rw [ByteArray.size_append, ByteArray.size_append]; show 1 + vs.size + 1 ≤ 1048576; omega) W
      have D0 := fun W hx => iDecimal_any ((12345 : Nat) : Int) (by omega) (by omega) W hx
      have G0 := fun W hx hy => iReadDec_any ds W (by omega) hx tp pv hy
      simp only [hV] at V0
      simp only [hR] at R0
      simp only [hD] at D0
      simp only [hG] at G0
      have hc : ((12345 : Nat) : Int) = 12345 := rfl
      simp only [hc] at V0 R0 D0 G0
      have V1 := Lib.hid V0
      have R1 := Lib.hid R0
      have D1 := Lib.hid D0
      have G1 := Lib.hid G0
      have n1 : ¬ (9223372036854775807 < 1 + vs.size) := by omega
      have n2 : ¬ (9223372036854775807 < 1 + vs.size + 1) := by omega
      have ex : (((vs.size : Int) + 1) == ((vs.size : Int) + 1)) = true := beq_self_eq_true _
      have hwv : IntKind.i64.wrap ((vs.size : Int) + 1) = (vs.size : Int) + 1 := IntWalk.i64_in _ ⟨by omega, by omega⟩
      clear V0 R0 D0 G0 hV hD hR hG hds
      go_wp2_with fail
      refine (V1.out _).mono ?_
      rintro e w2 ⟨rfl, hb2⟩
      have HB2 := Lib.hid (HB1.out.trans (hb2.mono HB1.out.size))
      clear hb2 HB1
      go_wp2_with fail
      refine (R1.out _).mono ?_
      rintro e w3 ⟨rfl, hb3⟩
      have HB3 := Lib.hid (HB2.out.trans (hb3.mono HB2.out.size))
      clear hb3 HB2
      go_wp2_with fail
      refine (D1.out _ (HP.out.below HB3.out)).mono ?_
      rintro e w4 ⟨rfl, hb4⟩
      have HB4 := Lib.hid (HB3.out.trans (hb4.mono HB3.out.size))
      clear hb4 HB3
      go_wp2_with fail
      refine (G1.out _ (HP.out.below HB4.out) (HE.out.below HB4.out)).mono ?_
      rintro e w5 ⟨rfl, hb5⟩
      have HB5 := Lib.hid (HB4.out.trans (hb5.mono HB4.out.size))
      clear hb5 HB4
      go_wp2_with fail
      refine (D.out _ HB5.out).mono ?_
      rintro e w6 ⟨⟨t, ht, rfl⟩, hb6⟩
      have ht' : t.size ≤ 20001 := ht
      have HB6 := Lib.hid (HB5.out.trans (hb6.mono HB5.out.size))
      clear hb6 HB5 ht V1 R1 D1 G1
      by_cases h300 : t.size ≤ 300
      · skip
        obtain ⟨ss, hx, hss, hhs, h1, h2, h3, h4⟩ := text_pack t h300
        have S0 := fun W => iShortText_yes t (by first | omega | decide) W
        have Q0 := fun W => iReadShort_any ss 0 (by omega) W
        have X0 := fun W => iHex_yes t (by first | omega | decide) W
        have U0 := fun W => iUnhex_any hx (by omega) W
        simp only [h1] at S0
        simp only [h3] at Q0
        simp only [h2] at X0
        simp only [h4] at U0
        have S1 := Lib.hid S0
        have Q1 := Lib.hid Q0
        have X1 := Lib.hid X0
        have U1 := Lib.hid U0
        have et : (t.toList == t.toList) = true := beq_self_eq_true _
        have es : ((ss.size : Int) == (ss.size : Int)) = true := beq_self_eq_true _
        clear S0 Q0 X0 U0 h1 h2 h3 h4
        go_wp2_with fail
        refine (S1.out _).mono ?_
        rintro e w7 ⟨rfl, hb7⟩
        have HB7 := Lib.hid (HB6.out.trans (hb7.mono HB6.out.size))
        clear hb7 HB6
        go_wp2_with fail
        refine (Q1.out _).mono ?_
        rintro e w8 ⟨rfl, hb8⟩
        have HB8 := Lib.hid (HB7.out.trans (hb8.mono HB7.out.size))
        clear hb8 HB7
        go_wp2_with fail
        refine (X1.out _).mono ?_
        rintro e w9 ⟨rfl, hb9⟩
        have HB9 := Lib.hid (HB8.out.trans (hb9.mono HB8.out.size))
        clear hb9 HB8
        go_wp2_with fail
        refine (U1.out _).mono ?_
        rintro e w10 ⟨rfl, hb10⟩
        have HB10 := Lib.hid (HB9.out.trans (hb10.mono HB9.out.size))
        clear hb10 HB9
        go_wp2_with fail
        go_ret
        exact ⟨rfl, HB10.out⟩
      · obtain ⟨u, hu⟩ : ∃ u : ByteArray, u = ⟨#[97, 98, 99]⟩ := ⟨_, rfl⟩
        have h300' : u.size ≤ 300 := by rw [hu]; decide
        subst hu
        obtain ⟨ss, hx, hss, hhs, h1, h2, h3, h4⟩ := text_pack (⟨#[97, 98, 99]⟩ : ByteArray) h300'
        have S0 := fun W => iShortText_yes (⟨#[97, 98, 99]⟩ : ByteArray) (by first | omega | decide) W
        have Q0 := fun W => iReadShort_any ss 0 (by omega) W
        have X0 := fun W => iHex_yes (⟨#[97, 98, 99]⟩ : ByteArray) (by first | omega | decide) W
        have U0 := fun W => iUnhex_any hx (by omega) W
        simp only [h1] at S0
        simp only [h3] at Q0
        simp only [h2] at X0
        simp only [h4] at U0
        have S1 := Lib.hid S0
        have Q1 := Lib.hid Q0
        have X1 := Lib.hid X0
        have U1 := Lib.hid U0
        have et : ((⟨#[97, 98, 99]⟩ : ByteArray).toList == (⟨#[97, 98, 99]⟩ : ByteArray).toList) = true := beq_self_eq_true _
        have es : ((ss.size : Int) == (ss.size : Int)) = true := beq_self_eq_true _
        clear S0 Q0 X0 U0 h1 h2 h3 h4
        go_wp2_with fail
        refine (S1.out _).mono ?_
        rintro e w7 ⟨rfl, hb7⟩
        have HB7 := Lib.hid (HB6.out.trans (hb7.mono HB6.out.size))
        clear hb7 HB6
        go_wp2_with fail
        refine (Q1.out _).mono ?_
        rintro e w8 ⟨rfl, hb8⟩
        have HB8 := Lib.hid (HB7.out.trans (hb8.mono HB7.out.size))
        clear hb8 HB7
        go_wp2_with fail
        refine (X1.out _).mono ?_
        rintro e w9 ⟨rfl, hb9⟩
        have HB9 := Lib.hid (HB8.out.trans (hb9.mono HB8.out.size))
        clear hb9 HB8
        go_wp2_with fail
        refine (U1.out _).mono ?_
        rintro e w10 ⟨rfl, hb10⟩
        have HB10 := Lib.hid (HB9.out.trans (hb10.mono HB9.out.size))
        clear hb10 HB9
        go_wp2_with fail
        go_ret
        exact ⟨rfl, HB10.out⟩
  · clear hB
    go_enter Tryd.func5, Tryd.ntmps5
    go_wp2_with (go_at_call 10; refine (big_yes _ _ _ _ (by omega) (by omega)).mono ?_; rintro e w' ⟨rfl, rfl⟩)
    go_ret
    exact ⟨rfl, Below.refl _ _⟩

theorem own : ownKnob Tryd.prog.godebug = none := by kernel_rfl
theorem laidOut : laidOutB Tryd.prog = true := by kernel_rfl
theorem fine : fineVars Tryd.prog Rows.fnNumbersSpec.vars = true := by kernel_rfl

theorem contract (H : Type) (enc : TypeId × Value → H) (W : World) (base : Nat) (args : Array Value) (ds gs : List (DataW H)) (before : List MemPlace)
    (hval0 : ∀ (j : Nat) t v, Tryd.f5.params[j]? = some t → args[j]? = some v → Value.okWide Tryd.prog W .any base t v)
    (hW : DataW.Whole enc Tryd.prog Tryd.f5.params.toList Rows.fnNumbersSpec.vars false W args.toList ds gs before) (hL : laidMetH Tryd.prog Rows.fnNumbersRow.laid W) :
    Calls Tryd.prog 5 args W fun e W' => ∃ v, e = .returned v ∧ Rows.fnNumbersSpec.post enc Tryd.prog Tryd.f5 false true false false W args v W' := by
  have hval : ∀ (j : Nat) t v, Tryd.f5.params[j]? = some t → args[j]? = some v → Value.okWide Tryd.prog W .any base t v := hval0
  have hW' := hW
  obtain ⟨p, q, hA0, hV, rfl, hfz, hnd⟩ := hW
  have hA : DataW.TrodAll enc Tryd.prog W 0 (fun _ => true) true Tryd.f5.params.toList args.toList ds p := hA0
  rw [Tryd.params5] at hA hval
  obtain ⟨v0, vs0, d0, ds0, p0, q0, hargs, rfl, rfl, h0, r0⟩ := trodAll_cons hA
  obtain ⟨rfl, rfl, rfl⟩ := trodAll_nil r0
  obtain rfl : args = #[v0] := by cases args; simp_all
  have hVlt : ∀ x ∈ q, x.block < W.heap.size := hV.lt
  have hV1 := hV
  obtain ⟨rfl, -⟩ := trodVars_none hV1
  have k0 := h0
  have lt0 : ∀ x ∈ p0, x.block < W.heap.size := by obtain ⟨m, hm⟩ := k0; exact DataW.trod_lt m _ _ _ hm
  obtain ⟨a0, len0, cap0, rfl⟩ := okWide_slice Tryd.underlying27 (hval 0 27 v0 rfl rfl)
  obtain ⟨z0, w0⟩ := isRow_of Tryd.underlying27 Tryd.underlying5 (by kernel_rfl) h0
  clear hA0 hval0
  refine (walk a0 len0 cap0 z0 W w0 hL).mono fun e W' ⟨he, bel⟩ => ?_
  subst he
  exact ⟨_, rfl, _, _, _, [], _, q, hW', trodAll_mk1 (shut_bool Tryd.underlying4 _), (trodAll_cons_mk (Below.trod laidOut (by kernel_rfl) (of_decide_eq_true (by kernel_rfl)) k0 bel lt0) trodAll_mk0), trodVars_stays laidOut bel fine hV hVlt, bel.frame _, fun h => by cases h⟩

noncomputable def low : Nat := (World.holding Tryd.prog default ⟨#[], #[], []⟩).heap.size
noncomputable def laidWorld (os : Os) : World :=
  { World.holding Tryd.prog os ⟨#[.cells #[.string ⟨#[118, 97, 108, 117, 101, 32, 111, 117, 116, 32, 111, 102, 32, 114, 97, 110, 103, 101]⟩] 87, .cells #[.string ⟨#[105, 110, 118, 97, 108, 105, 100, 32, 115, 121, 110, 116, 97, 120]⟩] 87], #[], []⟩ with heap := ((((((World.holding Tryd.prog os ⟨#[.cells #[.string ⟨#[118, 97, 108, 117, 101, 32, 111, 117, 116, 32, 111, 102, 32, 114, 97, 110, 103, 101]⟩] 87, .cells #[.string ⟨#[105, 110, 118, 97, 108, 105, 100, 32, 115, 121, 110, 116, 97, 120]⟩] 87], #[], []⟩).heap.modify 1 fun
      | .cells _ t frozen => .cells #[.iface 85 (.pointer (some ⟨low + 0, 0, none⟩))] t frozen
      | o => o).modify 0 fun
      | .cells _ t frozen => .cells #[.iface 85 (.pointer (some ⟨low + 1, 0, none⟩))] t frozen
      | o => o).modify 3 fun
      | .cells _ t frozen => .cells #[.int .u8 0, .int .u8 1, .int .u8 28, .int .u8 2, .int .u8 29, .int .u8 14, .int .u8 24, .int .u8 3, .int .u8 30, .int .u8 22, .int .u8 20, .int .u8 15, .int .u8 25, .int .u8 17, .int .u8 4, .int .u8 8, .int .u8 31, .int .u8 27, .int .u8 13, .int .u8 23, .int .u8 21, .int .u8 19, .int .u8 16, .int .u8 7, .int .u8 26, .int .u8 12, .int .u8 18, .int .u8 6, .int .u8 11, .int .u8 5, .int .u8 10, .int .u8 9] t frozen
      | o => o).modify 4 fun
      | .cells _ t frozen => .cells #[.int .u8 0, .int .u8 1, .int .u8 56, .int .u8 2, .int .u8 57, .int .u8 49, .int .u8 28, .int .u8 3, .int .u8 61, .int .u8 58, .int .u8 42, .int .u8 50, .int .u8 38, .int .u8 29, .int .u8 17, .int .u8 4, .int .u8 62, .int .u8 47, .int .u8 59, .int .u8 36, .int .u8 45, .int .u8 43, .int .u8 51, .int .u8 22, .int .u8 53, .int .u8 39, .int .u8 33, .int .u8 30, .int .u8 24, .int .u8 18, .int .u8 12, .int .u8 5, .int .u8 63, .int .u8 55, .int .u8 48, .int .u8 27, .int .u8 60, .int .u8 41, .int .u8 37, .int .u8 16, .int .u8 46, .int .u8 35, .int .u8 44, .int .u8 21, .int .u8 52, .int .u8 32, .int .u8 23, .int .u8 11, .int .u8 54, .int .u8 26, .int .u8 40, .int .u8 15, .int .u8 34, .int .u8 20, .int .u8 31, .int .u8 10, .int .u8 25, .int .u8 14, .int .u8 19, .int .u8 9, .int .u8 13, .int .u8 8, .int .u8 7, .int .u8 6] t frozen
      | o => o).modify 2 fun
      | .cells _ t frozen => .cells #[.int .u64 1, .int .u64 10, .int .u64 100, .int .u64 1000, .int .u64 10000, .int .u64 100000, .int .u64 1000000, .int .u64 10000000, .int .u64 100000000, .int .u64 1000000000, .int .u64 10000000000, .int .u64 100000000000, .int .u64 1000000000000, .int .u64 10000000000000, .int .u64 100000000000000, .int .u64 1000000000000000, .int .u64 10000000000000000, .int .u64 100000000000000000, .int .u64 1000000000000000000, .int .u64 10000000000000000000] t frozen
      | o => o) }
theorem laid_met (os : Os) : laidMet Tryd.prog Rows.fnNumbersRow.laid ((laidWorld os).forCall (fun _ _ => 0) ⟨#[], #[.slice none 0 0], []⟩).memory :=
  laidMet_of_run' 8 (by kernel_rfl) (by kernel_rfl)
set_option maxRecDepth 100000 in
theorem reads (os : Os) {H : Type} (enc : TypeId × Value → H) : ∃ places, DataW.whole enc Tryd.prog ((laidWorld os).forCall (fun _ _ => 0) ⟨#[], #[.slice none 0 0], []⟩).memory Tryd.f5.params.toList Rows.fnNumbersSpec.vars false (#[.slice none 0 0] : Array Value).toList 8 = some ([.nil], [], places) :=
  ⟨[], by kernel_rfl⟩

set_option maxRecDepth 100000 in
theorem lifted (os : Os) (started : os.Started) (H : Type) (enc : TypeId × Value → H) (F : Stop.Interp) :
    ReturnsInHanded {} Tryd.checked os 5 .any ((OpenSpec.ofChange Rows.fnNumbersSpec).preRow enc Tryd.prog Tryd.f5 Rows.fnNumbersRow.domain false Rows.fnNumbersRow.laid) (((OpenSpec.ofChange Rows.fnNumbersSpec).at F).post enc Tryd.prog Tryd.f5 false true false false) := by
  obtain ⟨places, hx⟩ := reads os enc
  refine returnsInHanded_of_row (C := Tryd.checked) (s := OpenSpec.ofChange Rows.fnNumbersSpec) own started (by kernel_rfl) Tryd.func5
    (witness_row_at (enc := enc) (C := Tryd.checked) false (laidWorld os) #[.slice none 0 0] rfl (by kernel_rfl) (by kernel_rfl) (by kernel_rfl)
      (OpenSpec.preRow_of_cond 8 hx (by kernel_rfl) (fun k hk => by cases hk) (by kernel_rfl) (laid_met os))) ?_
  intro W base args ds gs before hval hW _ _ _ hL _ _
  exact contract H enc W base args ds gs before hval hW hL

theorem said : Rows.FnNumbersSaid :=
  OpenClaim.holds_of_cond 5 Tryd.f5 rfl rfl rfl rfl rfl rfl rfl ⟨rfl, rfl, rfl, rfl, rfl⟩ rfl rfl rfl rfl rfl (by kernel_rfl) Tryd.func5 (by kernel_rfl)
    (of_decide_eq_true (by kernel_rfl)) (by unfold Func.isWrapper; first | (rw [if_pos (by decide +kernel)]; kernel_rfl) | (rw [if_neg (by decide +kernel)]; exact ⟨rfl, rfl⟩))
    (fun os started H enc _ F => by rw [OpenClaim.pre_eq_preRow]; exact lifted os started H enc F)

theorem plain (f : FuncId) (fn : Func) (hf : Tryd.pinned.checked.prog.funcNamed "loop.example/g00284/laws.FnNumbers" = some f) (hfn : Tryd.pinned.checked.prog.funcs[f]? = some fn) :
    true = Tryd.pinned.checked.prog.looks [] ∧ ∀ (j : Nat) t, fn.params[j]? = some t → Tryd.pinned.checked.prog.wantsStandIn t = false := by
  obtain rfl : f = 5 := Option.some.inj ((show Tryd.prog.funcNamed "loop.example/g00284/laws.FnNumbers" = some 5 by kernel_rfl).symm.trans hf) |>.symm
  obtain rfl : fn = Tryd.f5 := (Option.some.inj (Tryd.func5.symm.trans hfn)).symm
  refine ⟨by kernel_rfl, fun j t ht => ?_⟩
  rw [Tryd.params5] at ht
  obtain rfl : t = 27 := by simpa using Array.mem_of_getElem? ht
  all_goals first | exact (show Tryd.prog.wantsStandIn 27 = false by kernel_rfl)

/-- The statement: the card. -/
theorem proved : Rows.FnNumbersCardSaid :=
  Claim7.holds_tied_plain_at .later [] _ _ _ _ said (fun _ h => by cases h) (by kernel_rfl) (fun _ h => by cases h) fnNumbers_row_tie rfl ⟨rfl, rfl⟩ (by kernel_rfl) rfl plain (by kernel_rfl)
#print axioms proved

end Go.Proofs.YtnlddjlbioelnaaDoor.fnNumbers
