/-
  The walks of ReadDecimal, on both sides.
-/
import Derived.Test.YtnlddjlbioelnaaDoorDec2
import Derived.Test.YtnlddjlbioelnaaDoorPuReadD
import Derived.Test.YtnlddjlbioelnaaDoorBits
import Derived.Test.YtnlddjlbioelnaaDoorQuiet
import Derived.Lib.AtoiBound
namespace Go.Proofs.YtnlddjlbioelnaaDoor
open Go.RowKit Go.Sort

theorem same_txt {l : List UInt8} {s : ByteArray} (h : l = s.data.toList) : ((txt l).toList == s.toList) = true ∧ ((txt l).toList != s.toList) = false := by
  have e : (txt l).toList = s.toList := by rw [ByteArray.toList_eq, txt_data, ByteArray.toList_eq, h]
  rw [e]; exact ⟨beq_self_eq_true _, by simp⟩
theorem other_txt {l : List UInt8} {s : ByteArray} (h : l ≠ s.data.toList) : ((txt l).toList == s.toList) = false ∧ ((txt l).toList != s.toList) = true := by
  have e : (txt l).toList ≠ s.toList := by rw [ByteArray.toList_eq, txt_data, ByteArray.toList_eq]; exact h
  exact ⟨by rw [beq_eq_false_iff_ne]; exact e, by rw [bne_iff_ne]; exact e⟩

set_option maxHeartbeats 1000000 in
theorem sReadDec_any (s : ByteArray) (w : World) (hs : s.size ≤ 9223372036854775807) :
    Calls Tryd.prog 8 #[.string s] w fun e w' => e = .returned (rdV (readDec s.data.toList)) ∧ Below w.heap.size w w' := by
  have hl : s.data.toList.length = s.size := by rw [Array.length_toList]; rfl
  by_cases h10 : s.size ≤ 10
  · go_enter Tryd.func8, Tryd.ntmps8
    go_wp2_with fail
    go_loop [4, 5] (fun n i => ∃ (k v : Nat), k ≤ s.size ∧ i = .int .i64 k ∧ n = .int .i64 v ∧ v < 10000000000 ∧ Hid (Lib.decFrom 0 (s.data.toList.take k) = some v)) (fun _ i => s.size - (intOf i).toNat)
    case atStart => exact ⟨0, 0, Nat.zero_le _, rfl, rfl, by omega, rfl⟩
    case round =>
      obtain ⟨k, v, hk, rfl, rfl, hv, HV⟩ := hrel
      by_cases hlt : k < s.size
      · by_cases hd : 48 ≤ (s[k]).toNat ∧ (s[k]).toNat ≤ 57
        · have HN := Lib.hid (decFrom_next hlt HV.out hd)
          have HS := Lib.hid (decFrom_small (show k + 1 ≤ 10 by omega) HN.out)
          obtain ⟨hd0, hd1⟩ := hd
          have hb0 : ¬ ((s[k]).toNat : Int) < 48 := by omega
          have hb1 : ¬ (57 < ((s[k]).toNat : Int)) := by omega
          go_wp2_with fail
          go_round
          case rel => exact ⟨k + 1, 10 * v + ((s[k]).toNat - 48), by omega, by go_num, by congr 1; push_cast; omega, HS.out, HN⟩
          case measure => simp [intOf]; omega
        · have HE := Lib.hid (decFrom_bad hlt hd)
          rcases (show (s[k]).toNat < 48 ∨ 57 < (s[k]).toNat by omega) with hc | hc
          · have hb0 : ((s[k]).toNat : Int) < 48 := by omega
            clear hd
            go_wp2_with fail
            go_ret2
            exact ⟨by rw [HE.out]; rfl, Below.refl _ _⟩
          · have hb0 : ¬ ((s[k]).toNat : Int) < 48 := by omega
            have hb1 : (57 < ((s[k]).toNat : Int)) := by omega
            clear hd
            go_wp2_with fail
            go_ret2
            exact ⟨by rw [HE.out]; rfl, Below.refl _ _⟩
      · obtain rfl : k = s.size := by omega
        have hV := HV.out
        rw [List.take_of_length_le (by omega)] at hV
        have HV2 := Lib.hid hV
        clear hV
        have C := Lib.hid (sDecimal_any (v : Int) (by omega) (by omega) w)
        have HI := Lib.hid (itoa_nat v)
        by_cases hm : v ≤ 1000000000
        · have hb : ¬ (1000000000 < (v : Int)) := by omega
          by_cases he : Lib.decDigits v = s.data.toList
          · have HE := Lib.hid (readDec_yes HV2.out hm he)
            obtain ⟨e1, e2⟩ := same_txt (show Lib.itoa (v : Int) = s.data.toList by rw [itoa_nat]; exact he)
            generalize txt (Lib.itoa (v : Int)) = t at *
            clear he HI
            go_wp2_with fail
            refine C.out.mono ?_
            rintro e w1 ⟨rfl, hb1⟩
            go_wp2_with fail
            go_ret2
            exact ⟨by rw [HE.out]; rfl, hb1⟩
          · have HE := Lib.hid (readDec_no HV2.out (fun h2 => he h2.2))
            obtain ⟨e1, e2⟩ := other_txt (show Lib.itoa (v : Int) ≠ s.data.toList by rw [itoa_nat]; exact he)
            generalize txt (Lib.itoa (v : Int)) = t at *
            clear he HI
            go_wp2_with fail
            refine C.out.mono ?_
            rintro e w1 ⟨rfl, hb1⟩
            go_wp2_with fail
            go_ret2
            exact ⟨by rw [HE.out]; rfl, hb1⟩
        · have hb : 1000000000 < (v : Int) := by omega
          have HE := Lib.hid (readDec_no HV2.out (fun h2 => hm h2.1))
          go_wp2_with fail
          go_ret2
          exact ⟨by rw [HE.out]; rfl, Below.refl _ _⟩
  · have HE := Lib.hid (readDec_long (l := s.data.toList) (by omega))
    rw [HE.out]
    go_enter Tryd.func8, Tryd.ntmps8
    go_wp2_with fail
    go_ret2
    exact ⟨rfl, Below.refl _ _⟩

/-- strconv's error for what is no number, at every world behind. -/
def ErrS (tp : TypeId) (p : Value) (w : World) : Prop := ∀ w', Below w.heap.size w w' → w'.var? Tryd.prog "strconv.ErrSyntax" = some #[.iface tp p]
theorem ErrS.below {tp : TypeId} {p : Value} {w w' : World} (h : ErrS tp p w) (hb : Below w.heap.size w w') : ErrS tp p w' :=
  fun w2 hb2 => h w2 (hb.trans (hb2.mono hb.size))
theorem ErrS.here {tp : TypeId} {p : Value} {w : World} (h : ErrS tp p w) : w.var? Tryd.prog "strconv.ErrSyntax" = some #[.iface tp p] := h w (Below.refl _ _)

set_option maxHeartbeats 1000000 in
theorem iReadDec_any (s : ByteArray) (w : World) (hs : s.size ≤ 9223372036854775807) (hP : Pows w) (tp : TypeId) (p : Value) (hE : ErrS tp p w) :
    Calls Tryd.prog 9 #[.string s] w fun e w' => e = .returned (rdV (readDec s.data.toList)) ∧ Below w.heap.size w w' := by
  have hl : s.data.toList.length = s.size := by rw [Array.length_toList]; rfl
  have CI := Lib.hid (fun wx => in_any s.size 1 10 wx)
  by_cases h10 : 1 ≤ s.size ∧ s.size ≤ 10
  · have CI2 := CI.out
    rw [within_yes (by omega)] at CI2
    have CI3 := Lib.hid CI2
    clear CI CI2
    cases ha : Lib.atoi s.data.toList with
    | none =>
      have CA := Lib.hid (Tryd.strconv_Atoi_err_var s (by omega) ha tp p w hE.here)
      have HE := Lib.hid (readDec_lib_none ha)
      rw [HE.out]
      clear ha hE hP HE
      go_enter Tryd.func9, Tryd.ntmps9
      go_wp2_with fail
      refine (CI3.out _).mono ?_
      rintro e w1 ⟨rfl, rfl⟩
      go_wp2_with fail
      refine CA.out.mono ?_
      rintro e w1 ⟨N, rfl, -, -, hb1⟩
      have HB1 := Lib.hid hb1
      clear hb1
      go_wp2_with fail
      go_ret2
      exact ⟨rfl, HB1.out⟩
    | some n =>
      have CA := Lib.hid (Tryd.strconv_Atoi s n (by omega) ha w)
      have hbd := Lib.atoi_bound ha (by omega)
      have hB : ∀ t, Below w.heap.size w (Lib.bytesWorld w 5 t) := fun t => Lib.bytesWorld_below w _ t
      have HB := Lib.hid hB
      have HPP := Lib.hid hP
      have CN := fun wx => in_any n 0 1000000000 wx
      by_cases hn : 0 ≤ n ∧ n ≤ 1000000000
      · rw [within_yes hn] at CN
        have HN := Lib.hid CN
        have CD := Lib.hid (fun wx hx => iDecimal_any n (by omega) (by omega) wx hx)
        by_cases he : Lib.itoa n = s.data.toList
        · have HE := Lib.hid (readDec_lib_yes ha hn.1 hn.2 he)
          obtain ⟨e1, e2⟩ := same_txt he
          rw [HE.out]
          obtain ⟨m, rfl⟩ := Int.eq_ofNat_of_zero_le hn.1
          generalize txt (Lib.itoa (m : Int)) = t at *
          clear ha hE hP HE he hB CN
          go_enter Tryd.func9, Tryd.ntmps9
          go_wp2_with fail
          refine (CI3.out _).mono ?_
          rintro e w1 ⟨rfl, rfl⟩
          go_wp2_with fail
          refine CA.out.mono ?_
          rintro e w1 ⟨rfl, tt, rfl⟩
          have HB1 := Lib.hid (HB.out tt)
          generalize Lib.bytesWorld w 5 tt = w1 at *
          go_wp2_with fail
          refine (HN.out _).mono ?_
          rintro e w2 ⟨rfl, rfl⟩
          go_wp2_with fail
          refine (CD.out _ (HPP.out.below HB1.out)).mono ?_
          rintro e w2 ⟨rfl, hb2⟩
          have HB2 := Lib.hid (HB1.out.trans (hb2.mono HB1.out.size))
          clear hb2
          go_wp2_with fail
          go_ret2
          exact ⟨rfl, HB2.out⟩
        · have HE := Lib.hid (readDec_lib_no ha (fun h2 => he h2.2.2))
          obtain ⟨e1, e2⟩ := other_txt he
          rw [HE.out]
          generalize txt (Lib.itoa n) = t at *
          clear ha hE hP HE he hB CN
          go_enter Tryd.func9, Tryd.ntmps9
          go_wp2_with fail
          refine (CI3.out _).mono ?_
          rintro e w1 ⟨rfl, rfl⟩
          go_wp2_with fail
          refine CA.out.mono ?_
          rintro e w1 ⟨rfl, tt, rfl⟩
          have HB1 := Lib.hid (HB.out tt)
          generalize Lib.bytesWorld w 5 tt = w1 at *
          go_wp2_with fail
          refine (HN.out _).mono ?_
          rintro e w2 ⟨rfl, rfl⟩
          go_wp2_with fail
          refine (CD.out _ (HPP.out.below HB1.out)).mono ?_
          rintro e w2 ⟨rfl, hb2⟩
          have HB2 := Lib.hid (HB1.out.trans (hb2.mono HB1.out.size))
          clear hb2
          go_wp2_with fail
          go_ret2
          exact ⟨rfl, HB2.out⟩
      · rw [within_not hn] at CN
        have HN := Lib.hid CN
        have HE := Lib.hid (readDec_lib_no ha (fun h2 => hn ⟨h2.1, h2.2.1⟩))
        rw [HE.out]
        clear ha hE hP HE hn hB CN
        go_enter Tryd.func9, Tryd.ntmps9
        go_wp2_with fail
        refine (CI3.out _).mono ?_
        rintro e w1 ⟨rfl, rfl⟩
        go_wp2_with fail
        refine CA.out.mono ?_
        rintro e w1 ⟨rfl, tt, rfl⟩
        have HB1 := Lib.hid (HB.out tt)
        generalize Lib.bytesWorld w 5 tt = w1 at *
        go_wp2_with fail
        refine (HN.out _).mono ?_
        rintro e w2 ⟨rfl, rfl⟩
        go_wp2_with fail
        go_ret2
        exact ⟨rfl, HB1.out⟩
  · have CI2 := CI.out
    rw [within_not (by omega)] at CI2
    have CI3 := Lib.hid CI2
    have hr : readDec s.data.toList = none := by
      rcases (show s.size = 0 ∨ 10 < s.size by omega) with h | h
      · rw [List.eq_nil_of_length_eq_zero (show s.data.toList.length = 0 by omega)]; decide +kernel
      · exact readDec_long (by omega)
    have HE := Lib.hid hr
    rw [HE.out]
    clear CI CI2 hE hP HE hr
    go_enter Tryd.func9, Tryd.ntmps9
    go_wp2_with fail
    refine (CI3.out _).mono ?_
    rintro e w1 ⟨rfl, rfl⟩
    go_wp2_with fail
    go_ret2
    exact ⟨rfl, Below.refl _ _⟩

end Go.Proofs.YtnlddjlbioelnaaDoor
