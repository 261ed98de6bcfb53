/-
  The walks of Decimal, on both sides.
-/
import Derived.Test.YtcehbmlibfalaaaDoorJHex1
import Derived.Test.YtcehbmlibfalaaaDoorBase3
namespace Go.Proofs.YtcehbmlibfalaaaDoor
open Go.RowKit

set_option maxHeartbeats 1000000 in
theorem sDecimal_any (n : Int) (h0 : -9223372036854775808 ≤ n) (h1 : n ≤ 9223372036854775807) (w : World) :
    Calls Tryd.prog 42 #[.int .i64 n] w fun e w' => e = .returned (.string (txt (Lib.itoa n))) ∧ Below w.heap.size w w' := by
  by_cases hz : n = 0
  · subst hz
    have Hi := Lib.hid itoa_zero
    go_enter Tryd.func42, Tryd.ntmps42
    go_wp2_with fail
    go_ret
    exact ⟨by rw [Hi.out]; rfl, Below.refl _ _⟩
  have Hall := Lib.hid (dec_all n hz)
  go_enter Tryd.func42, Tryd.ntmps42
  go_wp2_with fail
  generalize Value.bool (n == 0) = q7
  go_loopw [0, 4] (fun v s wr => ∃ (x : Int) (t : ByteArray), v = .int .i64 x ∧ s = .string t ∧ Hid (dec x.natAbs ++ t.data.toList = dec n.natAbs) ∧ (0 ≤ n → 0 ≤ x) ∧ (n < 0 → x ≤ 0) ∧ x.natAbs ≤ n.natAbs ∧ Below w.heap.size w wr) (fun v _ _ => (intOf v).natAbs)
  case atStart => exact ⟨n, ⟨#[]⟩, rfl, rfl, by show _ = _; simp, by omega, by omega, Nat.le_refl _, Below.refl _ _⟩
  case round =>
    obtain ⟨x, t, rfl, rfl, hx, hp, hq, hle, hb⟩ := hrel
    have hbs := hb.size
    have hts := dec_size hx.out (by omega)
    by_cases hx0 : x = 0
    · subst hx0
      have he : ((0 : Int) == 0) = true := rfl
      by_cases hn : n < 0
      · have hfin : Hid ((Value.string ({ data := #[45] } ++ t)) = Value.string (txt (Lib.itoa n))) := by
          show _ = _
          have := hx.out
          rw [Hall.out, if_pos hn, ← this]; exact congrArg Value.string (ByteArray.ext (by simp [txt, dec]))
        go_wp2_with fail
        go_ret
        exact ⟨by rw [hfin.out.symm]; rfl, hb⟩
      · have hfin : Hid ((Value.string t) = Value.string (txt (Lib.itoa n))) := by
          show _ = _
          have := hx.out
          rw [Hall.out, if_neg hn, ← this]; exact congrArg Value.string (ByteArray.ext (by simp [txt, dec]))
        go_wp2_with fail
        go_ret
        exact ⟨by rw [hfin.out.symm]; rfl, hb⟩
    · have hd0 := tmod10 x
      have hd1 := tdiv10 x
      have hne : (x == 0) = false := by simpa using hx0
      obtain ⟨m, hm⟩ : ∃ m, x.natAbs = m := ⟨_, rfl⟩
      rw [hm] at hd0 hd1 hx
      have hm0 : m ≠ 0 := by omega
      obtain ⟨d, hd⟩ : ∃ d, m % 10 = d := ⟨_, rfl⟩
      obtain ⟨r, hr⟩ : ∃ r, m / 10 = r := ⟨_, rfl⟩
      rw [hd] at hd0
      rw [hr] at hd1
      have hds : d < 10 := by omega
      have hx' := Lib.hid (dec_next hm0 hd hr hx.out)
      by_cases hx1 : 0 ≤ x
      · rw [if_pos hx1] at hd0 hd1
        have kc := fun wx => one_text (P := Tryd.prog) 32 9 5 5 Tryd.underlying32 Tryd.underlying5 Tryd.underlying9 (fig d) wx
        have ktxt : (txt [fig d]).size = 1 := by rw [txt_size]; rfl
        go_wp2_with (first | (go_at_call 73; refine (l01Figure_any (d : Int) (by omega) (by omega) _).mono ?_; rintro e w1 ⟨rfl, rfl⟩; try rw [Int.toNat_natCast]) | fail)
        rw [show r = (r : Int).natAbs by omega] at hx'
        exact ⟨⟨(r : Int), txt [fig d] ++ t, rfl, rfl, hx', by omega, by omega, by omega, hb.alloc hbs _⟩, by simp [intOf]; omega⟩
      · rw [if_neg hx1] at hd0 hd1
        rw [show r = (-(r : Int)).natAbs by omega] at hx'
        rcases Nat.eq_zero_or_pos d with hz0 | hz0
        · rw [hz0] at hd0 hx'
          replace hd0 : x.tmod 10 = 0 := by simpa using hd0
          have kc := fun wx => one_text (P := Tryd.prog) 32 9 5 5 Tryd.underlying32 Tryd.underlying5 Tryd.underlying9 (fig 0) wx
          have ktxt : (txt [fig 0]).size = 1 := by rw [txt_size]; rfl
          go_wp2_with (first | (go_at_call 73; refine (l01Figure_any 0 (by omega) (by omega) _).mono ?_; rintro e w1 ⟨rfl, rfl⟩; try rw [Int.toNat_natCast]) | fail)
          exact ⟨⟨-(r : Int), txt [fig 0] ++ t, rfl, rfl, hx', by omega, by omega, by omega, hb.alloc hbs _⟩, by simp [intOf]; omega⟩
        · have hneg : -(d : Int) < 0 := by omega
          have kc := fun wx => one_text (P := Tryd.prog) 32 9 5 5 Tryd.underlying32 Tryd.underlying5 Tryd.underlying9 (fig d) wx
          have ktxt : (txt [fig d]).size = 1 := by rw [txt_size]; rfl
          go_wp2_with (first | (go_at_call 73; refine (l01Figure_any (d : Int) (by omega) (by omega) _).mono ?_; rintro e w1 ⟨rfl, rfl⟩; try rw [Int.toNat_natCast]) | fail)
          exact ⟨⟨-(r : Int), txt [fig d] ++ t, rfl, rfl, hx', by omega, by omega, by omega, hb.alloc hbs _⟩, by simp [intOf]; omega⟩

end Go.Proofs.YtcehbmlibfalaaaDoor
