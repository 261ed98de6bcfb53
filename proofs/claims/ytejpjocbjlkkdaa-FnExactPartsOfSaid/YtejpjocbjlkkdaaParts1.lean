/-
  The walks of the fields of a line, on both sides.
-/
import Derived.Test.YtejpjocbjlkkdaaPuParts
import Derived.Test.YtejpjocbjlkkdaaStrs1
import Derived.Test.YtejpjocbjlkkdaaBits
namespace Go.Proofs.Ytejpjocbjlkkdaa
open Go.RowKit

/-- A string's piece, as the model cuts it. -/
theorem cut_txt {P : Program} {t : TypeId} (ht : P.underlying t = some .string) (s : ByteArray) (i j : Int) (a b : Nat) (hi : i = a) (hj : j = b) (h : a ≤ b) (hb : b ≤ s.size) (w : World) :
    (Instr.slice t (.string s) (some (.int .i64 i)) (some (.int .i64 j)) none).run P w = .ok (.string (txt ((s.data.toList.drop a).take (b - a)))) w := by
  rw [← extract_txt]; exact cut_str ht s i j a b hi hj h hb w

set_option maxHeartbeats 2000000 in
set_option maxRecDepth 100000 in
theorem iPartsOf_any (s : ByteArray) (hs : s.size ≤ 1048576) (w : World) :
    Calls Try.prog 45 #[.string s] w fun e w' => (∃ v, e = .returned (.tuple #[v, .bool (partsL s.data.toList).isSome]) ∧ OwnS w' w.heap.size v (((partsL s.data.toList).getD []).map txt)) ∧ Below w.heap.size w w' := by
  have hl : s.data.toList.length = s.size := by rw [Array.length_toList]; rfl
  by_cases h2 : s.size ≤ 600
  · have HL := Lib.hid hl
    clear hl
    go_enter Try.func45, Try.ntmps45
    go_wp2_with fail
    go_loopw [4, 5, 6] (fun v p q wr => ∃ (acc : List (List UInt8)) (b i : Nat) (z : Int), p = .int .i64 z ∧ q = .int .i64 i ∧ i ≤ s.size + 1 ∧ Hid ((z = -1 ∧ b = i) ∨ (z = b ∧ b < i)) ∧ Hid (acc.length ≤ i) ∧ Hid (ReadsP s acc b i) ∧ OwnS wr w.heap.size v (acc.map txt) ∧ Below w.heap.size w wr) (fun _ _ q _ => s.size + 1 - (intOf q).toNat)
    case atStart => exact ⟨[], 0, 0, -1, rfl, rfl, Nat.zero_le _, .inl ⟨rfl, rfl⟩, Nat.le_refl _, ReadsP.zero _, OwnS.nil _ _, Below.refl _ _⟩
    case round =>
      obtain ⟨acc, b, i, z, rfl, rfl, hi, hz, hacc, hR, hown, hb⟩ := hrel
      have hbs := hb.size
      by_cases hi1 : i ≤ s.size
      · by_cases hlt : i < s.size
        · have hne : ((i : Int) == (s.size : Int)) = false := by rw [beq_eq_false_iff_ne]; omega
          by_cases h32 : s[i].toNat = 32
          · have hx : ∀ h : i < s.size, s[i].toNat = 32 := fun _ => h32
            have hbb : ((s[i].toNat : Int) == 32) = true := by rw [beq_iff_eq]; omega
            clear h32
            have H1 := Lib.hid hx
            have hz' := hz.out
            rcases hz' with ⟨rfl, rfl⟩ | ⟨rfl, hbi⟩
            · have R := Lib.hid (hR.out.sep_no hi1 hx)
              clear hR hz hx
              go_wp2_with fail
              exact ⟨⟨acc, b + 1, b + 1, -1, rfl, by go_num, by omega, .inl ⟨rfl, rfl⟩, Nat.le_succ_of_le hacc.out, R.out, hown, hb⟩, by simp [intOf] <;> omega⟩
            · have R := Lib.hid (hR.out.sep_yes hbi hi1 hx)
              have c1 := fun wx => cut_txt (P := Try.prog) Try.underlying9 s (b : Int) (i : Int) b i rfl rfl (Nat.le_of_lt hbi) hi1 wx
              generalize (s.data.toList.drop b).take (i - b) = t at *
              have hal : (acc.map txt).length ≤ 1048577 := by have := hacc.out; rw [List.length_map]; omega
              have HA : Hid ((acc ++ [t]).length ≤ i + 1) := Lib.hid (by have := hacc.out; rw [List.length_append, List.length_singleton]; omega)
              have HZ := Lib.hid (show (acc ++ [t]).map txt = acc.map txt ++ [txt t] by rw [List.map_append, List.map_singleton])
              clear hR hz hx hacc
              go_wp2_with (at_builtin; refine wpList_push_strs _ _ rfl _ _ 28 rfl 9 Try.underlying28 Try.infoStr _ _ (acc.map txt) rfl hown _ [txt t] rfl 1 1 rfl _ rfl rfl (by omega) hbs rfl ?_; intro v1 w3 hown3 hg3 hb3)
              exact ⟨⟨acc ++ [t], i + 1, i + 1, -1, rfl, by go_num, by omega, .inl ⟨rfl, rfl⟩, HA.out, R.out, by rw [HZ.out]; exact hown3, hb.trans hb3⟩, by simp [intOf] <;> omega⟩

          · have hbb : ((s[i].toNat : Int) == 32) = false := by rw [beq_eq_false_iff_ne]; omega
            by_cases hin : (32 : Int) ≤ s[i].toNat ∧ (s[i].toNat : Int) ≤ 126
            · have R := fun hb' : b ≤ i => hR.out.char hb' hlt (by omega) (by omega)
              have Hh := Lib.hid hin
              clear hR hin h32
              have hz' := hz.out
              rcases hz' with ⟨rfl, rfl⟩ | ⟨rfl, hbi⟩
              · have R' := Lib.hid (R (Nat.le_refl _))
                clear R hz
                go_wp2_with (go_at_call 64; rw [wrap64_byte]; refine (in_yes _ _ _ Hh.out _).mono ?_; rintro e w' ⟨rfl, rfl⟩)
                exact ⟨⟨acc, b, b + 1, b, rfl, by go_num, by omega, .inr ⟨rfl, by omega⟩, Nat.le_succ_of_le hacc.out, R'.out, hown, hb⟩, by simp [intOf] <;> omega⟩
              · have R' := Lib.hid (R (Nat.le_of_lt hbi))
                clear R hz
                go_wp2_with (go_at_call 64; rw [wrap64_byte]; refine (in_yes _ _ _ Hh.out _).mono ?_; rintro e w' ⟨rfl, rfl⟩)
                exact ⟨⟨acc, b, i + 1, b, rfl, by go_num, by omega, .inr ⟨rfl, by omega⟩, Nat.le_succ_of_le hacc.out, R'.out, hown, hb⟩, by simp [intOf] <;> omega⟩
            · have H := Lib.hid (partsL_bad (hR.out.bad hlt (by omega)))
              have Hh := Lib.hid hin
              clear hR hin h32 hz
              go_wp2_with (go_at_call 64; rw [wrap64_byte]; refine (in_no _ _ _ Hh.out _).mono ?_; rintro e w' ⟨rfl, rfl⟩)
              go_ret2
              rw [H.out]
              exact ⟨⟨_, rfl, OwnS.nil _ _⟩, hb⟩
        · obtain rfl : i = s.size := by omega
          have hx : ∀ h : s.size < s.size, s[s.size].toNat = 32 := fun h => absurd h (Nat.lt_irrefl _)
          have H1 := Lib.hid hx
          have hz' := hz.out
          rcases hz' with ⟨rfl, hbz⟩ | ⟨rfl, hbi⟩
          · have R := Lib.hid ((hbz ▸ hR.out).sep_no hi1 hx)
            clear hR hz hx
            go_wp2_with fail
            exact ⟨⟨acc, s.size + 1, s.size + 1, -1, rfl, by go_num, by omega, .inl ⟨rfl, rfl⟩, Nat.le_succ_of_le hacc.out, R.out, hown, hb⟩, by simp [intOf] <;> omega⟩
          · have R := Lib.hid (hR.out.sep_yes hbi hi1 hx)
            have c1 := fun wx => cut_txt (P := Try.prog) Try.underlying9 s (b : Int) (s.size : Int) b s.size rfl rfl (Nat.le_of_lt hbi) hi1 wx
            generalize (s.data.toList.drop b).take (s.size - b) = t at *
            have hal : (acc.map txt).length ≤ 1048577 := by have := hacc.out; rw [List.length_map]; omega
            have HA : Hid ((acc ++ [t]).length ≤ s.size + 1) := Lib.hid (by have := hacc.out; rw [List.length_append, List.length_singleton]; omega)
            have HZ := Lib.hid (show (acc ++ [t]).map txt = acc.map txt ++ [txt t] by rw [List.map_append, List.map_singleton])
            clear hR hz hx hacc
            go_wp2_with (at_builtin; refine wpList_push_strs _ _ rfl _ _ 28 rfl 9 Try.underlying28 Try.infoStr _ _ (acc.map txt) rfl hown _ [txt t] rfl 1 1 rfl _ rfl rfl (by omega) hbs rfl ?_; intro v1 w3 hown3 hg3 hb3)
            exact ⟨⟨acc ++ [t], s.size + 1, s.size + 1, -1, rfl, by go_num, by omega, .inl ⟨rfl, rfl⟩, HA.out, R.out, by rw [HZ.out]; exact hown3, hb.trans hb3⟩, by simp [intOf] <;> omega⟩

      · have he := hR.out.done (by omega)
        obtain ⟨ao, cap, rfl, -⟩ := hown.rd
        rw [List.length_map] at *
        by_cases ha : 10 < acc.length
        · have H := Lib.hid (partsL_many he ha)
          clear he hR hz
          go_wp2_with fail
          go_ret2
          rw [H.out]
          exact ⟨⟨_, rfl, OwnS.nil _ _⟩, hb⟩
        · have H := Lib.hid (partsL_yes (by rw [HL.out]; omega) he ha)
          have Ho := Lib.hid hown
          clear he hR hz hown
          go_wp2_with fail
          go_ret2
          rw [H.out]
          exact ⟨⟨_, rfl, Ho.out⟩, hb⟩
  · rw [partsL_long (by omega)]
    go_enter Try.func45, Try.ntmps45
    go_wp2_with fail
    go_ret2
    exact ⟨⟨_, rfl, OwnS.nil _ _⟩, Below.refl _ _⟩

set_option maxHeartbeats 2000000 in
set_option maxRecDepth 100000 in
theorem sPartsOf_any (s : ByteArray) (hs : s.size ≤ 1048576) (w : World) :
    Calls Try.prog 44 #[.string s] w fun e w' => (∃ v, e = .returned (.tuple #[v, .bool (partsL s.data.toList).isSome]) ∧ OwnS w' w.heap.size v (((partsL s.data.toList).getD []).map txt)) ∧ Below w.heap.size w w' := by
  have hl : s.data.toList.length = s.size := by rw [Array.length_toList]; rfl
  by_cases h2 : s.size ≤ 600
  · have HL := Lib.hid hl
    clear hl
    go_enter Try.func44, Try.ntmps44
    go_wp2_with fail
    go_loopw [4, 5, 6] (fun v p q wr => ∃ (acc : List (List UInt8)) (b i : Nat), p = .int .i64 b ∧ q = .int .i64 i ∧ i ≤ s.size + 1 ∧ b ≤ i ∧ Hid (acc.length ≤ i) ∧ Hid (ReadsP s acc b i) ∧ OwnS wr w.heap.size v (acc.map txt) ∧ Below w.heap.size w wr) (fun _ _ q _ => s.size + 1 - (intOf q).toNat)
    case atStart => exact ⟨[], 0, 0, rfl, rfl, Nat.zero_le _, Nat.le_refl _, Nat.le_refl _, ReadsP.zero _, OwnS.empty _ _ _ (Nat.le_refl _), (Below.refl _ _).alloc (Nat.le_refl _) _⟩
    case round =>
      obtain ⟨acc, b, i, rfl, rfl, hi, hz, hacc, hR, hown, hb⟩ := hrel
      have hbs := hb.size
      by_cases hi1 : i ≤ s.size
      · by_cases hlt : i < s.size
        · rcases (show (s[i].toNat : Int) < 32 ∨ (126 : Int) < s[i].toNat ∨ s[i].toNat = 32 ∨ ((32 : Int) < s[i].toNat ∧ (s[i].toNat : Int) ≤ 126) from by omega) with h | h | h | ⟨h, h'⟩
          · have H := Lib.hid (partsL_bad (hR.out.bad hlt (by omega)))
            clear hR
            go_wp2_with fail
            go_ret2
            rw [H.out]
            exact ⟨⟨_, rfl, OwnS.empty _ _ _ hbs⟩, hb.alloc hbs _⟩
          · have H := Lib.hid (partsL_bad (hR.out.bad hlt (by omega)))
            clear hR
            go_wp2_with fail
            go_ret2
            rw [H.out]
            exact ⟨⟨_, rfl, OwnS.empty _ _ _ hbs⟩, hb.alloc hbs _⟩
          · have hx : ∀ h : i < s.size, s[i].toNat = 32 := fun _ => h
            have hbb : ((s[i].toNat : Int) != 32) = false := by rw [bne_eq_false_iff_eq]; omega
            have hx1 : ¬ (s[i].toNat : Int) < 32 := by omega
            have hx2 : ¬ (126 : Int) < (s[i].toNat : Int) := by omega
            clear h
            by_cases hbi : b < i
            · have R := Lib.hid (hR.out.sep_yes hbi hi1 hx)
              have c1 := fun wx => cut_txt (P := Try.prog) Try.underlying9 s (b : Int) (i : Int) b i rfl rfl (Nat.le_of_lt hbi) hi1 wx
              generalize (s.data.toList.drop b).take (i - b) = t at *
              have hal : (acc.map txt).length ≤ 1048577 := by have := hacc.out; rw [List.length_map]; omega
              have HA : Hid ((acc ++ [t]).length ≤ i + 1) := Lib.hid (by have := hacc.out; rw [List.length_append, List.length_singleton]; omega)
              have HZ := Lib.hid (show (acc ++ [t]).map txt = acc.map txt ++ [txt t] by rw [List.map_append, List.map_singleton])
              clear hR hx hacc
              go_wp2_with (at_builtin; refine wpList_push_strs _ _ rfl _ _ 28 rfl 9 Try.underlying28 Try.infoStr _ _ (acc.map txt) rfl hown _ [txt t] rfl 1 1 rfl _ rfl rfl (by omega) hbs rfl ?_; intro v1 w3 hown3 hg3 hb3)
              exact ⟨⟨acc ++ [t], i + 1, i + 1, by go_num, by go_num, by omega, Nat.le_refl _, HA.out, R.out, by rw [HZ.out]; exact hown3, hb.trans hb3⟩, by simp [intOf] <;> omega⟩
            · obtain rfl : b = i := by omega
              have R := Lib.hid (hR.out.sep_no hi1 hx)
              clear hR hx
              go_wp2_with fail
              exact ⟨⟨acc, b + 1, b + 1, by go_num, by go_num, by omega, Nat.le_refl _, Nat.le_succ_of_le hacc.out, R.out, hown, hb⟩, by simp [intOf] <;> omega⟩
          · have hbb : ((s[i].toNat : Int) != 32) = true := by rw [bne_iff_ne]; omega
            have R := Lib.hid (hR.out.char hz hlt (by omega) (by omega))
            clear hR
            go_wp2_with fail
            exact ⟨⟨acc, b, i + 1, rfl, by go_num, by omega, by omega, Nat.le_succ_of_le hacc.out, R.out, hown, hb⟩, by simp [intOf] <;> omega⟩
        · obtain rfl : i = s.size := by omega
          have hx : ∀ h : s.size < s.size, s[s.size].toNat = 32 := fun h => absurd h (Nat.lt_irrefl _)
          by_cases hbi : b < s.size
          · have R := Lib.hid (hR.out.sep_yes hbi hi1 hx)
            have c1 := fun wx => cut_txt (P := Try.prog) Try.underlying9 s (b : Int) (s.size : Int) b s.size rfl rfl (Nat.le_of_lt hbi) hi1 wx
            generalize (s.data.toList.drop b).take (s.size - b) = t at *
            have hal : (acc.map txt).length ≤ 1048577 := by have := hacc.out; rw [List.length_map]; omega
            have HA : Hid ((acc ++ [t]).length ≤ s.size + 1) := Lib.hid (by have := hacc.out; rw [List.length_append, List.length_singleton]; omega)
            have HZ := Lib.hid (show (acc ++ [t]).map txt = acc.map txt ++ [txt t] by rw [List.map_append, List.map_singleton])
            clear hR hx hacc
            go_wp2_with (at_builtin; refine wpList_push_strs _ _ rfl _ _ 28 rfl 9 Try.underlying28 Try.infoStr _ _ (acc.map txt) rfl hown _ [txt t] rfl 1 1 rfl _ rfl rfl (by omega) hbs rfl ?_; intro v1 w3 hown3 hg3 hb3)
            exact ⟨⟨acc ++ [t], s.size + 1, s.size + 1, by go_num, by go_num, by omega, Nat.le_refl _, HA.out, R.out, by rw [HZ.out]; exact hown3, hb.trans hb3⟩, by simp [intOf] <;> omega⟩
          · obtain hbz : b = s.size := by omega
            have R := Lib.hid ((hbz ▸ hR.out).sep_no hi1 hx)
            clear hR hx
            go_wp2_with fail
            exact ⟨⟨acc, s.size + 1, s.size + 1, by go_num, by go_num, by omega, Nat.le_refl _, Nat.le_succ_of_le hacc.out, R.out, hown, hb⟩, by simp [intOf] <;> omega⟩
      · have he := hR.out.done (by omega)
        obtain ⟨ao, cap, rfl, -⟩ := hown.rd
        rw [List.length_map] at *
        by_cases ha : 10 < acc.length
        · have H := Lib.hid (partsL_many he ha)
          clear he hR hz
          go_wp2_with fail
          go_ret2
          rw [H.out]
          exact ⟨⟨_, rfl, OwnS.empty _ _ _ hbs⟩, hb.alloc hbs _⟩
        · have H := Lib.hid (partsL_yes (by rw [HL.out]; omega) he ha)
          have Ho := Lib.hid hown
          clear he hR hz hown
          go_wp2_with fail
          go_ret2
          rw [H.out]
          exact ⟨⟨_, rfl, Ho.out⟩, hb⟩
  · rw [partsL_long (by omega)]
    go_enter Try.func44, Try.ntmps44
    go_wp2_with fail
    go_ret2
    exact ⟨⟨_, rfl, OwnS.empty _ _ _ (Nat.le_refl _)⟩, (Below.refl _ _).alloc (Nat.le_refl _) _⟩

end Go.Proofs.Ytejpjocbjlkkdaa
