/-
  The walks of records in a file, on both sides.
-/
import Derived.Test.YtdecehecjlbbiaaPuFrame
import Derived.Test.YtdecehecjlbbiaaShort1
import Derived.Test.YtdecehecjlbbiaaSums2
import Derived.Test.YtdecehecjlbbiaaStrs1
import Derived.Test.YtdecehecjlbbiaaWords1
import Derived.Test.YtdecehecjlbbiaaBits
namespace Go.Proofs.Ytdecehecjlbbiaa
open Go.RowKit

theorem size_var {n : Nat} (h : n ≤ 1000000) : (txt (varL n)).size ≤ 3 := by rw [txt_size]; exact varL_length_le 2 n (by omega)
theorem size_be (n : Nat) : (txt (be32 n)).size = 4 := by rw [txt_size]; rfl

theorem iFrame_yes (s : ByteArray) (h : 1 ≤ s.size ∧ s.size ≤ 9000) (w : World) :
    Calls Try.prog 82 #[.string s] w fun e w' => e = .returned (.tuple #[.string (txt (frameL s.data.toList)), .bool true]) ∧ Below w.heap.size w w' := by
  have hx := crc_lt s.data.toList
  have hv := size_var (n := s.size) (by omega)
  have hb := size_be (crc s.data.toList)
  have C1 := Lib.hid (fun w => varText_any s.size (by omega) w)
  go_enter Try.func82, Try.ntmps82
  go_wp2_with (first | (go_at_call 67; refine (in_yes _ _ _ (by omega) _).mono ?_; rintro e w' ⟨rfl, rfl⟩) | (go_at_call 106; refine (iSumOf_any s (by omega) _).mono ?_; rintro e w' ⟨rfl, rfl⟩) | (go_at_call 105; refine (fourBytes_any (crc s.data.toList) hx _).mono ?_; rintro e w1 ⟨rfl, hb1⟩) | (go_at_call 104; refine (C1.out _).mono ?_; rintro e w2 ⟨rfl, hb2⟩))
  go_ret2
  refine ⟨?_, hb2.trans (hb1.mono hb2.size)⟩
  have hl : s.data.toList.length = s.size := by rw [Array.length_toList]; rfl
  rw [frameL, hl, crc4, ← txt_join2, txt_join]
  rfl
theorem iFrame_no (s : ByteArray) (h : ¬ (1 ≤ s.size ∧ s.size ≤ 9000)) (hs : s.size ≤ 1048576) (w : World) :
    Calls Try.prog 82 #[.string s] w fun e w' => e = .returned (.tuple #[.string ⟨#[]⟩, .bool false]) ∧ w = w' := by
  have h1 := Lib.hid h
  clear h
  go_enter Try.func82, Try.ntmps82
  go_wp2_with (go_at_call 67; refine (in_no _ _ _ (by have := h1.out; omega) _).mono ?_; rintro e w' ⟨rfl, rfl⟩)
  go_ret2
  exact ⟨rfl, rfl⟩

theorem sFrame_yes (s : ByteArray) (h : 1 ≤ s.size ∧ s.size ≤ 9000) (w : World) :
    Calls Try.prog 80 #[.string s] w fun e w' => e = .returned (.tuple #[.string (txt (frameL s.data.toList)), .bool true]) ∧ Below w.heap.size w w' := by
  have hx := crc_lt s.data.toList
  have hv := size_var (n := s.size) (by omega)
  have hb := size_be (crc s.data.toList)
  have C1 := Lib.hid (fun w => l01Var_any s.size (by omega) w)
  go_enter Try.func80, Try.ntmps80
  go_wp2_with (first | (go_at_call 64; refine (l01In_yes _ _ _ (by omega) _).mono ?_; rintro e w' ⟨rfl, rfl⟩) | (go_at_call 103; refine (sSumOf_any s (by omega) _).mono ?_; rintro e w' ⟨rfl, rfl⟩) | (go_at_call 102; refine (l02Four_any (crc s.data.toList) hx _).mono ?_; rintro e w1 ⟨rfl, hb1⟩) | (go_at_call 101; refine (C1.out _).mono ?_; rintro e w2 ⟨rfl, hb2⟩))
  go_ret2
  refine ⟨?_, hb2.trans (hb1.mono hb2.size)⟩
  have hl : s.data.toList.length = s.size := by rw [Array.length_toList]; rfl
  rw [frameL, hl, crc4, ← txt_join2, txt_join]
  rfl
theorem sFrame_no (s : ByteArray) (h : ¬ (1 ≤ s.size ∧ s.size ≤ 9000)) (hs : s.size ≤ 1048576) (w : World) :
    Calls Try.prog 80 #[.string s] w fun e w' => e = .returned (.tuple #[.string ⟨#[]⟩, .bool false]) ∧ w = w' := by
  have h1 := Lib.hid h
  clear h
  go_enter Try.func80, Try.ntmps80
  go_wp2_with (go_at_call 64; refine (l01In_no _ _ _ (by have := h1.out; omega) _).mono ?_; rintro e w' ⟨rfl, rfl⟩)
  go_ret2
  exact ⟨rfl, rfl⟩

theorem frame_eq {s t u : ByteArray} {m n : Nat} (ht : s.extract (m + 4) (m + 4 + n) = t) (hu : s.extract m (m + 4) = u) :
    t.data.toList = (s.data.toList.drop (m + 4)).take n ∧ (u.toList == (txt (be32 (sumL 4294967295 t.data.toList))).toList) = decide ((s.data.toList.drop m).take 4 = crc4 ((s.data.toList.drop (m + 4)).take n)) := by
  subst ht; subst hu
  have e1 : (s.extract (m + 4) (m + 4 + n)).data.toList = (s.data.toList.drop (m + 4)).take n := by rw [extract_list]; congr 1; omega
  refine ⟨e1, ?_⟩
  rw [e1, same_bytes, extract_list, txt_data, show m + 4 - m = 4 by omega]
  show (_ == crc4 _) = _
  by_cases h : (s.data.toList.drop m).take 4 = crc4 ((s.data.toList.drop (m + 4)).take n)
  · rw [decide_eq_true h]; simpa using h
  · rw [decide_eq_false h]; simpa using h

set_option maxHeartbeats 2000000 in
set_option maxRecDepth 100000 in
theorem iUnframe_any (s : ByteArray) (hs : s.size ≤ 1048576) (w : World) :
    Calls Try.prog 87 #[.string s] w fun e w' => (∃ v, e = .returned (.tuple #[v, .int .i64 ((unframeL s.data.toList).2 : Nat)]) ∧ OwnS w' w.heap.size v ((unframeL s.data.toList).1.map txt)) ∧ Below w.heap.size w w' := by
  have hl : s.data.toList.length = s.size := by rw [Array.length_toList]; rfl
  by_cases h2 : s.size ≤ 20000
  · rw [unframeL_yes (by omega)]
    have HL := Lib.hid hl
    clear hl
    go_enter Try.func87, Try.ntmps87
    go_wp2_with fail
    go_loopw [4, 5] (fun v p wr => ∃ (acc : List (List UInt8)) (q : Nat), q ≤ s.size ∧ p = .int .i64 q ∧ Hid (acc.length ≤ q) ∧ Hid (Reads s.data.toList acc q) ∧ OwnS wr w.heap.size v (acc.map txt) ∧ Below w.heap.size w wr) (fun _ p _ => s.size - (intOf p).toNat)
    case atStart => exact ⟨[], 0, Nat.zero_le _, rfl, Nat.le_refl _, Reads.zero _, OwnS.nil _ _, Below.refl _ _⟩
    case round =>
      obtain ⟨acc, q, hq, rfl, hacc, hR, hown, hb⟩ := hrel
      have hbs := hb.size
      have C := Lib.hid (fun w => i_rv s q hs w)
      rcases hr : readVar s.data.toList q with _ | ⟨n, m⟩
      · have he := Lib.hid (hR.out.stop (frameAt_none hr))
        rw [hr] at C
        simp only [rvVal] at C
        clear hr
        go_wp2_with (go_at_call 108; refine (C.out _).mono ?_; rintro e w1 ⟨rfl, hb1⟩)
        go_ret2
        rw [he.out]
        exact ⟨⟨_, rfl, hown.below hb1 (Nat.le_refl _)⟩, hb.trans (hb1.mono hbs)⟩
      · have hcan := readVar_canon hr
        obtain ⟨hm1, hm2, -⟩ := hcan
        obtain ⟨hn, -⟩ := readVar_bounds hr
        rw [HL.out] at hm2
        by_cases h1 : 1 ≤ n ∧ n ≤ 9000
        · by_cases h3 : (n : Int) + 4 ≤ s.size - m
          · obtain ⟨t, ht⟩ : ∃ t, s.extract (m + 4) (m + 4 + n) = t := ⟨_, rfl⟩
            obtain ⟨u, hu⟩ : ∃ u, s.extract m (m + 4) = u := ⟨_, rfl⟩
            obtain ⟨ht', hbool⟩ := frame_eq ht hu
            have c1 := fun wx => cut_str (P := Try.prog) Try.underlying9 s ((m : Int) + 4) ((m : Int) + 4 + n) (m + 4) (m + 4 + n) (by omega) (by omega) (by omega) (by omega) wx
            have c2 := fun wx => cut_str (P := Try.prog) Try.underlying9 s (m : Int) ((m : Int) + 4) m (m + 4) rfl (by omega) (by omega) (by omega) wx
            have htz : t.size ≤ 1099511627776 := by rw [← ht, ByteArray.size_extract]; omega
            simp only [ht] at c1
            simp only [hu] at c2
            have hcr' : (sumL 4294967295 t.data.toList : Int) < 4294967296 := by have := crc_lt t.data.toList; unfold crc at this; omega
            rw [hr] at C
            simp only [rvVal] at C
            by_cases hh : (s.data.toList.drop m).take 4 = crc4 ((s.data.toList.drop (m + 4)).take n)
            · rw [decide_eq_true hh] at hbool
              have hF := frameAt_yes hr ⟨h1.1, h1.2, by rw [HL.out]; omega, hh⟩
              rw [← ht'] at hF
              have hR' := Lib.hid (hR.out.more hF)
              have Hx := Lib.hid (And.intro hbool (And.intro hcr' htz))
              clear hr hR hF hh ht hu ht' hbool hcr' htz
              go_wp2_with (first | (go_at_call 108; refine (C.out _).mono ?_; rintro e w1 ⟨rfl, hb1⟩) | (go_at_call 67; refine (in_yes _ _ _ (by omega) _).mono ?_; rintro e w' ⟨rfl, rfl⟩))
              obtain ⟨hbool, hcr', htz⟩ := Hx.out
              refine wp_region_quiet_below Try.checked.mixed (by kernel_rfl) ?_
              repeat (any_goals (first
                | go_big_quiet_step ((first | (go_at_call 106; exact Calls.regrown_of (below_of_same (iSumOf_any t htz _))) | (go_at_call 105; exact Calls.regrown_of (fourBytes_int _ (by omega) (by omega) _))))
                | quiet_step ((first | (go_at_call 106; exact Calls.regrown_of (below_of_same (iSumOf_any t htz _))) | (go_at_call 105; exact Calls.regrown_of (fourBytes_int _ (by omega) (by omega) _))))))
              refine wpQuiet_nil ?_
              intro w2 hw'
              have hb2 : Below w1.heap.size w1 w2 := by obtain ⟨⟨dq, osq⟩, hw''⟩ := hw'; rw [hw'']; exact below_regrown w1 dq osq
              have hown2 := (hown.below hb1 (Nat.le_refl _)).below hb2 (Nat.le_refl _)
              have hbb := (hb.trans (hb1.mono hbs)).trans (hb2.mono (Nat.le_trans hbs hb1.size))
              have hbbs := hbb.size
              have hal : (acc.map txt).length ≤ 20000 := by have := hacc.out; rw [List.length_map]; omega
              have hacc' : (acc ++ [t.data.toList]).length ≤ m + 4 + n := by have := hacc.out; rw [List.length_append, List.length_singleton]; omega
              have HA := Lib.hid hacc'
              clear hb1 hb2 hown hb hbool hw' hcr' htz hacc hacc'
              go_wp2_with (at_builtin; refine wpList_push_strs _ _ rfl _ _ 56 rfl 9 Try.underlying56 Try.infoStr _ _ (acc.map txt) rfl hown2 _ [t] rfl 1 1 rfl _ rfl rfl (by omega) hbbs rfl ?_; intro v1 w3 hown3 hg3 hb3)
              refine ⟨⟨acc ++ [t.data.toList], m + 4 + n, by omega, by go_num, HA.out, hR'.out, by rw [List.map_append, List.map_singleton, txt_toList]; exact hown3, hbb.trans hb3⟩, by simp [intOf]; omega⟩
            · rw [decide_eq_false hh] at hbool
              have hF := frameAt_no hr (fun x => hh x.2.2.2)
              have he := Lib.hid (hR.out.stop hF)
              have Hx := Lib.hid (And.intro hbool (And.intro hcr' htz))
              clear hr hR hF hh ht hu ht' hbool hcr' htz
              go_wp2_with (first | (go_at_call 108; refine (C.out _).mono ?_; rintro e w1 ⟨rfl, hb1⟩) | (go_at_call 67; refine (in_yes _ _ _ (by omega) _).mono ?_; rintro e w' ⟨rfl, rfl⟩))
              obtain ⟨hbool, hcr', htz⟩ := Hx.out
              refine wp_region_quiet_below Try.checked.mixed (by kernel_rfl) ?_
              repeat (any_goals (first
                | go_big_quiet_step ((first | (go_at_call 106; exact Calls.regrown_of (below_of_same (iSumOf_any t htz _))) | (go_at_call 105; exact Calls.regrown_of (fourBytes_int _ (by omega) (by omega) _))))
                | quiet_step ((first | (go_at_call 106; exact Calls.regrown_of (below_of_same (iSumOf_any t htz _))) | (go_at_call 105; exact Calls.regrown_of (fourBytes_int _ (by omega) (by omega) _))))))
              refine wpQuiet_nil ?_
              intro w2 hw'
              have hb2 : Below w1.heap.size w1 w2 := by obtain ⟨⟨dq, osq⟩, hw''⟩ := hw'; rw [hw'']; exact below_regrown w1 dq osq
              have hown2 := (hown.below hb1 (Nat.le_refl _)).below hb2 (Nat.le_refl _)
              have hbb := (hb.trans (hb1.mono hbs)).trans (hb2.mono (Nat.le_trans hbs hb1.size))
              clear hb1 hb2 hown hb hbool hw' hcr' htz
              go_wp2_with fail
              go_ret2
              rw [he.out]
              exact ⟨⟨_, rfl, hown2⟩, hbb⟩
          · have hF := frameAt_no hr (fun x => h3 (by have := x.2.2.1; rw [HL.out] at this; omega))
            have he := Lib.hid (hR.out.stop hF)
            rw [hr] at C
            simp only [rvVal] at C
            clear hr hF
            go_wp2_with (first | (go_at_call 108; refine (C.out _).mono ?_; rintro e w1 ⟨rfl, hb1⟩) | (go_at_call 67; refine (in_yes _ _ _ (by omega) _).mono ?_; rintro e w' ⟨rfl, rfl⟩))
            go_ret2
            rw [he.out]
            exact ⟨⟨_, rfl, hown.below hb1 (Nat.le_refl _)⟩, hb.trans (hb1.mono hbs)⟩
        · have hF := frameAt_no hr (fun x => h1 ⟨x.1, x.2.1⟩)
          have he := Lib.hid (hR.out.stop hF)
          have h1' := Lib.hid h1
          rw [hr] at C
          simp only [rvVal] at C
          clear hr hF h1
          go_wp2_with (first | (go_at_call 108; refine (C.out _).mono ?_; rintro e w1 ⟨rfl, hb1⟩) | (go_at_call 67; refine (in_no _ _ _ (by have := h1'.out; omega) _).mono ?_; rintro e w' ⟨rfl, rfl⟩))
          go_ret2
          rw [he.out]
          exact ⟨⟨_, rfl, hown.below hb1 (Nat.le_refl _)⟩, hb.trans (hb1.mono hbs)⟩
  · rw [unframeL_no (by omega)]
    go_enter Try.func87, Try.ntmps87
    go_wp2_with fail
    go_ret2
    exact ⟨⟨_, rfl, OwnS.nil _ _⟩, Below.refl _ _⟩

theorem frameS_eq {s t u : ByteArray} {q m n : Nat} (hr : readVar s.data.toList q = some (n, m)) (hn : n + 4 ≤ s.size - m) (ht : s.extract (m + 4) (m + 4 + n) = t) (hu : s.extract q (m + 4 + n) = u) :
    t.data.toList = (s.data.toList.drop (m + 4)).take n ∧ ((txt (frameL t.data.toList)).toList == u.toList) = decide ((s.data.toList.drop m).take 4 = crc4 ((s.data.toList.drop (m + 4)).take n)) := by
  subst ht; subst hu
  have hl : s.data.toList.length = s.size := by rw [Array.length_toList]; rfl
  have e1 : (s.extract (m + 4) (m + 4 + n)).data.toList = (s.data.toList.drop (m + 4)).take n := by rw [extract_list]; congr 1; omega
  refine ⟨e1, ?_⟩
  rw [e1, same_bytes, extract_list, txt_data]
  have ht := frame_test hr (by rw [hl]; exact hn)
  by_cases h : (s.data.toList.drop m).take 4 = crc4 ((s.data.toList.drop (m + 4)).take n)
  · rw [decide_eq_true h]; simpa using ht.2 h
  · rw [decide_eq_false h]; simpa using fun x => h (ht.1 x)

set_option maxHeartbeats 2000000 in
set_option maxRecDepth 100000 in
theorem sUnframe_any (s : ByteArray) (hs : s.size ≤ 1048576) (w : World) :
    Calls Try.prog 86 #[.string s] w fun e w' => (∃ v, e = .returned (.tuple #[v, .int .i64 ((unframeL s.data.toList).2 : Nat)]) ∧ OwnS w' w.heap.size v ((unframeL s.data.toList).1.map txt)) ∧ Below w.heap.size w w' := by
  have hl : s.data.toList.length = s.size := by rw [Array.length_toList]; rfl
  by_cases h2 : s.size ≤ 20000
  · rw [unframeL_yes (by omega)]
    have HL := Lib.hid hl
    clear hl
    go_enter Try.func86, Try.ntmps86
    go_wp2_with fail
    go_loopw [4, 5] (fun v p wr => ∃ (acc : List (List UInt8)) (q : Nat), q ≤ s.size ∧ p = .int .i64 q ∧ Hid (acc.length ≤ q) ∧ Hid (Reads s.data.toList acc q) ∧ OwnS wr w.heap.size v (acc.map txt) ∧ Below w.heap.size w wr) (fun _ p _ => s.size - (intOf p).toNat)
    case atStart => exact ⟨[], 0, Nat.zero_le _, rfl, Nat.le_refl _, Reads.zero _, OwnS.empty _ _ _ (Nat.le_refl _), (Below.refl _ _).alloc (Nat.le_refl _) _⟩
    case round =>
      obtain ⟨acc, q, hq, rfl, hacc, hR, hown, hb⟩ := hrel
      have hbs := hb.size
      have C := Lib.hid (fun w => s_rv s q hs w)
      rcases hr : readVar s.data.toList q with _ | ⟨n, m⟩
      · have he := Lib.hid (hR.out.stop (frameAt_none hr))
        rw [hr] at C
        simp only [rvVal] at C
        clear hr
        by_cases hqs : q < s.size
        · go_wp2_with (go_at_call 107; refine (C.out _).mono ?_; rintro e w1 ⟨rfl, hb1⟩)
          go_ret2
          rw [he.out]
          exact ⟨⟨_, rfl, hown.below hb1 (Nat.le_refl _)⟩, hb.trans (hb1.mono hbs)⟩
        · go_wp2_with fail
          go_ret2
          rw [he.out]
          exact ⟨⟨_, rfl, hown⟩, hb⟩
      · have hcan := readVar_canon hr
        obtain ⟨hm1, hm2, -⟩ := hcan
        obtain ⟨hn, -⟩ := readVar_bounds hr
        rw [HL.out] at hm2
        have hqs : q < s.size := by omega
        by_cases h3 : (n : Int) ≤ s.size - m - 4
        · obtain ⟨t, ht⟩ : ∃ t, s.extract (m + 4) (m + 4 + n) = t := ⟨_, rfl⟩
          obtain ⟨u, hu⟩ : ∃ u, s.extract q (m + 4 + n) = u := ⟨_, rfl⟩
          have c1 := fun wx => cut_str (P := Try.prog) Try.underlying9 s ((m : Int) + 4) ((m : Int) + 4 + n) (m + 4) (m + 4 + n) (by omega) (by omega) (by omega) (by omega) wx
          have c2 := fun wx => cut_str (P := Try.prog) Try.underlying9 s (q : Int) ((m : Int) + 4 + n) q (m + 4 + n) rfl (by omega) (by omega) (by omega) wx
          have htz : t.size = n := by rw [← ht, ByteArray.size_extract]; omega
          have hts : t.size ≤ 1048576 := by rw [htz]; omega
          obtain ⟨ht', hbool⟩ := frameS_eq hr (by omega) ht hu
          simp only [ht] at c1
          simp only [hu] at c2
          rw [hr] at C
          simp only [rvVal] at C
          by_cases h1 : 1 ≤ n ∧ n ≤ 9000
          · have C2 := Lib.hid (fun w => sFrame_yes t (by rw [htz]; exact h1) w)
            by_cases hh : (s.data.toList.drop m).take 4 = crc4 ((s.data.toList.drop (m + 4)).take n)
            · rw [decide_eq_true hh] at hbool
              have hF := frameAt_yes hr ⟨h1.1, h1.2, by rw [HL.out]; omega, hh⟩
              rw [← ht'] at hF
              have hR' := Lib.hid (hR.out.more hF)
              have hal : (acc.map txt).length ≤ 20000 := by have := hacc.out; rw [List.length_map]; omega
              have hacc' : (acc ++ [t.data.toList]).length ≤ m + 4 + n := by have := hacc.out; rw [List.length_append, List.length_singleton]; omega
              have HA := Lib.hid hacc'
              clear hr hR hF hh ht hu ht' htz hts hacc hacc'
              go_wp2_with (first
                | (go_at_call 107; refine (C.out _).mono ?_; rintro e w1 ⟨rfl, hb1⟩; have hown1 := hown.below hb1 (Nat.le_refl _); have hbb := hb.trans (hb1.mono hbs); have hbbs := hbb.size)
                | (go_at_call 80; refine (C2.out _).mono ?_; rintro e w2 ⟨rfl, hb2⟩; have hown2 := hown1.below hb2 (Nat.le_refl _); have hbb2 := hbb.trans (hb2.mono hbbs); have hbbs2 := hbb2.size)
                | (at_builtin; refine wpList_push_strs _ _ rfl _ _ 56 rfl 9 Try.underlying56 Try.infoStr _ _ (acc.map txt) rfl hown2 _ [t] rfl 1 1 rfl _ rfl rfl (by omega) hbbs2 rfl ?_; intro v1 w3 hown3 hg3 hb3))
              refine ⟨⟨acc ++ [t.data.toList], m + 4 + n, by omega, by go_num, HA.out, hR'.out, by rw [List.map_append, List.map_singleton, txt_toList]; exact hown3, hbb2.trans hb3⟩, by simp [intOf]; omega⟩
            · rw [decide_eq_false hh] at hbool
              have hF := frameAt_no hr (fun x => hh x.2.2.2)
              have he := Lib.hid (hR.out.stop hF)
              clear hr hR hF hh ht hu ht' htz hts hacc
              go_wp2_with (first
                | (go_at_call 107; refine (C.out _).mono ?_; rintro e w1 ⟨rfl, hb1⟩; have hown1 := hown.below hb1 (Nat.le_refl _); have hbb := hb.trans (hb1.mono hbs); have hbbs := hbb.size)
                | (go_at_call 80; refine (C2.out _).mono ?_; rintro e w2 ⟨rfl, hb2⟩; have hown2 := hown1.below hb2 (Nat.le_refl _); have hbb2 := hbb.trans (hb2.mono hbbs); have hbbs2 := hbb2.size))
              go_ret2
              rw [he.out]
              exact ⟨⟨_, rfl, hown2⟩, hbb2⟩
          · have C2 := Lib.hid (fun w => sFrame_no t (by rw [htz]; exact h1) hts w)
            have hF := frameAt_no hr (fun x => h1 ⟨x.1, x.2.1⟩)
            have he := Lib.hid (hR.out.stop hF)
            clear hr hR hF ht hu ht' htz hts hacc hbool h1
            go_wp2_with (first
              | (go_at_call 107; refine (C.out _).mono ?_; rintro e w1 ⟨rfl, hb1⟩; have hown1 := hown.below hb1 (Nat.le_refl _); have hbb := hb.trans (hb1.mono hbs); have hbbs := hbb.size)
              | (go_at_call 80; refine (C2.out _).mono ?_; rintro e w2 ⟨rfl, rfl⟩))
            go_ret2
            rw [he.out]
            exact ⟨⟨_, rfl, hown1⟩, hbb⟩
        · have hF := frameAt_no hr (fun x => h3 (by have := x.2.2.1; rw [HL.out] at this; omega))
          have he := Lib.hid (hR.out.stop hF)
          rw [hr] at C
          simp only [rvVal] at C
          clear hr hF
          go_wp2_with (go_at_call 107; refine (C.out _).mono ?_; rintro e w1 ⟨rfl, hb1⟩)
          go_ret2
          rw [he.out]
          exact ⟨⟨_, rfl, hown.below hb1 (Nat.le_refl _)⟩, hb.trans (hb1.mono hbs)⟩
  · rw [unframeL_no (by omega)]
    go_enter Try.func86, Try.ntmps86
    go_wp2_with fail
    go_ret2
    exact ⟨⟨_, rfl, OwnS.empty _ _ _ (Nat.le_refl _)⟩, (Below.refl _ _).alloc (Nat.le_refl _) _⟩

end Go.Proofs.Ytdecehecjlbbiaa
