/-
  The walks of sealed texts, on both sides.
-/
import Derived.Test.YtnlddjlbioelnaaSums1
import Derived.Test.YtnlddjlbioelnaaPuSeal
import Derived.Test.YtnlddjlbioelnaaBits
namespace Go.Proofs.Ytnlddjlbioelnaa
open Go.RowKit

theorem Try.infoU8s : (Try.prog.info? 5).map (fun i => (i.zero, i.size, i.bytes)) = some (some (.int .u8 0), 1, 1) := by kernel_rfl

/-- A []byte that has just been built, as a string. -/
theorem built_txt {P : Program} {src e dst : TypeId} (hs : P.underlying src = some (.slice e)) (he : P.underlying e = some (.int .u8)) (hd : P.underlying dst = some .string) (w : World) (xs : List Value) (l : List UInt8) (hx : xs = u8s l) (m c : Nat) (hm : l.length = m) (ei : TypeId) :
    (convert src dst (.slice (some ⟨w.heap.size, 0, none⟩) m c)).run P (w.alloc (.cells xs.toArray ei)) = .ok (.string (txt l)) (w.alloc (.cells xs.toArray ei)) := by
  subst hm; subst hx
  refine run_convert_bytes_back _ src dst e ⟨w.heap.size, 0, none⟩ c l hs he hd (fun j hj => ?_)
  rw [Addr.add_lit, Nat.zero_add]
  have e1 : (w.alloc (.cells (u8s l).toArray ei)).cell? ⟨w.heap.size, j, none⟩ = _ := World.cell?_alloc_new w _ _ j
  rw [e1, List.getElem?_toArray, u8s_get, List.getElem?_eq_getElem hj]
  rfl

theorem u8_cell4 {n m o q : Int} {a b c d : UInt8} (h1 : n = (a.toNat : Int)) (h2 : m = (b.toNat : Int)) (h3 : o = (c.toNat : Int)) (h4 : q = (d.toNat : Int)) :
    [Value.int .u8 n, Value.int .u8 m, Value.int .u8 o, Value.int .u8 q] = u8s [a, b, c, d] := by rw [h1, h2, h3, h4]; rfl

theorem be32_cells (n : Nat) (hn : n < 4294967296) : [Value.int .u8 ((n : Int) / 16777216), Value.int .u8 ((n : Int) / 65536 % 256), Value.int .u8 ((n : Int) / 256 % 256), Value.int .u8 ((n : Int) % 256)] = u8s (be32 n) :=
  u8_cell4 (by rw [ofNat_mod]; omega) (by rw [ofNat_mod]; omega) (by rw [ofNat_mod]; omega) (by rw [ofNat_mod])

theorem fourBytes_any (n : Nat) (hn : n < 4294967296) (w : World) :
    Calls Try.prog 32 #[.int .u32 n] w fun e w' => e = .returned (.string (txt (be32 n))) ∧ Below w.heap.size w w' := by
  have hc := built_txt (P := Try.prog) Try.underlying22 Try.underlying5 Try.underlying9 w _ _ (be32_cells n hn) 4 4 rfl 5
  go_enter Try.func32, Try.ntmps32
  go_wp2_with fail
  go_ret
  exact ⟨rfl, (Below.refl _ _).alloc (Nat.le_refl _) _⟩

theorem fourBytes_int (n : Int) (h0 : 0 ≤ n) (h1 : n < 4294967296) (w : World) :
    Calls Try.prog 32 #[.int .u32 n] w fun e w' => e = .returned (.string (txt (be32 n.toNat))) ∧ Below w.heap.size w w' := by
  obtain ⟨m, rfl⟩ := Int.eq_ofNat_of_zero_le h0
  rw [Int.toNat_natCast]
  exact fourBytes_any m (by omega) w

theorem iSealed_yes (s : ByteArray) (hs : s.size ≤ 20000) (w : World) :
    Calls Try.prog 10 #[.string s] w fun e w' => e = .returned (.tuple #[.string (txt (sealL s.data.toList)), .bool true]) ∧ Below w.heap.size w w' := by
  have hx := crc_lt s.data.toList
  have hv : (txt (be32 (crc s.data.toList))).size ≤ 4 := by rw [txt_size]; exact Nat.le_refl _
  go_enter Try.func10, Try.ntmps10
  go_wp2_with (first | (go_at_call 13; refine (iSumOf_any s (by omega) _).mono ?_; rintro e w' ⟨rfl, rfl⟩) | (go_at_call 32; refine (fourBytes_any (crc s.data.toList) hx _).mono ?_; rintro e w1 ⟨rfl, hb1⟩))
  go_ret2
  exact ⟨by rw [sealL, crc4, ← join_txt]; rfl, hb1⟩
theorem iSealed_no (s : ByteArray) (hs : ¬ s.size ≤ 20000) (hs' : s.size ≤ 1048576) (w : World) :
    Calls Try.prog 10 #[.string s] w fun e w' => e = .returned (.tuple #[.string ⟨#[]⟩, .bool false]) ∧ w = w' := by
  go_enter Try.func10, Try.ntmps10
  go_wp2_with fail
  go_ret2
  exact ⟨rfl, rfl⟩

theorem optTxt_none : optTxt none = .tuple #[.string ⟨#[]⟩, .bool false] := rfl
theorem unsealL_out (s : ByteArray) (h : s.size < 4 ∨ 20004 < s.size) : optTxt (unsealL s.data.toList) = .tuple #[.string ⟨#[]⟩, .bool false] := by
  have hl : s.data.toList.length = s.size := by rw [Array.length_toList]; rfl
  rw [unsealL, if_neg (by omega)]; rfl
theorem unsealL_yes (s : ByteArray) (h : 4 ≤ s.size ∧ s.size ≤ 20004) (hh : s.data.toList.drop (s.size - 4) = crc4 (s.data.toList.take (s.size - 4))) : optTxt (unsealL s.data.toList) = .tuple #[.string (s.extract 0 (s.size - 4)), .bool true] := by
  have hl : s.data.toList.length = s.size := by rw [Array.length_toList]; rfl
  rw [unsealL, hl, if_pos ⟨h.1, h.2, hh⟩, extract_txt]; simp [optTxt]
theorem unsealL_no (s : ByteArray) (hh : ¬ s.data.toList.drop (s.size - 4) = crc4 (s.data.toList.take (s.size - 4))) : optTxt (unsealL s.data.toList) = .tuple #[.string ⟨#[]⟩, .bool false] := by
  have hl : s.data.toList.length = s.size := by rw [Array.length_toList]; rfl
  rw [unsealL, hl, if_neg (fun h => hh h.2.2)]; rfl
theorem unsealL_test (s : ByteArray) : ((s.extract (s.size - 4) s.size).toList == (txt (be32 (sumL 4294967295 (s.data.toList.take (s.size - 4))))).toList) = decide (s.data.toList.drop (s.size - 4) = crc4 (s.data.toList.take (s.size - 4))) := by
  rw [same_bytes, extract_from, txt_data]
  show (_ == crc4 _) = _
  by_cases h : s.data.toList.drop (s.size - 4) = crc4 (s.data.toList.take (s.size - 4))
  · rw [decide_eq_true h]; simpa using h
  · rw [decide_eq_false h]; simpa using h

theorem iUnsealed_out (s : ByteArray) (hs : s.size ≤ 1048576) (h : s.size < 4 ∨ 20004 < s.size) (w : World) :
    Calls Try.prog 11 #[.string s] w fun e w' => e = .returned (.tuple #[.string ⟨#[]⟩, .bool false]) ∧ Below w.heap.size w w' := by
  rcases h with h | h
  · go_enter Try.func11, Try.ntmps11
    go_wp2_with fail
    have d1 : decide ((s.size : Int) - 4 < 0) = true := decide_eq_true (by omega)
    go_quiet (fail)
    go_wp2_with fail
    go_ret2
    exact ⟨rfl, below_drewN (Below.refl _ _) _⟩
  · go_enter Try.func11, Try.ntmps11
    go_wp2_with fail
    have d1 : decide ((s.size : Int) - 4 < 0) = false := decide_eq_false (by omega)
    have d2 : decide ((20000 : Int) < (s.size : Int) - 4) = true := decide_eq_true (by omega)
    go_quiet (fail)
    go_wp2_with fail
    go_ret2
    exact ⟨rfl, below_drewN (Below.refl _ _) _⟩

set_option maxHeartbeats 1000000 in
set_option maxRecDepth 100000 in
theorem iUnsealed_in (s : ByteArray) (hs4 : (4 : Int) ≤ s.size) (hs5 : (s.size : Int) ≤ 20004) (w : World) (b : Bool) (he : (s.extract 0 (s.size - 4)).size ≤ 1048576)
    (hbool : ((s.extract (s.size - 4) s.size).toList == (txt (be32 (sumL 4294967295 (s.data.toList.take (s.size - 4))))).toList) = b) :
    Calls Try.prog 11 #[.string s] w fun e w' => e = .returned (if b then .tuple #[.string (s.extract 0 (s.size - 4)), .bool true] else .tuple #[.string ⟨#[]⟩, .bool false]) ∧ Below w.heap.size w w' := by
  have c1 := fun wx => cut_from (P := Try.prog) Try.underlying9 s ((s.size : Int) - 4) (s.size - 4) (by omega) (by omega) wx
  have c2 := fun wx => cut_to (P := Try.prog) Try.underlying9 s ((s.size : Int) - 4) (s.size - 4) (by omega) (by omega) wx
  have c3 : ((s.size : Int) - 4).toNat = s.size - 4 := by omega
  have he' : (s.extract 0 (s.size - 4)).size ≤ 1099511627776 := by omega
  have hcr' : (sumL 4294967295 (s.data.toList.take (s.size - 4)) : Int) < 4294967296 := by have := crc_lt (s.data.toList.take (s.size - 4)); unfold crc at this; omega
  cases b
  all_goals
    go_enter Try.func11, Try.ntmps11
    go_wp2_with fail
    have d1 : decide ((s.size : Int) - 4 < 0) = false := decide_eq_false (by omega)
    have d2 : decide ((20000 : Int) < (s.size : Int) - 4) = false := decide_eq_false (by omega)
    refine wp_region_quiet_below Try.checked.mixed (by kernel_rfl) ?_
    repeat (any_goals (first
      | go_big_quiet_step ((first | (go_at_call 13; exact Calls.regrown_of (below_of_same (iSumOf_any (s.extract 0 (s.size - 4)) he' _))) | (go_at_call 32; exact Calls.regrown_of (fourBytes_int _ (by omega) (by omega) _))))
      | quiet_step ((first | (go_at_call 13; exact Calls.regrown_of (below_of_same (iSumOf_any (s.extract 0 (s.size - 4)) he' _))) | (go_at_call 32; exact Calls.regrown_of (fourBytes_int _ (by omega) (by omega) _))))))
    refine wpQuiet_nil ?_
    intro _ hw'
    obtain ⟨⟨dq, osq⟩, hw''⟩ := hw'
    subst hw''
    clear d1 d2 hcr' he he' hbool c3
    go_wp2_with fail
    go_ret2
    exact ⟨rfl, below_regrown w dq osq⟩

theorem iUnsealed_any (s : ByteArray) (hs : s.size ≤ 1048576) (w : World) :
    Calls Try.prog 11 #[.string s] w fun e w' => e = .returned (optTxt (unsealL s.data.toList)) ∧ Below w.heap.size w w' := by
  by_cases h : s.size < 4 ∨ 20004 < s.size
  · rw [unsealL_out s h]; exact iUnsealed_out s hs h w
  · have he : (s.extract 0 (s.size - 4)).size ≤ 1048576 := by rw [ByteArray.size_extract]; omega
    have hi := iUnsealed_in s (by omega) (by omega) w _ he (unsealL_test s)
    by_cases hh : s.data.toList.drop (s.size - 4) = crc4 (s.data.toList.take (s.size - 4))
    · rw [decide_eq_true hh] at hi; rw [unsealL_yes s (by omega) hh]; exact hi
    · rw [decide_eq_false hh] at hi; rw [unsealL_no s hh]; exact hi

end Go.Proofs.Ytnlddjlbioelnaa
