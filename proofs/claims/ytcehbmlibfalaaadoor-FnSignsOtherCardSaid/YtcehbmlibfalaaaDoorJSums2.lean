/-
  The walks of sealed texts, on both sides.
-/
import Derived.Test.YtcehbmlibfalaaaDoorJSums1
import Derived.Test.YtcehbmlibfalaaaDoorBase4
import Derived.Test.YtcehbmlibfalaaaDoorJBits
namespace Go.Proofs.YtcehbmlibfalaaaDoor
open Go.RowKit

theorem Tryd.infoU8s : (Tryd.prog.info? 5).map (fun i => (i.zero, i.size, i.bytes)) = some (some (.int .u8 0), 1, 1) := by kernel_rfl

/-- A []byte that has just been built, as a string. -/
theorem built_txt {P : Program} {src e dst : TypeId} (hs : P.underlying src = some (.slice e)) (he : P.underlying e = some (.int .u8)) (hd : P.underlying dst = some .string) (w : World) (xs : List Value) (l : List UInt8) (hx : xs = u8s l) (m c : Nat) (hm : l.length = m) (ei : TypeId) :
    (convert src dst (.slice (some ⟨w.heap.size, 0, none⟩) m c)).run P (w.alloc (.cells xs.toArray ei)) = .ok (.string (txt l)) (w.alloc (.cells xs.toArray ei)) := by
  subst hm; subst hx
  refine run_convert_bytes_back _ src dst e ⟨w.heap.size, 0, none⟩ c l hs he hd (fun j hj => ?_)
  rw [Addr.add_lit, Nat.zero_add]
  have e1 : (w.alloc (.cells (u8s l).toArray ei)).cell? ⟨w.heap.size, j, none⟩ = _ := World.cell?_alloc_new w _ _ j
  rw [e1, List.getElem?_toArray, u8s_get, List.getElem?_eq_getElem hj]
  rfl

theorem u8_cell4 {n m o q : Int} {a b c d : UInt8} (h1 : n = (a.toNat : Int)) (h2 : m = (b.toNat : Int)) (h3 : o = (c.toNat : Int)) (h4 : q = (d.toNat : Int)) :
    [Value.int .u8 n, Value.int .u8 m, Value.int .u8 o, Value.int .u8 q] = u8s [a, b, c, d] := by rw [h1, h2, h3, h4]; rfl

theorem be32_cells (n : Nat) (hn : n < 4294967296) : [Value.int .u8 ((n : Int) / 16777216), Value.int .u8 ((n : Int) / 65536 % 256), Value.int .u8 ((n : Int) / 256 % 256), Value.int .u8 ((n : Int) % 256)] = u8s (be32 n) :=
  u8_cell4 (by rw [ofNat_mod]; omega) (by rw [ofNat_mod]; omega) (by rw [ofNat_mod]; omega) (by rw [ofNat_mod])

theorem fourBytes_any (n : Nat) (hn : n < 4294967296) (w : World) :
    Calls Tryd.prog 84 #[.int .u32 n] w fun e w' => e = .returned (.string (txt (be32 n))) ∧ Below w.heap.size w w' := by
  have hc := built_txt (P := Tryd.prog) Tryd.underlying32 Tryd.underlying5 Tryd.underlying9 w _ _ (be32_cells n hn) 4 4 rfl 5
  go_enter Tryd.func84, Tryd.ntmps84
  go_wp2_with fail
  go_ret
  exact ⟨rfl, (Below.refl _ _).alloc (Nat.le_refl _) _⟩

theorem fourBytes_int (n : Int) (h0 : 0 ≤ n) (h1 : n < 4294967296) (w : World) :
    Calls Tryd.prog 84 #[.int .u32 n] w fun e w' => e = .returned (.string (txt (be32 n.toNat))) ∧ Below w.heap.size w w' := by
  obtain ⟨m, rfl⟩ := Int.eq_ofNat_of_zero_le h0
  rw [Int.toNat_natCast]
  exact fourBytes_any m (by omega) w

theorem optTxt_none : optTxt none = .tuple #[.string ⟨#[]⟩, .bool false] := rfl
theorem unsealL_out (s : ByteArray) (h : s.size < 4 ∨ 20004 < s.size) : optTxt (unsealL s.data.toList) = .tuple #[.string ⟨#[]⟩, .bool false] := by
  have hl : s.data.toList.length = s.size := by rw [Array.length_toList]; rfl
  rw [unsealL, if_neg (by omega)]; rfl
theorem unsealL_yes (s : ByteArray) (h : 4 ≤ s.size ∧ s.size ≤ 20004) (hh : s.data.toList.drop (s.size - 4) = crc4 (s.data.toList.take (s.size - 4))) : optTxt (unsealL s.data.toList) = .tuple #[.string (s.extract 0 (s.size - 4)), .bool true] := by
  have hl : s.data.toList.length = s.size := by rw [Array.length_toList]; rfl
  rw [unsealL, hl, if_pos ⟨h.1, h.2, hh⟩, extract_txt]; simp [optTxt]
theorem unsealL_no (s : ByteArray) (hh : ¬ s.data.toList.drop (s.size - 4) = crc4 (s.data.toList.take (s.size - 4))) : optTxt (unsealL s.data.toList) = .tuple #[.string ⟨#[]⟩, .bool false] := by
  have hl : s.data.toList.length = s.size := by rw [Array.length_toList]; rfl
  rw [unsealL, hl, if_neg (fun h => hh h.2.2)]; rfl
theorem unsealL_test (s : ByteArray) : ((s.extract (s.size - 4) s.size).toList == (txt (be32 (sumL 4294967295 (s.data.toList.take (s.size - 4))))).toList) = decide (s.data.toList.drop (s.size - 4) = crc4 (s.data.toList.take (s.size - 4))) := by
  rw [same_bytes, extract_from, txt_data]
  show (_ == crc4 _) = _
  by_cases h : s.data.toList.drop (s.size - 4) = crc4 (s.data.toList.take (s.size - 4))
  · rw [decide_eq_true h]; simpa using h
  · rw [decide_eq_false h]; simpa using h

end Go.Proofs.YtcehbmlibfalaaaDoor
