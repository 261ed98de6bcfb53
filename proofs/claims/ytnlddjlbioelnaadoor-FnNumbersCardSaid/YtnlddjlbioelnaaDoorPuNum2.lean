/-
  Plain law: what the law on numbers compares. No program in sight.
-/
import Derived.Test.YtnlddjlbioelnaaDoorPuNum
import Derived.Test.YtnlddjlbioelnaaDoorPuReadD
import Derived.Test.YtnlddjlbioelnaaDoorPuUnhex
import Derived.Test.YtnlddjlbioelnaaDoorPuSeal
namespace Go.Proofs.YtnlddjlbioelnaaDoor

theorem num_pack {n : Nat} (h : n ≤ 1000000000) : ∃ vs ds : ByteArray, vs.size ≤ 5 ∧ ds.size ≤ 10 ∧ txt (varL n) = vs ∧ txt (Lib.itoa (n : Int)) = ds ∧
    rvVal (readVar ((⟨#[120]⟩ : ByteArray) ++ vs ++ (⟨#[121]⟩ : ByteArray)).data.toList 1) = .tuple #[.int .i64 n, .int .i64 ((vs.size : Int) + 1), .bool true] ∧ rdV (readDec ds.data.toList) = .tuple #[.int .i64 n, .bool true] := by
  refine ⟨_, _, ?_, ?_, rfl, rfl, ?_, ?_⟩
  · rw [txt_size]; exact varL_len5 h
  · rw [txt_size, itoa_nat]; exact digits_len h
  · have e : ((⟨#[120]⟩ : ByteArray) ++ txt (varL n) ++ (⟨#[121]⟩ : ByteArray)).data.toList = 120 :: (varL n ++ [121]) := by simp [txt_data]
    rw [e, readVar_back h, txt_size]
    show Value.tuple #[.int .i64 n, .int .i64 ((1 + (varL n).length : Nat) : Int), .bool true] = _
    rw [show ((1 + (varL n).length : Nat) : Int) = ((varL n).length : Int) + 1 by push_cast; omega]
  · rw [txt_data, itoa_nat, readDec_digits h]; rfl
theorem text_pack (t : ByteArray) (h : t.size ≤ 300) : ∃ ss hs : ByteArray, ss.size ≤ 400 ∧ hs.size ≤ 600 ∧ txt (varL t.size ++ t.data.toList) = ss ∧ txt (hexL t.data.toList) = hs ∧
    rsVal (readShort ss.data.toList 0) = .tuple #[.string t, .int .i64 ss.size, .bool true] ∧ optTxt (unhexAll hs.data.toList) = .tuple #[.string t, .bool true] := by
  have hl : t.data.toList.length = t.size := by rw [Array.length_toList]; rfl
  have h5 := varL_len5 (n := t.size) (by omega)
  refine ⟨_, _, ?_, ?_, rfl, rfl, ?_, ?_⟩
  · rw [txt_size, List.length_append]; omega
  · rw [txt_size, hexL_length]; omega
  · rw [txt_data, ← hl, readShort_back (by omega), txt_size, List.length_append]
    show Value.tuple #[.string (txt t.data.toList), .int .i64 (((varL t.data.toList.length).length + t.data.toList.length : Nat) : Int), .bool true] = _
    rw [txt_toList]
  · rw [txt_data]
    unfold unhexAll
    rw [if_pos (by rw [hexL_length]; omega), unhexL_hexL]
    show Value.tuple #[.string (txt t.data.toList), .bool true] = _
    rw [txt_toList]

end Go.Proofs.YtnlddjlbioelnaaDoor
