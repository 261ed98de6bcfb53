/-
  The walk of the draws' long text.
-/
import Derived.Test.YtdecehecjlbbiaaBase7
import Derived.Test.YtdecehecjlbbiaaJStrs1
namespace Go.Proofs.Ytdecehecjlbbiaa
open Go.RowKit

theorem set_take {cs : List Value} {k : Nat} {x : Value} (hk : k < cs.length) : (cs.set k x).take (k + 1) = cs.take k ++ [x] := by
  rw [List.take_add_one, List.take_set_of_le (Nat.le_refl _), List.getElem?_set_self hk]
  rfl

set_option maxHeartbeats 1000000 in
theorem l01Long_any (N x : Nat) (hN : N ≤ 1000000) (hx : x < 256) (w : World) :
    Calls Try.prog 116 #[.int .i64 N, .int .u8 x] w fun e w' => (∃ s : ByteArray, s.size = N ∧ e = .returned (.string s)) ∧ Below w.heap.size w w' := by
  obtain ⟨i0, hi, hz0, hz1, hz2⟩ := info_parts Try.infoU8s
  have Hi := Lib.hid (And.intro hi (And.intro hz0 (And.intro hz1 hz2)))
  have hcell : [Value.int .u8 (x : Int)] = u8s [UInt8.ofNat x] := u8_cell (by rw [ofNat_mod]; omega)
  have HC := Lib.hid hcell
  clear hi hz0 hz1 hz2 hcell
  go_enter Try.func116, Try.ntmps116
  go_wp2_with (at_make; refine wpList_make_full _ rfl _ _ 44 rfl w.heap.size 5 i0 _ 1 Try.underlying44 Hi.out.1 Hi.out.2.1 Hi.out.2.2.1 .i64 .i64 _ _ N rfl rfl rfl rfl (by rw [Hi.out.2.2.2]; omega) (by unfold maxLen; omega) (Nat.le_refl _) ?_; intro w1 hown hg)
  have hown := Own.of_ownsRow hown
  have hb1 : Below w.heap.size w w1 := (Below.refl _ w).grown hg (Nat.le_refl _) (fun k h => by cases h)
  clear hg
  generalize hgg : w.heap.size = g at *
  have Hg := Lib.hid hgg
  clear hgg
  go_loopw [6] (fun i wr => ∃ (k : Nat) (cs : List Value), k ≤ N ∧ i = .int .i64 k ∧ Own wr g 1 (.slice (some ⟨g, 0, none⟩) N N) N cs ∧ Hid (cs.take k = u8s (List.replicate k (UInt8.ofNat x))) ∧ Below g w wr) (fun i _ => N - (intOf i).toNat)
  case atStart => exact ⟨0, _, Nat.zero_le _, rfl, hown, Lib.hid (by simp [u8s]), hb1⟩
  case round =>
    clear hown hb1
    obtain ⟨k, cs, hk, rfl, hown, HT, hb⟩ := hrel
    by_cases hlt : k < N
    · obtain ⟨⟨u, hu⟩, hf⟩ := hown.at1 k hlt
      have Ho := Lib.hid hown
      have Hb := Lib.hid hb
      clear hown hb
      go_wp2_with fail
      refine ⟨⟨k + 1, _, by omega, by go_num, Ho.out.store1 k hlt _, ?_, Hb.out.setCell (Nat.le_refl _) _⟩, by simp [intOf]; omega⟩
      refine Lib.hid ?_
      rw [set_take (by rw [Ho.out.len]; omega), HT.out, HC.out, ← u8s_append, List.replicate_succ']
    · obtain rfl : k = N := by omega
      have he : cs = u8s (List.replicate k (UInt8.ofNat x)) := by rw [← HT.out, List.take_of_length_le (by rw [hown.len]; omega)]
      have ho : OwnB wr g (.slice (some ⟨g, 0, none⟩) k k) (List.replicate k (UInt8.ofNat x)) := by
        unfold OwnB
        rw [List.length_replicate, ← he]
        exact hown
      have hc := OwnB.text (P := Try.prog) ho 44 9 5 Try.underlying44 Try.underlying5 Try.underlying9
      have Hb := Lib.hid hb
      clear ho he hown HT hb
      go_wp2_with fail
      go_ret
      exact ⟨⟨_, by rw [txt_size, List.length_replicate], rfl⟩, by rw [Hg.out]; exact Hb.out⟩

end Go.Proofs.Ytdecehecjlbbiaa
