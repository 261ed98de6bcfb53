/-
  The walk of the laws' comparison of disks, where they are the same.
-/
import Derived.Test.YtdecehecjlbbiaaJKeep1
namespace Go.Proofs.Ytdecehecjlbbiaa
open Go.RowKit

set_option maxHeartbeats 2000000 in
theorem sameDisk_any (v1 v2 : Value) (l : List Fl) (w : World) (hl : l.length ≤ 1048576) (h1 : RdK w v1 l) (h2 : RdK w v2 l) :
    Calls Try.prog 35 #[v1, v2] w fun e w' => e = .returned (.bool true) ∧ Below w.heap.size w w' := by
  obtain ⟨a1, c1, rfl, r1⟩ := h1
  obtain ⟨a2, c2, rfl, r2⟩ := h2
  have hz1 := alloc_size w (.cells #[.slice a1 l.length c1] 29)
  have hz2 := alloc_size (w.alloc (.cells #[.slice a1 l.length c1] 29)) (.cells #[.slice a2 l.length c2] 29)
  have hB := ((Below.refl w.heap.size w).alloc (Nat.le_refl _) (.cells #[.slice a1 l.length c1] 29)).alloc (by omega) (.cells #[.slice a2 l.length c2] 29)
  have b1 := (Blk.new w 29 [.slice a1 l.length c1] _ rfl).alloc (.cells #[.slice a2 l.length c2] 29)
  have b2 := Blk.new (w.alloc (.cells #[.slice a1 l.length c1] 29)) 29 [.slice a2 l.length c2] _ rfl
  rw [hz1] at b2
  have hz : ((w.alloc (.cells #[.slice a1 l.length c1] 29)).alloc (.cells #[.slice a2 l.length c2] 29)).heap.size = w.heap.size + 2 := by omega
  have R1 := Lib.hid (fun W hW => (r1.below hB (Nat.le_refl _)).below (C := w.heap.size + 2) (w' := W) hW (by rw [hz]; exact Nat.le_refl _))
  have R2 := Lib.hid (fun W hW => (r2.below hB (Nat.le_refl _)).below (C := w.heap.size + 2) (w' := W) hW (by rw [hz]; exact Nat.le_refl _))
  have HB := Lib.hid hB
  have B1 := Lib.hid b1
  have B2 := Lib.hid b2
  have HZ := Lib.hid hz
  have hne : ((l.length : Int) != (l.length : Int)) = false := by simp
  clear r1 r2 hz1 hz2 hB b1 b2 hz
  go_enter Try.func35, Try.ntmps35
  go_wp2_with fail
  generalize (w.alloc (.cells #[.slice a1 l.length c1] 29)).alloc (.cells #[.slice a2 l.length c2] 29) = W0 at *
  go_loopw [5] (fun i wr => ∃ k : Nat, k ≤ l.length ∧ i = .int .i64 k ∧ Below (w.heap.size + 2) W0 wr) (fun i _ => l.length - (intOf i).toNat)
  case atStart => exact ⟨0, Nat.zero_le _, rfl, Below.refl _ _⟩
  case round =>
    obtain ⟨k, hk, rfl, hb⟩ := hrel
    have c1 := (Blk.below B1.out hb (by omega)).cell 0
    have c2 := (Blk.below B2.out hb (by omega)).cell 0
    simp only [List.getElem?_cons_zero] at c1 c2
    by_cases hlt : k < l.length
    · obtain ⟨x, hx⟩ : ∃ x, l[k]? = some x := ⟨_, List.getElem?_eq_getElem hlt⟩
      obtain ⟨b, o, rfl, p0, p1, p2⟩ := (R1.out _ hb).at_ k x hx
      obtain ⟨b', o', rfl, q0, q1, q2⟩ := (R2.out _ hb).at_ k x hx
      obtain ⟨xa, xb, xn⟩ := x
      simp only at p0 p1 p2 q0 q1 q2
      have i0 : (0 : Int) ≤ (k : Int) := Int.natCast_nonneg _
      have i1 : (k : Int) < (l.length : Int) := by omega
      have e0 : (xa.toList == xa.toList) = true := beq_self_eq_true _
      have e1 : (xb.toList == xb.toList) = true := beq_self_eq_true _
      clear hx
      go_wp2_with fail
      go_quiet (fail)
      go_wp2_with fail
      exact ⟨⟨k + 1, by omega, by go_num, bDrewN hb _⟩, by simp [intOf]; omega⟩
    · obtain rfl : k = l.length := by omega
      have HF := Lib.hid (HB.out.trans (hb.mono (by have := HZ.out; omega)))
      clear hb
      go_wp2_with fail
      go_ret
      exact ⟨rfl, HF.out⟩

end Go.Proofs.Ytdecehecjlbbiaa
