/-
  The walks of the draw of a right disk, and of what the laws on disks compare.
-/
import Derived.Test.YtdecehecjlbbiaaJDoM
import Derived.Test.YtdecehecjlbbiaaJDraw2
import Derived.Test.YtdecehecjlbbiaaBase4
import Derived.Test.YtdecehecjlbbiaaJFile3
namespace Go.Proofs.Ytdecehecjlbbiaa
open Go.RowKit

def fileL : List ByteArray := [⟨#[97]⟩, ⟨#[98]⟩, ⟨#[99]⟩, ⟨#[106, 48]⟩, ⟨#[106, 49]⟩, ⟨#[106, 43]⟩, ⟨#[115, 48]⟩, ⟨#[115, 43]⟩]
theorem fileL_ok : ∀ s ∈ fileL, 1 ≤ s.size ∧ s.size ≤ 8 := by decide +kernel

set_option maxHeartbeats 1000000 in
theorem l06Named_any (w0 : World) (n g : Nat) (w : World) (h : Cur 114 w0 n w g) :
    Calls Try.prog 78 #[.pointer (some ⟨g, 0, none⟩)] w (DrawnS 114 (fun s => 1 ≤ s.size ∧ s.size ≤ 8) w0 n g w) := by
  have hgl := h.lt
  have C := Lib.hid (l01Pick_any w0 n g (some ⟨w.heap.size, 0, none⟩) 8 fileL (by decide) (by decide) _ (Cur.alloc h _) (rdC_new w (strC fileL) _ rfl 9) (fun b off e => by cases e; omega))
  clear h
  go_enter Try.func78, Try.ntmps78
  go_wp2_with fail
  refine C.out.mono ?_
  rintro e w1 ⟨⟨s, hs, rfl⟩, hc, hg⟩
  have Hs := Lib.hid (fileL_ok s hs)
  have Hc := Lib.hid hc
  have Hg := Lib.hid (grownBy_trans (grownBy_alloc' (World.grownBy.refl w (some g)) _) hg)
  clear hc hg hs
  go_wp2_with fail
  go_ret
  exact ⟨⟨_, Hs.out, rfl⟩, Hc.out, Hg.out⟩

theorem begins_any (a b : ByteArray) (h : Begins a b) (w : World) : Calls Try.prog 36 #[.string a, .string b] w fun e w' => e = .returned (.bool true) ∧ w = w' := by
  obtain ⟨h1, h2⟩ := h
  have hcut := fun wx => cut_to (P := Try.prog) Try.underlying9 b (a.size : Int) a.size (by omega) (by omega) wx
  rw [h2] at hcut
  have e : (a.toList == a.toList) = true := beq_self_eq_true _
  have e2 : (a.size : Int) ≤ (b.size : Int) := by omega
  clear h2
  go_enter Try.func36, Try.ntmps36
  go_wp2_with fail
  go_ret
  exact ⟨rfl, rfl⟩

set_option maxHeartbeats 1000000 in
theorem lefts_any (ao : Option Addr) (cap : Nat) (l : List Int) (hl : 6 ≤ l.length) (hx : ∀ x ∈ l, 0 ≤ x ∧ x ≤ 9999) (w : World) (hr : RdI w ao l) :
    Calls Try.prog 33 #[.slice ao l.length cap] w fun e w' => (∃ v m, e = .returned v ∧ OwnI w' w.heap.size v m ∧ m.length ≤ 6) ∧ Below w.heap.size w w' := by
  have R := Lib.hid hr
  have HX := Lib.hid hx
  clear hr hx
  go_enter Try.func33, Try.ntmps33
  go_wp2_with fail
  have ho := OwnI.empty w w.heap.size 3 (Nat.le_refl _)
  have hb0 := (Below.refl w.heap.size w).alloc (Nat.le_refl _) (.cells #[] 3)
  go_loopw [3, 4] (fun v i wr => ∃ (k : Nat) (m : List Int), k ≤ 6 ∧ i = .int .i64 k ∧ m.length ≤ k ∧ OwnI wr w.heap.size v m ∧ Below w.heap.size w wr) (fun _ i _ => 6 - (intOf i).toNat)
  case atStart => exact ⟨0, [], Nat.zero_le _, rfl, Nat.le_refl _, ho, hb0⟩
  case round =>
    clear ho hb0
    obtain ⟨k, m, hk, rfl, hm, hown, hb⟩ := hrel
    by_cases hlt : k < 6
    · obtain ⟨x, hx⟩ : ∃ x, l[k]? = some x := ⟨_, List.getElem?_eq_getElem (by omega)⟩
      obtain ⟨x0, x1⟩ := HX.out x (List.mem_of_getElem? hx)
      obtain ⟨b, off, rfl, hc⟩ := (R.out.below hb (Nat.le_refl _)).at_ k x hx
      have hkl : k < l.length := by omega
      have hs := hb.size
      have Hb := Lib.hid hb
      clear hx hb
      go_wp2_with (at_builtin; go_loud (refine wpList_push_ints _ _ rfl _ _ 36 rfl 3 Try.underlying36 Try.infoInt _ _ _ rfl hown _ [x % 300] rfl 1 1 rfl _ rfl rfl (by omega) (by omega) rfl ?_; intro v4 w4 hown4 hg4 hb4))
      exact ⟨⟨k + 1, m ++ [x % 300], by omega, by go_num, by simp; omega, hown4, Hb.out.trans hb4⟩, by simp [intOf]; omega⟩
    · go_wp2_with fail
      go_ret
      exact ⟨⟨_, m, rfl, hown, by omega⟩, hb⟩

end Go.Proofs.Ytdecehecjlbbiaa
