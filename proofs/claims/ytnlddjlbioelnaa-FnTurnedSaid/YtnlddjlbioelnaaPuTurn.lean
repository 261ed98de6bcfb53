/-
  Plain law: a text with one byte changed. No program in sight.
-/
import Derived.Test.YtnlddjlbioelnaaPuDraw2
import Derived.Test.YtnlddjlbioelnaaPuHex
namespace Go.Proofs.Ytnlddjlbioelnaa
open Go.RowKit

theorem u8_xor_ne {z x : Nat} (hz : z < 256) (hx0 : 0 < x) (hx : x < 256) : ∃ y : Nat, y < 256 ∧ y ≠ z ∧ bits BinOp.xor IntKind.u8 (z : Int) (x : Int) = (y : Int) := by
  refine ⟨z ^^^ x, Nat.xor_lt_two_pow (n := 8) hz hx, fun h => ?_, u8_xor_nat z x hz hx⟩
  have h2 : z ^^^ (z ^^^ x) = z ^^^ z := by rw [h]
  rw [← Nat.xor_assoc, Nat.xor_self, Nat.zero_xor] at h2
  omega

theorem padL_inj {l m : List UInt8} (hl : l.length = m.length) (h : padL l = padL m) : l = m := by
  have e : ∀ k : List UInt8, (padL k).take k.length = k := by
    intro k
    unfold padL
    rw [List.append_assoc, List.append_assoc]
    exact List.take_left' rfl
  rw [← e l, ← e m, h, hl]

/-- The world under a name. -/
theorem wp_named {P : Program} {c : Code} {Q : Exit → Act → World → Prop} {a : Act} {W : World} (S : World → Prop) (hS : S W) (h : ∀ W', S W' → Code.wp P c Q a W') : Code.wp P c Q a W := h W hS
theorem Own.cell_at {w : World} {B g n cap : Nat} {cs : List Value} (h : Own w B 1 (.slice (some ⟨g, 0, none⟩) n cap) n cs) (j : Nat) (hj : j < n) : w.cell? ⟨g, j, none⟩ = cs[j]? := by
  rcases h with ⟨h0, _⟩ | ⟨g', cap', he, hB, r⟩
  · cases h0
  · cases he
    exact r.holds j (by omega)
theorem u8s_set (l : List UInt8) (i : Nat) (y : Nat) (hy : y < 256) : (u8s l).set i (.int .u8 (y : Int)) = u8s (l.set i (UInt8.ofNat y)) := by
  unfold u8s
  rw [List.map_set, ofNat_mod]
  congr 2
  omega

/-- Another string of the same size. -/
def Turned (s t : ByteArray) : Prop := t.size = s.size ∧ t ≠ s
theorem turned_of {s : ByteArray} {i : Nat} (hi : i < s.size) {b : UInt8} (hb : b ≠ s[i]) : Turned s (txt (s.data.toList.set i b)) := by
  have hl : s.data.toList.length = s.size := by simp
  refine ⟨by rw [txt_size, List.length_set, hl], fun h => hb ?_⟩
  have h1 : s.data.toList.set i b = s.data.toList := by
    have := congrArg (fun x : ByteArray => x.data.toList) h
    simpa [txt] using this
  have h2 : (s.data.toList.set i b)[i]? = s.data.toList[i]? := by rw [h1]
  rw [List.getElem?_set_self (by omega), List.getElem?_eq_getElem (by omega)] at h2
  have h3 := Option.some.inj h2
  rw [h3]
  simp
  rfl

end Go.Proofs.Ytnlddjlbioelnaa
