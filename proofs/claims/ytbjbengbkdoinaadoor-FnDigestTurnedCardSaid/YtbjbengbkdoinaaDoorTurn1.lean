/-
  The walk of a text with one byte changed.
-/
import Derived.Test.YtbjbengbkdoinaaDoorDraw2
import Derived.Test.YtbjbengbkdoinaaDoorPuTurn
namespace Go.Proofs.YtbjbengbkdoinaaDoor
open Go.RowKit

/-- Another string of the same size is handed back. -/
def HasTurned (s : ByteArray) (w : World) (e : Ending) (w' : World) : Prop := (∃ t, Turned s t ∧ e = .returned (.string t)) ∧ Below w.heap.size w w'

set_option maxHeartbeats 2000000 in
theorem turned_any (s : ByteArray) (h0 : 0 < s.size) (hs : s.size ≤ 1048576) (ao : Option Addr) (cap : Nat) (l : List Int) (hl : l.length = 12) (hx : ∀ x ∈ l, 0 ≤ x ∧ x ≤ 9999) (w : World) (hr : RdI w ao l) :
    Calls Tryd.prog 32 #[.string s, .slice ao l.length cap] w (HasTurned s w) := by
  have kc := fun wx => run_bytes_of_string (P := Tryd.prog) wx 9 33 5 s Tryd.underlying9 Tryd.underlying33 Tryd.underlying5
  have hown := OwnB.ofString w w.heap.size s 5 (Nat.le_refl _) (by unfold maxLen; omega)
  obtain ⟨p, hp⟩ : ∃ p, l[0]? = some p := ⟨_, List.getElem?_eq_getElem (by omega)⟩
  obtain ⟨q, hq⟩ : ∃ q, l[1]? = some q := ⟨_, List.getElem?_eq_getElem (by omega)⟩
  obtain ⟨p0, p1⟩ := hx p (List.mem_of_getElem? hp)
  obtain ⟨q0, q1⟩ := hx q (List.mem_of_getElem? hq)
  obtain ⟨b, off, rfl, hc0⟩ := hr.at_ 0 p hp
  obtain ⟨b', off', e', hc1⟩ := hr.at_ 1 q hq
  cases e'
  rw [Nat.add_zero] at hc0
  have hbl := World.block_lt_of_cell? _ _ hc0
  have hl2 : 1 < l.length := by omega
  obtain ⟨m, hm⟩ : ∃ m : Nat, p % (s.size : Int) = m := ⟨(p % (s.size : Int)).toNat, by have := Int.emod_nonneg p (show (s.size : Int) ≠ 0 by omega); omega⟩
  have hms : m < s.size := by have := Int.emod_lt_of_pos p (show (0 : Int) < (s.size : Int) by omega); omega
  have Hm := Lib.hid hm
  have e1 : ((s.size : Int) == 0) = false := by rw [beq_eq_false_iff_ne]; omega
  clear hl hx hr hp hq hm
  go_enter Tryd.func32, Tryd.ntmps32
  go_wp2_with fail
  refine wp_named (fun W => OwnB W w.heap.size (.slice (some ⟨w.heap.size, 0, none⟩) s.size (grownCap w s.size 0 5)) s.data.toList ∧ Below w.heap.size w W) ⟨hown, ((Below.refl _ _).alloc (Nat.le_refl _) _).drew⟩ ?_
  rintro W ⟨ho, hbW⟩
  have hc0 := (hbW.cell (p := ⟨b, off, none⟩) hbl).trans hc0
  have hc1 := (hbW.cell (p := ⟨b, off + 1, none⟩) hbl).trans hc1
  have hsl : s.data.toList.length = s.size := by simp
  have ho' : Own W w.heap.size 1 (.slice (some ⟨w.heap.size, 0, none⟩) s.size (grownCap w s.size 0 5)) s.size (u8s s.data.toList) := by
    have h := ho
    unfold OwnB at h
    rw [hsl] at h
    exact h
  have hz : W.cell? ⟨w.heap.size, m, none⟩ = some (.int .u8 (s[m].toNat : Int)) := by
    rw [ho'.cell_at m hms, u8s_get, List.getElem?_eq_getElem (by omega)]
    simp
    rfl
  obtain ⟨⟨u, hu⟩, hf⟩ := ho'.at1 m hms
  obtain ⟨y, hy, hyz, hxor⟩ := u8_xor_ne (z := s[m].toNat) (x := (1 + q % 255).toNat) (UInt8.toNat_lt _) (by omega) (by omega)
  have hcast : ((1 + q % 255).toNat : Int) = 1 + q % 255 := by omega
  rw [hcast] at hxor
  have hturn : Turned s (txt (s.data.toList.set m (UInt8.ofNat y))) := turned_of hms (by
    intro h
    have h2 := congrArg UInt8.toNat h
    rw [UInt8.toNat_ofNat'] at h2
    omega)
  have HX := Lib.hid hxor
  have HT := Lib.hid hturn
  have HO := Lib.hid ho'
  have HB := Lib.hid hbW
  have Hu := Lib.hid (u8s_set s.data.toList m y hy)
  have z255 : (s[m].toNat : Int) ≤ 255 := by have := s[m].toNat_lt; omega
  have z0 : (0 : Int) ≤ (s[m].toNat : Int) := by omega
  have hsl' : (s.data.toList.set m (UInt8.ofNat y)).length = s.size := by rw [List.length_set, hsl]
  have Hsl := Lib.hid hsl'
  have hlu : ¬ b = w.heap.size := by omega
  have hlu' : ¬ w.heap.size = b := by omega
  clear hxor hturn ho' ho hbW hown hsl hcast hyz hsl' kc hu
  rw [Hm.out]
  generalize s[m].toNat = z at *
  go_wp2_with fail
  refine wp_region_quiet_tail 14 Tryd.checked.mixed (by kernel_rfl) ?_
  simp only [List.take_succ_cons, List.take_zero, List.drop_succ_cons, List.drop_zero]
  repeat (first | go_big_quiet_skip | (go_big_quiet_want; go_big_quiet_op; first | go_big_quiet_on | (apply Exists.intro; refine ⟨?_, ?_⟩; (focus (fail)); go_big_quiet_on)))
  refine wpQuiet_nil ?_
  rw [HX.out]
  have ho2 : OwnB (W.drew.setCell ⟨w.heap.size, m, none⟩ (.int .u8 (y : Int))) w.heap.size (.slice (some ⟨w.heap.size, 0, none⟩) s.size (grownCap w s.size 0 5)) (s.data.toList.set m (UInt8.ofNat y)) := by
    have h := (Own.drew HO.out).store1 m hms (.int .u8 (y : Int))
    rw [Hu.out] at h
    unfold OwnB
    rw [Hsl.out]
    exact h
  have hb2 : Below w.heap.size w (W.drew.setCell ⟨w.heap.size, m, none⟩ (.int .u8 (y : Int))) := HB.out.drew.setCell (Nat.le_refl _) _
  go_upto_region 6 with fail
  refine wp_named (fun W' => OwnB W' w.heap.size (.slice (some ⟨w.heap.size, 0, none⟩) s.size (grownCap w s.size 0 5)) (s.data.toList.set m (UInt8.ofNat y)) ∧ Below w.heap.size w W') ⟨ho2, hb2⟩ ?_
  rintro W2 ⟨ho3, hb3⟩
  have hcv := OwnB.text (P := Tryd.prog) ho3 33 9 5 Tryd.underlying33 Tryd.underlying5 Tryd.underlying9
  clear ho2 hb2 ho3
  go_wp2_with fail
  go_ret
  exact ⟨⟨_, HT.out, rfl⟩, hb3⟩

end Go.Proofs.YtbjbengbkdoinaaDoor
