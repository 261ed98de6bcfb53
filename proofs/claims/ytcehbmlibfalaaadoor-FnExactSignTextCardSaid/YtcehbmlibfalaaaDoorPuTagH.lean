/-
  Plain law: cut digests, hashes with a purpose, secrets and locks. No program in sight.
-/
import Derived.Test.YtcehbmlibfalaaaDoorPuArr
import Derived.Test.YtcehbmlibfalaaaDoorPuTags
import Derived.Test.YtcehbmlibfalaaaDoorPuHex
namespace Go.Proofs.YtcehbmlibfalaaaDoor
open Go.RowKit

/-- The first n bytes of the digest; nothing where n is no width. -/
def cutL (l : List UInt8) (n : Int) : List UInt8 := if 1 ≤ n ∧ n ≤ 32 then (sha l).take n.toNat else []
theorem cutL_in {l : List UInt8} {n : Int} (h : 1 ≤ n ∧ n ≤ 32) : txt (cutL l n) = (txt (sha l)).extract 0 n.toNat := by
  rw [cutL, if_pos h, extract_txt, txt_data]
  congr 1
theorem cutL_out {l : List UInt8} {n : Int} (h : ¬ (1 ≤ n ∧ n ≤ 32)) : cutL l n = [] := by rw [cutL, if_neg h]
theorem cutL_length {l : List UInt8} {n : Int} (h : 1 ≤ n ∧ n ≤ 32) : (cutL l n).length = n.toNat := by
  rw [cutL, if_pos h, List.length_take, sha_length]; omega
theorem cutL_le (l : List UInt8) (n : Int) : (cutL l n).length ≤ 32 := by
  unfold cutL; split
  · rw [List.length_take, sha_length]; omega
  · simp

/-- A hash of strings with a purpose. -/
def hashT (k : Int) (ps : List ByteArray) (n : Int) : List UInt8 :=
  match tagL k ps with
  | none => []
  | some t => cutL t n
theorem hashT_le (k : Int) (ps : List ByteArray) (n : Int) : (hashT k ps n).length ≤ 32 := by
  unfold hashT; split
  · simp
  · exact cutL_le _ _
theorem tagL_len {k : Int} {ps : List ByteArray} {t : List UInt8} (h : tagL k ps = some t) : t.length ≤ 12181 := by
  unfold tagL at h
  split at h
  · next hc =>
    cases h
    have := tagBody_len hc.2.2.2
    rw [List.length_cons]
    omega
  · cases h
theorem tagL_one {k : Int} (hk : 1 ≤ k ∧ k ≤ 8) {s : ByteArray} (hs : s.size ≤ 200) : ∃ t, tagL k [s] = some t := by
  unfold tagL
  rw [if_pos ⟨hk.1, hk.2, by simp, by simpa using hs⟩]
  exact ⟨_, rfl⟩
theorem tagL_one_no {k : Int} {s : ByteArray} (hs : ¬ s.size ≤ 200) : tagL k [s] = none := by
  unfold tagL
  rw [if_neg (fun h => hs (by simpa using h.2.2.2))]

theorem rdS_one (w : World) (s : ByteArray) (e : TypeId) : RdS (w.alloc (.cells #[.string s] e)) (some ⟨w.heap.size, 0, none⟩) [s] := by
  intro j x hx
  refine ⟨_, _, rfl, ?_⟩
  have e1 : (w.alloc (.cells #[.string s] e)).cell? ⟨w.heap.size, 0 + j, none⟩ = _ := World.cell?_alloc_new w _ _ (0 + j)
  rw [e1, Nat.zero_add]
  cases j with
  | zero => simp at hx; subst hx; rfl
  | succ j => simp at hx
theorem rdS_two (w : World) (s t : ByteArray) (e : TypeId) : RdS (w.alloc (.cells #[.string s, .string t] e)) (some ⟨w.heap.size, 0, none⟩) [s, t] := by
  intro j x hx
  refine ⟨_, _, rfl, ?_⟩
  have e1 : (w.alloc (.cells #[.string s, .string t] e)).cell? ⟨w.heap.size, 0 + j, none⟩ = _ := World.cell?_alloc_new w _ _ (0 + j)
  rw [e1, Nat.zero_add]
  match j with
  | 0 => simp at hx; subst hx; rfl
  | 1 => simp at hx; subst hx; rfl
  | j + 2 => simp at hx

def lockL (s : ByteArray) : List UInt8 := hashT 6 [s] 16
/-- The three bytes of a secret's place. -/
def placeB (a b c : Int) : List UInt8 := [UInt8.ofNat a.toNat, UInt8.ofNat b.toNat, UInt8.ofNat c.toNat]
theorem place_cell {a b c : Int} (ha : 0 ≤ a ∧ a ≤ 255) (hb : 0 ≤ b ∧ b ≤ 255) (hc : 0 ≤ c ∧ c ≤ 255) : [Value.int .u8 a, Value.int .u8 b, Value.int .u8 c] = u8s (placeB a b c) := by
  have e : ∀ x : Int, 0 ≤ x ∧ x ≤ 255 → x = ((UInt8.ofNat x.toNat).toNat : Int) := fun x hx => by rw [ofNat_mod]; omega
  simp only [u8s, placeB, List.map_cons, List.map_nil]
  rw [← e a ha, ← e b hb, ← e c hc]
def SecOk (s : ByteArray) (a b c : Int) : Prop := s.size ≤ 100 ∧ (0 ≤ a ∧ a ≤ 15) ∧ (0 ≤ b ∧ b ≤ 7) ∧ (0 ≤ c ∧ c ≤ 1)
instance (s : ByteArray) (a b c : Int) : Decidable (SecOk s a b c) := by unfold SecOk; infer_instance
def secretL (s : ByteArray) (a b c : Int) : List UInt8 := if SecOk s a b c then hashT 5 [s, txt (placeB a b c)] 16 else []
theorem secretL_yes {s : ByteArray} {a b c : Int} (h : SecOk s a b c) : secretL s a b c = hashT 5 [s, txt (placeB a b c)] 16 := if_pos h
theorem secretL_no {s : ByteArray} {a b c : Int} (h : ¬ SecOk s a b c) : secretL s a b c = [] := if_neg h

/-- The bits that are signed. -/
def signB (s : ByteArray) : Nat := byt (hashT 7 [s] 16) 0

end Go.Proofs.YtcehbmlibfalaaaDoor
