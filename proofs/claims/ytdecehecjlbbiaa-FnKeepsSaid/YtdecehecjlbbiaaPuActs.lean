/-
  Plain law: what operations make of a disk, one by one, and a power failure behind some of them. No program in sight.
-/
import Derived.Test.YtdecehecjlbbiaaPuDo
import Derived.Test.YtdecehecjlbbiaaPuLose
namespace Go.Proofs.Ytdecehecjlbbiaa
open Go.RowKit

/-- What operations make of a disk, and how many of them were done. -/
def actsV : List Fl → List Ac → List Fl × Nat
  | l, [] => (l, 0)
  | l, a :: r => if (doV l a).2 = true then ((actsV (doV l a).1 r).1, (actsV (doV l a).1 r).2 + 1) else (l, 0)
/-- Behind k operations the disk is m. -/
def Reach (l : List Fl) (q : List Ac) (k : Nat) (m : List Fl) : Prop := actsV l q = ((actsV m (q.drop k)).1, (actsV m (q.drop k)).2 + k)
theorem reach_zero (l : List Fl) (q : List Ac) : Reach l q 0 l := rfl
theorem dropA_at {q : List Ac} {k : Nat} {a : Ac} (ha : q[k]? = some a) : q.drop k = a :: q.drop (k + 1) := by
  obtain ⟨hk, rfl⟩ := List.getElem?_eq_some_iff.1 ha
  exact List.drop_eq_getElem_cons hk
theorem reach_next {l m : List Fl} {q : List Ac} {k : Nat} {a : Ac} (h : Reach l q k m) (ha : q[k]? = some a) (hv : (doV m a).2 = true) : Reach l q (k + 1) (doV m a).1 := by
  unfold Reach at h ⊢
  rw [h, dropA_at ha, actsV, if_pos hv]
  simp only [Prod.mk.injEq, true_and]
  omega
theorem reach_fail {l m : List Fl} {q : List Ac} {k : Nat} {a : Ac} (h : Reach l q k m) (ha : q[k]? = some a) (hv : (doV m a).2 = false) : actsV l q = (m, k) := by
  unfold Reach at h
  rw [h, dropA_at ha, actsV, if_neg (by rw [hv]; decide)]
  simp
theorem reach_end {l m : List Fl} {q : List Ac} (h : Reach l q q.length m) : actsV l q = (m, q.length) := by
  unfold Reach at h
  rw [h, List.drop_length, actsV]
  simp
/-- Files that are small. -/
def FlSmall (l : List Fl) : Prop := l.length ≤ 1048576 ∧ ∀ x ∈ l, x.1.size ≤ 1048576 ∧ x.2.1.size ≤ 1048576
theorem good_small {l : List Fl} (h : DiskGood l) : FlSmall l :=
  ⟨Nat.le_trans h.1 (by decide), fun x hx => by
    have h1 := h.2.1 x hx
    unfold FileGood at h1
    omega⟩
theorem doV_good {l : List Fl} {a : Ac} (h : (doV l a).2 = true) : DiskGood (doV l a).1 := by
  unfold doV doO at h ⊢
  split at h
  · cases h
  · rename_i r hr
    split at hr
    · split at hr
      · cases hr
      · split at hr
        · rename_i h1 _ _ h2 h3
          cases hr
          exact h3
        · cases hr
    · cases hr
theorem doV_small {l : List Fl} {a : Ac} (h : (doV l a).2 = true) : FlSmall (doV l a).1 := good_small (doV_good h)
theorem actsV_small : ∀ {l : List Fl} (q : List Ac), FlSmall l → FlSmall (actsV l q).1
  | l, [], h => h
  | l, a :: r, h => by
    rw [actsV]
    split
    · rename_i hv
      exact actsV_small r (doV_small hv)
    · exact h
theorem actsV_le : ∀ (l : List Fl) (q : List Ac), (actsV l q).2 ≤ q.length
  | l, [] => Nat.le_refl _
  | l, a :: r => by
    rw [actsV]
    split
    · have := actsV_le (doV l a).1 r
      simp only [List.length_cons]; omega
    · exact Nat.zero_le _

/-- A power failure behind some operations. -/
def cutV (l : List Fl) (q : List Ac) (whole : Int) (left : List Int) : List Fl × Bool :=
  if 0 ≤ whole ∧ whole ≤ q.length then
    (if (actsV l (q.take whole.toNat)).2 = whole.toNat then loseV (actsV l (q.take whole.toNat)).1 left else ([], false)) else ([], false)
theorem cutV_len (l : List Fl) (q : List Ac) (n : Int) (z : List Int) (h : FlSmall l) : (cutV l q n z).1.length ≤ 1048576 := by
  unfold cutV
  split
  · split
    · have h1 := actsV_small (q.take n.toNat) h
      unfold loseV
      split
      · show (loseL _ z).length ≤ 1048576
        unfold loseL; rw [loseTo_len]; exact h1.1
      · simp
    · simp
  · simp

end Go.Proofs.Ytdecehecjlbbiaa
