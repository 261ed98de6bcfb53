/-
  Plain law: what operations one by one do to files. No program in sight.
-/
import Derived.Test.YtdecehecjlbbiaaBase4
import Derived.Test.YtdecehecjlbbiaaJDisk2
namespace Go.Proofs.Ytdecehecjlbbiaa
open Go.RowKit

theorem doV_yes {m : List Fl} {a : Ac} (h : (doV m a).2 = true) : DiskGood m ∧ ActGood a ∧ doTo m a = some (doV m a).1 ∧ DiskGood (doV m a).1 := by
  unfold doV doO at h ⊢
  by_cases hg : DiskGood m ∧ ActGood a
  · rw [if_pos hg] at h ⊢
    cases hd : doTo m a with
    | none => rw [hd] at h; simp at h
    | some r =>
      rw [hd] at h
      simp only at h ⊢
      by_cases hr : DiskGood r
      · rw [if_pos hr]; exact ⟨hg.1, hg.2, rfl, hr⟩
      · rw [if_neg hr] at h; simp at h
  · rw [if_neg hg] at h; simp at h

theorem textV_file (m : List Fl) (n : ByteArray) : (textV m n).1 = (fileOf m n).2.1 := by
  unfold fileOf
  cases hp : posF m n with
  | none => rw [textV_none hp]
  | some k =>
    obtain ⟨x, hx, -⟩ := posF_some hp
    rw [textV_some hp hx]
    simp only [List.getD_eq_getElem?_getD, hx, Option.getD_some]

/-- An added file's text is the old one and the added bytes. -/
theorem doV_add {m : List Fl} {a : Ac} (h : (doV m a).2 = true) (hk : a.1 = 1) : textV (doV m a).1 a.2.1 = ((textV m a.2.1).1 ++ a.2.2.1, true) := by
  obtain ⟨_, _, h3, h4⟩ := doV_yes h
  generalize (doV m a).1 = r at *
  unfold doTo at h3
  rw [if_pos hk] at h3
  injection h3 with h3
  have hm : (a.2.1, (fileOf m a.2.1).2.1 ++ a.2.2.1, (fileOf m a.2.1).2.2) ∈ r := by
    rw [← h3]; exact (putL_perm _ _).mem_iff.2 List.mem_cons_self
  obtain ⟨k, hx⟩ := List.mem_iff_getElem?.1 hm
  have hp := posF_at h4.2.2 hx
  simp only at hp
  rw [textV_some hp hx, textV_file]

/-- A dropped file is gone. -/
theorem doV_drop {m : List Fl} {a : Ac} (h : (doV m a).2 = true) (hk : a.1 = 4) : (textV (doV m a).1 a.2.1).2 = false := by
  obtain ⟨_, _, h3, h4⟩ := doV_yes h
  generalize (doV m a).1 = r at *
  unfold doTo at h3
  rw [if_neg (by omega)] at h3
  cases hp : posF m a.2.1 with
  | none => rw [hp] at h3; simp at h3
  | some k =>
    rw [hp] at h3
    simp only at h3
    rw [if_neg (by omega), if_neg (by omega), if_pos hk] at h3
    injection h3 with h3
    have hn : posF r a.2.1 = none := posF_no (fun y hy => by
      rw [← h3] at hy
      have := (List.mem_filter.1 hy).2
      simpa using this)
    rw [textV_none hn]

theorem reach_le {l m : List Fl} {q : List Ac} {k : Nat} (h : Reach l q k m) : k ≤ (actsV l q).2 := by
  have h' : actsV l q = _ := h
  rw [h']; simp only; omega
/-- As long as operations are done, the next is. -/
theorem reach_more {l m : List Fl} {q : List Ac} {k : Nat} {a : Ac} (h : Reach l q k m) (ha : q[k]? = some a) (hk : k < (actsV l q).2) : (doV m a).2 = true := by
  cases hv : (doV m a).2 with
  | true => rfl
  | false => rw [reach_fail h ha hv] at hk; simp at hk
/-- Where they end, it is the whole's disk. -/
theorem reach_last {l m : List Fl} {q : List Ac} (h : Reach l q (actsV l q).2 m) : m = (actsV l q).1 := by
  have hle := actsV_le l q
  by_cases he : (actsV l q).2 = q.length
  · rw [he] at h
    rw [reach_end h]
  · have hlt : (actsV l q).2 < q.length := by omega
    have ha : q[(actsV l q).2]? = some q[(actsV l q).2] := List.getElem?_eq_getElem hlt
    cases hv : (doV m q[(actsV l q).2]).2 with
    | true =>
      have := reach_le (reach_next h ha hv)
      omega
    | false =>
      have := reach_fail h ha hv
      rw [this]

end Go.Proofs.Ytdecehecjlbbiaa
