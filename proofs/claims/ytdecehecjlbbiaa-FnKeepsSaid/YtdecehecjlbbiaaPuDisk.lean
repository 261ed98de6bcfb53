/-
  Disks: how they are read and owned; the marks of a law on files. No program in sight.
-/
import Derived.Test.YtdecehecjlbbiaaPuFile
namespace Go.Proofs.Ytdecehecjlbbiaa
open Go.RowKit

/-- The marks on files from k on. -/
def marksF (k : Nat) : Nat → List Fl
  | 0 => []
  | n + 1 => (markB k, markB (k + 1), ((k + 2 : Nat) : Int)) :: marksF (k + 3) n
theorem marksF_length (k n : Nat) : (marksF k n).length = n := by
  induction n generalizing k with
  | zero => rfl
  | succ n ih => simp [marksF, ih]
theorem marksF_get (k n j : Nat) (h : j < n) : (marksF k n)[j]? = some (markB (k + 3 * j), markB (k + 3 * j + 1), ((k + 3 * j + 2 : Nat) : Int)) := by
  induction n generalizing k j with
  | zero => omega
  | succ n ih =>
    cases j with
    | zero => simp [marksF]
    | succ j =>
      simp only [marksF, List.getElem?_cons_succ]
      rw [ih (k + 3) j (by omega), show k + 3 + 3 * j = k + 3 * (j + 1) by omega]
theorem marksF_eq {cs : List Value} {K N : Nat} (hl : cs.length = N * 3) (h : ∀ j, j < N → cs[j * 3]? = some (.string (markB (K + 3 * j))) ∧ cs[j * 3 + 1]? = some (.string (markB (K + 3 * j + 1))) ∧ cs[j * 3 + 2]? = some (.int .i64 ((K + 3 * j + 2 : Nat) : Int))) : cs = fileC (marksF K N) := by
  refine fileC_of (by rw [marksF_length]; exact hl) (fun k x hx => ?_)
  have hk : k < N := by have := (List.getElem?_eq_some_iff.1 hx).1; rw [marksF_length] at this; exact this
  rw [marksF_get K N k hk] at hx
  cases hx
  exact h k hk

/-- A disk reads so. -/
def RdK (w : World) (v : Value) (l : List Fl) : Prop := ∃ a c, v = .agg #[.slice a l.length c] ∧ RdF w a l
/-- A disk of the call's own; u: its row. -/
def OwnK (w : World) (B : Nat) (v u : Value) (l : List Fl) : Prop := v = .agg #[u] ∧ OwnF w B u l
theorem RdK.below {w w' : World} {v : Value} {l : List Fl} {C : Nat} (h : RdK w v l) (hb : Below C w w') (hC : w.heap.size ≤ C) : RdK w' v l := by
  obtain ⟨a, c, e, r⟩ := h
  exact ⟨a, c, e, r.below hb hC⟩
theorem OwnK.rd {w : World} {B : Nat} {v u : Value} {l : List Fl} (h : OwnK w B v u l) : RdK w v l := by
  obtain ⟨e, o⟩ := h
  obtain ⟨a, c, eu, r⟩ := o.rd
  exact ⟨a, c, by rw [e, eu], r⟩
theorem OwnK.below {w w' : World} {B C : Nat} {v u : Value} {l : List Fl} (h : OwnK w B v u l) (hb : Below C w w') (hC : w.heap.size ≤ C) : OwnK w' B v u l := ⟨h.1, h.2.below hb hC⟩
theorem OwnK.kept {w w' : World} {B : Nat} {v u : Value} {l : List Fl} {row : Option Nat} (h : OwnK w B v u l) (hg : w.grownBy w' row) (hne : u.ownBlock = none ∨ u.ownBlock ≠ row) : OwnK w' B v u l := ⟨h.1, Own.kept h.2 hg hne⟩
theorem OwnK.block {w : World} {B : Nat} {v u : Value} {l : List Fl} (h : OwnK w B v u l) : ∀ k, u.ownBlock = some k → B ≤ k ∧ k < w.heap.size := Own.block h.2

/-- A disk of the call's own is handed back. -/
def GivesK (B : Nat) (l : List Fl) (e : Ending) (w' : World) : Prop := ∃ v' u, e = .returned v' ∧ OwnK w' B v' u l
/-- A disk of the call's own and a bool are handed back. -/
def GivesK2 (B : Nat) (l : List Fl) (b : Value) (e : Ending) (w' : World) : Prop := ∃ v' u, e = .returned (.tuple #[v', b]) ∧ OwnK w' B v' u l
/-- The cells of a file in a row of the call's own. -/
theorem Own.fileAt {w : World} {B g n cap : Nat} {l : List Fl} {k : Nat} {x : Fl} (h : Own w B 3 (.slice (some ⟨g, 0, none⟩) n cap) n (fileC l)) (hx : l[k]? = some x) :
    (w.cell? ⟨g, k * 3, none⟩ = some (.string x.1) ∧ w.cell? ⟨g, k * 3 + 1, none⟩ = some (.string x.2.1) ∧ w.cell? ⟨g, k * 3 + 2, none⟩ = some (.int .i64 x.2.2)) ∧
      w.frozen? ⟨g, k * 3, none⟩ = false ∧ w.frozen? ⟨g, k * 3 + 1, none⟩ = false ∧ w.frozen? ⟨g, k * 3 + 2, none⟩ = false := by
  have hk := (List.getElem?_eq_some_iff.1 hx).1
  have hlen := h.len
  rw [fileC_length] at hlen
  obtain ⟨g0, g1, g2⟩ := fileC_get _ _ _ hx
  have f0 := (h.atC (k * 3) (by omega)).2
  have f1 := (h.atC (k * 3 + 1) (by omega)).2
  have f2 := (h.atC (k * 3 + 2) (by omega)).2
  rcases h with ⟨h0, _⟩ | ⟨g', cap', he, hB, r⟩
  · cases h0
  · cases he
    exact ⟨⟨by rw [r.holds _ (by omega)]; exact g0, by rw [r.holds _ (by omega)]; exact g1, by rw [r.holds _ (by omega)]; exact g2⟩, f0, f1, f2⟩

end Go.Proofs.Ytdecehecjlbbiaa
