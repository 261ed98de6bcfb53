/-
  What the walks of this claim lean on, joined: plain laws, no code of the seat.
-/
import Derived.Test.YtdecehecjlbbiaaBase8
import Derived.Test.YtdecehecjlbbiaaBase4
import Derived.Test.YtdecehecjlbbiaaBase3

/-
  A drawn disk whose row's cell is turned; sizes. No program in sight.
-/
namespace Go.Proofs.Ytdecehecjlbbiaa
open Go.RowKit

theorem Own.someRow {w : World} {B : Nat} {u : Value} {l : List Fl} (h : Own w B 3 u l.length (fileC l)) (hl : l ≠ []) : ∃ qb c, u = .slice (some ⟨qb, 0, none⟩) l.length c ∧ B ≤ qb := by
  rcases h with ⟨_, hn, _⟩ | ⟨g, cap, e, hB, _⟩
  · exact absurd (List.eq_nil_of_length_eq_zero hn) hl
  · exact ⟨g, cap, e, hB⟩

/-- One cell of the row is turned. -/
theorem DiskSt.rowSet {w wC W : World} {T TD : TypeId} {n g db rb B : Nat} {l l' : List Fl} {qb c : Nat} (h : DiskSt w wC T TD n g db rb B l (.slice (some ⟨qb, 0, none⟩) l.length c) W) (hq : B ≤ qb) (j : Nat) (hj : j < l.length * 3) (x : Value) (hl : l'.length = l.length) (hx : (fileC l).set j x = fileC l') :
    DiskSt w wC T TD n g db rb B l' (.slice (some ⟨qb, 0, none⟩) l.length c) (W.setCell ⟨qb, j, none⟩ x) := by
  have hd := h.dB
  have hr := h.rB
  have hw := h.wB
  have hG := h.gB
  have hcd := h.cd
  have hg : W.grownBy (W.setCell ⟨qb, j, none⟩ x) (some qb) := grownBy_set (World.grownBy.refl _ _) _ _
  have ho := Own.storeC h.own j hj x
  rw [hx] at ho
  exact ⟨h.cur.kept_row hg (fun e => by have := Option.some.inj e; omega) (fun k e => by cases e; omega), by rw [hl]; exact ho, h.box.far (p := ⟨qb, j, none⟩) (by simp only; omega) _, h.res.far (p := ⟨qb, j, none⟩) (by simp only; omega) _, Nat.le_trans h.size hg.size, grownBy_only h.low hg (fun k e => by cases e; omega), h.gB, h.dB, h.rB, h.dg, h.rg, h.dr, h.wd, h.wr, h.cd, h.wB⟩

/-- The row grows, and goes back into the box. -/
theorem DiskSt.push {w wC W W' : World} {T TD : TypeId} {n g db rb B : Nat} {l l' : List Fl} {u u' : Value} (h : DiskSt w wC T TD n g db rb B l u W) (hg : W.grownBy W' u.ownBlock) (ho : Own W' B 3 u' l'.length (fileC l')) :
    DiskSt w wC T TD n g db rb B l' u' (W'.setCell ⟨db, 0, none⟩ u') := by
  have hd := h.dB
  have hr := h.rB
  have hw := h.wB
  have hG := h.gB
  have hcd := h.cd
  have hvb : ∀ k, u.ownBlock = some k → B ≤ k := fun k e => (Own.block h.own k e).1
  have hgs : W'.grownBy (W'.setCell ⟨db, 0, none⟩ u') (some db) := grownBy_set (World.grownBy.refl _ _) _ _
  have hc1 : Cur T wC n W' g := h.cur.kept_row hg (fun e => by have := hvb _ e; omega) (fun k e => by have := hvb _ e; omega)
  exact ⟨hc1.kept_row hgs (fun e => h.dg (Option.some.inj e)) (fun k e => by cases e; exact h.cd), Own.setCell (a := ⟨db, 0, none⟩) ho (by simp only; omega) u', (Blk.kept h.box hg (fun e => by have := hvb _ e.symm; omega)).set_ 0 u', (Blk.kept h.res hg (fun e => by have := hvb _ e.symm; omega)).far (p := ⟨db, 0, none⟩) (fun e => h.dr e.symm) _, Nat.le_trans (Nat.le_trans h.size hg.size) hgs.size, grownBy_only (grownBy_only h.low hg (fun k e => by have := hvb _ e; omega)) hgs (fun k e => by cases e; exact h.wd), h.gB, h.dB, h.rB, h.dg, h.rg, h.dr, h.wd, h.wr, h.cd, h.wB⟩

theorem itoa_size (n : Int) (h0 : 0 < n) (h1 : n < 1000000000000000000) : (txt (Lib.itoa n)).size ≤ 100 := by
  show (Lib.itoa n).toArray.size ≤ 100
  rw [List.size_toArray, dec_all n (by omega), if_neg (by omega), List.nil_append]
  have := dec_len 18 n.natAbs (by omega)
  omega

theorem small_set {l : List Fl} (h : FlSmall l) (k : Nat) (y : Fl) (h1 : y.1.size ≤ 1048576) (h2 : y.2.1.size ≤ 1048576) : FlSmall (l.set k y) :=
  ⟨by rw [List.length_set]; exact h.1, fun x hx => by
    rcases List.mem_or_eq_of_mem_set hx with hx | rfl
    · exact h.2 x hx
    · exact ⟨h1, h2⟩⟩
theorem small_push {l : List Fl} (h : FlSmall l) (hl : l.length ≤ 1000) (y : Fl) (h1 : y.1.size ≤ 1048576) (h2 : y.2.1.size ≤ 1048576) : FlSmall (l ++ [y]) :=
  ⟨by simp; omega, fun x hx => by
    rcases List.mem_append.1 hx with hx | hx
    · exact h.2 x hx
    · rw [List.mem_singleton.1 hx]; exact ⟨h1, h2⟩⟩
/-- It is handed back. -/
theorem DiskSt.done {w wC W : World} {T TD : TypeId} {n g db rb B : Nat} {l : List Fl} {u : Value} (h : DiskSt w wC T TD n g db rb B l u W) (hrc : wC.heap.size ≤ rb) :
    Blk (W.setCell ⟨rb, 0, none⟩ u) rb TD [u] ∧ Own (W.setCell ⟨rb, 0, none⟩ u) w.heap.size 3 u l.length (fileC l) ∧ Cur T wC n (W.setCell ⟨rb, 0, none⟩ u) g ∧ w.grownBy (W.setCell ⟨rb, 0, none⟩ u) (some g) := by
  have hg : W.grownBy (W.setCell ⟨rb, 0, none⟩ u) (some rb) := grownBy_set (World.grownBy.refl _ _) _ _
  exact ⟨h.res.set_ 0 u, (Own.setCell (a := ⟨rb, 0, none⟩) h.own h.rB u).mono h.wB, h.cur.kept_row hg (fun e => h.rg (Option.some.inj e)) (fun k e => by cases e; exact hrc), grownBy_only h.low hg (fun k e => by cases e; exact h.wr)⟩

end Go.Proofs.Ytdecehecjlbbiaa
