/-
  The walk of an operation's comparison of names, and the library's sorting at this program.
-/
import Derived.Test.YtdecehecjlbbiaaBase9
import Derived.Test.YtdecehecjlbbiaaShelf
import Derived.Shelf.GgSortFunc.Tiny
import Derived.Test.YtdecehecjlbbiaaJDisk3
namespace Go.Proofs.Ytdecehecjlbbiaa
open Go.Shelf Go.RowKit Go.Lib Go.Sort

set_option maxHeartbeats 2000000 in
theorem less_any (g c bx size : Nat) (W : World) (G : Nat → ByteArray) (hs : W.cell? ⟨bx, 0, none⟩ = some (.slice (some ⟨g, 0, none⟩) size c))
    (hc : ∀ t, t < size → W.cell? ⟨g, 0 + t * 3, none⟩ = some (.string (G t))) (i j : Nat) (hi : i < size) (hj : j < size) (_hsz : size < 4611686018427387904) :
    Calls Try.prog 92 #[.int .i64 i, .int .i64 j, .pointer (some ⟨bx, 0, none⟩)] W fun e w' => e = .returned (.bool (bless (G i) (G j))) ∧ ∃ q, w' = W.drewN q := by
  have ci := hc i hi
  have cj := hc j hj
  rw [Nat.zero_add] at ci cj
  unfold bless
  clear hc
  go_enter Try.func92, Try.ntmps92
  go_wp2_with fail
  go_quiet (fail)
  go_wp2_with fail
  go_ret
  exact ⟨rfl, nq, rfl⟩

noncomputable def sortT : TypeInfo := (Try.prog.info? 27).get (by kernel_rfl)
noncomputable def sortE : TypeInfo := (Try.prog.info? 49).get (by kernel_rfl)
theorem sortK (n : Nat) (h2 : 2 ≤ n) : Lib.swapperK n sortE 25 = 9 := by
  have a : sortE.hasPointers = true := by kernel_rfl
  have b : (sortE.bytes == 8) = false := by kernel_rfl
  have c : (n == 0) = false := by simp; omega
  have d : (n == 1) = false := by simp; omega
  simp [Lib.swapperK, a, b, c, d]

set_option maxHeartbeats 2000000 in
theorem sort_any (bx : Nat) (v : Value) (l : List Fl) (W : World) (B : Nat) (hbox : Blk W bx 29 [v]) (ho : OwnF W B v l) (hne : v.ownBlock = some bx → False) (hl : l.length ≤ 1000) :
    Calls Try.prog 91 #[.iface 27 v, .func (.func 92) #[] #[.pointer (some ⟨bx, 0, none⟩)]] W fun e w' =>
      (e = .returned (.tuple #[]) ∧ ∃ l', l'.Perm l ∧ (l'.Pairwise fun x y => bless y.1 x.1 = false) ∧ OwnF w' B v l') ∧ W.grownBy w' v.ownBlock := by
  by_cases h2 : 2 ≤ l.length
  · rcases ho with ⟨_, h0, _⟩ | ⟨g, cap, rfl, hB, r⟩
    · exfalso; omega
    have hgne : bx ≠ g := fun e => hne (by rw [e]; rfl)
    have hH := Row.holdsF r
    have hblk := r.lt
    have hb1 := Blk.lt hbox
    have hcell := Blk.cell hbox 0
    simp only [List.getElem?_cons_zero] at hcell
    have hsz : l.toArray.size = l.length := by simp
    have hless : LessReadsK Try.prog 92 #[.pointer (some ⟨bx, 0, none⟩)] encF 3 ltF g 0 l.toArray.size W := by
      intro m os dk hs i j hi hj
      have e : sortWorldK encF 3 W g 0 m dk os = putRowK encF 3 (grow (Sort.ahead W m) os) g 0 dk := by
        unfold sortWorldK; rw [putRowK_grow _ _ (Sort.ahead W m) _ g 0 _ hblk]
      have hHg : HoldsK encF 3 (grow (Sort.ahead W m) os) g 0 l.toArray := holdsK_grow _ _ _ _ g 0 _ hblk (holdsK_ahead _ _ _ _ _ _ _ hH)
      refine less_any g cap bx l.toArray.size _ (fun t => dk[t]!.1) ?_ (fun t ht => ?_) i j hi hj (by rw [hsz]; omega)
      · rw [e, cell?_putRowK_other _ _ _ g 0 dk _ (by exact hgne), cell?_grow _ _ _ (by exact hb1)]
        rw [hsz]; exact hcell
      · rw [e]; exact ((holdsK_putRowK _ _ _ g 0 l.toArray dk hHg hs).cell (i := t) (c := 0) (by rw [hs]; exact ht) (by omega)).1
    have hS := Any.sort_Slice_cells_sorted Try.laysGg6 27 49 sortT sortE (by kernel_rfl) (by kernel_rfl) (by kernel_rfl) (by kernel_rfl) 25 (fun _ => by kernel_rfl) encF 3 (fun _ => rfl) (by kernel_rfl) (fun _ => by kernel_rfl)
      (fun x v hv => by simp [encF] at hv; rcases hv with rfl | rfl | rfl <;> rfl) ltF swo_ltF 92 _
      (enters_of Try.func92 (by kernel_rfl) rfl) g 0 cap l.toArray (by rw [hsz]; exact h2) (by rw [hsz]; omega) 129 (by rw [sortK _ (by rw [hsz]; exact h2)]; kernel_rfl) false
      (fun args W => run_callFunc_extern Try.func129 (by kernel_rfl) (by kernel_rfl) (by kernel_rfl) (e := Extern.ReflectliteSwapper.swap false) (by kernel_rfl) args W) W hless hH hblk
    change Calls Try.prog 91 _ _ _ at hS
    rw [hsz] at hS
    refine hS.mono ?_
    rintro e w' ⟨rfl, d', n, os, hP, hSo, rfl⟩
    rw [← hsz] at hP hSo
    obtain ⟨p1, p2⟩ := permIn_list hP
    rw [← p2] at hSo
    have hlen : d'.toList.length = l.length := by rw [p1.length_eq]
    have hr2 := Row.sorted r hlen n
    have hd : d'.toList.toArray = d' := by simp
    rw [hd] at hr2
    have hg := grownBy_putRow W g n d' os
    refine ⟨⟨rfl, d'.toList, by simpa using p1, sortedIn_list hSo, ?_⟩, hg⟩
    unfold OwnF
    refine .inr ⟨g, cap, by rw [hlen], hB, hr2.keep (by show _ ≤ (_ ++ os).size; rw [Array.size_append]; omega) ?_⟩
    show (_ ++ os)[g]? = _
    rw [Array.getElem?_append_left hr2.lt]
  · obtain ⟨q, c, rfl⟩ := Own.shape ho
    have hf : ∃ f, Try.prog.funcs.findIdx? (·.name == "internal/reflectlite" ++ ".Swapper$" ++ toString (swapperK l.length sortE 25)) = some f := by
      rcases (show l.length = 0 ∨ l.length = 1 by omega) with h | h
      · rw [h]; exact ⟨121, by kernel_rfl⟩
      · rw [h]; exact ⟨122, by kernel_rfl⟩
    obtain ⟨f, hf⟩ := hf
    have hS := Any.sort_Slice_tiny Try.laysGg6 27 49 sortT sortE (by kernel_rfl) (by kernel_rfl) (by kernel_rfl) (by kernel_rfl) 25 (fun _ => by kernel_rfl) q l.length c (by omega) f hf (.func 92) #[] #[.pointer (some ⟨bx, 0, none⟩)] W
    change Calls Try.prog 91 _ _ _ at hS
    refine hS.mono ?_
    rintro e w' ⟨rfl, os, rfl⟩
    have hg := grownBy_grow W os (Value.ownBlock (.slice q l.length c))
    refine ⟨⟨rfl, l, List.Perm.refl _, ?_, ?_⟩, hg⟩
    · rcases (show l.length = 0 ∨ l.length = 1 by omega) with h | h
      · rw [List.eq_nil_of_length_eq_zero h]; exact List.Pairwise.nil
      · obtain ⟨x, rfl⟩ := List.length_eq_one_iff.1 h
        exact List.pairwise_singleton _ _
    · exact Own.below ho (⟨hg.os, hg.tape, hg.output, hg.size, fun k hk => by show (W.heap ++ os)[k]? = _; rw [Array.getElem?_append_left hk]⟩ : Below W.heap.size W (grow W os)) (Nat.le_refl _)

end Go.Proofs.Ytdecehecjlbbiaa
