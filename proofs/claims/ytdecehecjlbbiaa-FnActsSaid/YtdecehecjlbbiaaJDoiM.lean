/-
  Joined: Del1, Doi1, Doi2, Doi3, Doi4, Doi5.
-/
import Derived.Test.YtdecehecjlbbiaaJDisk3
import Derived.Test.YtdecehecjlbbiaaBase4
import Derived.Deep.RegionLaw
import Derived.Test.YtdecehecjlbbiaaJSort1
import Derived.Test.YtdecehecjlbbiaaJDoM
/-! The walk of the taking out of a file; the test of an operation's form, the program's side. -/
namespace Go.Proofs.Ytdecehecjlbbiaa
open Go.RowKit

/-- Two blocks may have turned. -/
structure Turned2 (w w' : World) (g b : Nat) : Prop where
  os : w'.os = w.os
  tape : w'.tape = w.tape
  output : w'.output = w.output
  size : w.heap.size ≤ w'.heap.size
  block : ∀ i, i < w.heap.size → i ≠ g → i ≠ b → w'.heap[i]? = w.heap[i]?
theorem Turned2.low {w0 w w' : World} {g b C : Nat} (h : Turned2 w w' g b) (hb : Below C w0 w) (hg : C ≤ g) (hB : C ≤ b) (hC : C ≤ w.heap.size) : Below C w0 w' :=
  ⟨h.os.trans hb.os, h.tape.trans hb.tape, h.output.trans hb.output, Nat.le_trans hb.size h.size, fun i hi => (h.block i (by omega) (by omega) (by omega)).trans (hb.block i hi)⟩
theorem Turned2.blk {w w' : World} {g b k : Nat} {t : TypeId} {cs : List Value} (h : Turned2 w w' g b) (hk : Blk w k t cs) (h1 : k ≠ g) (h2 : k ≠ b) : Blk w' k t cs := (h.block k (Blk.lt hk) h1 h2).trans hk

theorem fileC_erase (l : List Fl) (i : Nat) : fileC (l.eraseIdx i) = fileC (l.take i) ++ fileC (l.drop (i + 1)) := by
  rw [List.eraseIdx_eq_take_drop_succ, fileC_append]
theorem fileC_drop (l : List Fl) (i j : Nat) : (fileC (l.drop i))[j]? = (fileC l)[i * 3 + j]? := by
  have e : fileC l = fileC (l.take i) ++ fileC (l.drop i) := by rw [← fileC_append, List.take_append_drop]
  by_cases h : i ≤ l.length
  · rw [e, List.getElem?_append_right (by rw [fileC_length, List.length_take]; omega), fileC_length, List.length_take]
    congr 1
    omega
  · have h1 : fileC (l.drop i) = [] := by rw [List.drop_eq_nil_of_le (by omega)]; rfl
    rw [h1, List.getElem?_nil, List.getElem?_eq_none (by rw [fileC_length]; omega)]
/-- The row behind the taking out of a file. -/
theorem Row.erase {w : World} {g cap i : Nat} {l : List Fl} (r : Row w g cap 3 l.length (fileC l)) (hi : i < l.length) : Row (w.setCells g (i * 3) (fileC (l.drop (i + 1)))) g cap 3 (l.eraseIdx i).length (fileC (l.eraseIdx i)) := by
  have hn : (fileC (l.drop (i + 1))).length = (l.length - (i + 1)) * 3 := by rw [fileC_length, List.length_drop]
  have he : (l.eraseIdx i).length = l.length - 1 := by rw [List.length_eraseIdx, if_pos hi]
  have hle := r.le
  have hsome : ∀ j, j < (fileC (l.drop (i + 1))).length → (w.cell? ⟨g, i * 3 + j, none⟩).isSome = true := fun j hj => (r.there _ (by omega)).1
  refine ⟨by rw [size_setCells]; exact r.lt, by omega, r.max, by rw [fileC_length], fun j hj => ?_, fun j hj => ⟨?_, (World.frozen?_setCells g _ _ _ _).trans (r.there j hj).2⟩⟩
  · rw [he] at hj
    rw [fileC_erase]
    by_cases h1 : j < i * 3
    · rw [World.cell?_setCells_out g _ _ _ _ (fun _ _ => Or.inl h1), List.getElem?_append_left (by rw [fileC_length, List.length_take]; omega), r.holds j (by omega)]
      have e : fileC l = fileC (l.take i) ++ fileC (l.drop i) := by rw [← fileC_append, List.take_append_drop]
      rw [e, List.getElem?_append_left (by rw [fileC_length, List.length_take]; omega)]
    · have h2 := World.cell?_setCells_in g _ (i * 3) w hsome (j - i * 3) (by omega)
      rw [show i * 3 + (j - i * 3) = j by omega] at h2
      have e3 : j - (fileC (l.take i)).length = j - i * 3 := by rw [fileC_length, List.length_take]; omega
      rw [h2, List.getElem?_append_right (by rw [fileC_length, List.length_take]; omega), e3]
      exact (List.getElem?_eq_getElem _).symm
  · by_cases h1 : i * 3 ≤ j ∧ j < i * 3 + (fileC (l.drop (i + 1))).length
    · have h2 := World.cell?_setCells_in g _ (i * 3) w hsome (j - i * 3) (by omega)
      rw [show i * 3 + (j - i * 3) = j by omega] at h2
      rw [h2]; rfl
    · rw [World.cell?_setCells_out g _ _ _ _ (fun _ _ => by show j < i * 3 ∨ i * 3 + (fileC (l.drop (i + 1))).length ≤ j; omega)]
      exact (r.there j hj).1

set_option maxRecDepth 100000 in
theorem cut_hi (g n cap i : Nat) (hi : i ≤ cap) (w : World) : (Instr.slice 27 (.slice (some ⟨g, 0, none⟩) n cap) none (some (.int .i64 (i : Int))) none).run Try.prog w = .ok (.slice (some ⟨g, 0, none⟩) i cap) w := by
  rw [run_slice_h (P := Try.prog) w 27 _ n cap Try.underlying27 .i64 (i : Int) (by omega) (by omega)]
  obtain ⟨inf, h1, -, h3, -⟩ := info_parts Try.infoFile
  have e1 : (sizeOf (Try.prog.elem 27)).run Try.prog w = .ok 3 w := by
    have e : Try.prog.elem 27 = 49 := by kernel_rfl
    rw [e]
    simp [sizeOf, run_typeInfo w h1, h3]
  rw [e1]
  simp [Result.andThen, sliced, Addr.add_lit]
set_option maxRecDepth 100000 in
theorem cut_lo (g n cap i : Nat) (hi : i ≤ n) (w : World) : (Instr.slice 27 (.slice (some ⟨g, 0, none⟩) n cap) (some (.int .i64 (i : Int))) none none).run Try.prog w = .ok (.slice (some (if cap = i then ⟨g, 0, none⟩ else ⟨g, i * 3, none⟩)) (n - i) (cap - i)) w := by
  rw [run_slice_l (P := Try.prog) w 27 _ n cap Try.underlying27 .i64 (i : Int) (by omega) (by omega)]
  obtain ⟨inf, h1, -, h3, -⟩ := info_parts Try.infoFile
  have e1 : (sizeOf (Try.prog.elem 27)).run Try.prog w = .ok 3 w := by
    have e : Try.prog.elem 27 = 49 := by kernel_rfl
    rw [e]
    simp [sizeOf, run_typeInfo w h1, h3]
  rw [e1]
  simp only [Result.andThen, sliced, Int.toNat_natCast]
  by_cases h : cap = i
  · simp [h]
  · simp [h, Addr.add_lit]
set_option maxHeartbeats 2000000 in
set_option maxRecDepth 1000000 in
theorem iWithout_any (bx g cap i : Nat) (l : List Fl) (w : World) (hbox : Blk w bx 29 [.slice (some ⟨g, 0, none⟩) l.length cap]) (r : Row w g cap 3 l.length (fileC l)) (hne : bx ≠ g) (hi : i < l.length) (hl : l.length ≤ 1000) :
    Calls Try.prog 90 #[.pointer (some ⟨bx, 0, none⟩), .int .i64 i] w fun e w' => (e = .returned (.tuple #[]) ∧ Blk w' bx 29 [.slice (some ⟨g, 0, none⟩) (l.eraseIdx i).length cap] ∧ Row w' g cap 3 (l.eraseIdx i).length (fileC (l.eraseIdx i))) ∧ Turned2 w w' g bx := by
  obtain ⟨i0, hi0, hz0, hz1, hz2⟩ := info_parts Try.infoFile
  have hle := r.le
  have hmx := r.max
  unfold maxLen at hmx
  have hN : (fileC (l.drop (i + 1))).length = (l.length - (i + 1)) * 3 := by rw [fileC_length, List.length_drop]
  obtain ⟨A, hA⟩ : ∃ A : Addr, (if cap = i + 1 then (⟨g, 0, none⟩ : Addr) else ⟨g, (i + 1) * 3, none⟩) = A := ⟨_, rfl⟩
  have hnews : Hid (∀ j u, (fileC (l.drop (i + 1)))[j]? = some u → w.drew.cell? (A.add j) = some u) := Lib.hid (fun j u hu => by
    have hj := (List.getElem?_eq_some_iff.1 hu).1
    rw [if_neg (by omega)] at hA
    subst hA
    rw [Addr.add_lit]
    rw [fileC_drop] at hu
    show w.cell? _ = _
    rw [r.holds _ (by omega)]
    exact hu)
  have c1 := fun W => cut_hi g l.length cap i (by omega) W
  have c2 := fun W => cut_lo g l.length cap (i + 1) (by omega) W
  rw [hA] at c2
  simp only [Int.natCast_add, Int.natCast_one] at c2
  have s1 := Lib.hid hN
  have s2 := Lib.hid (fileC_one (l.drop (i + 1)))
  have s3 : Hid (∀ j, j < (fileC (l.drop (i + 1))).length → (w.drew.cell? ⟨g, 0 + i * 3 + j, none⟩).isSome = true ∧ w.drew.frozen? ⟨g, 0 + i * 3 + j, none⟩ = false) := Lib.hid (fun j hj => by
    rw [Nat.zero_add]
    exact r.there (i * 3 + j) (by omega))
  have hwr : IntKind.i64.wrap ((i : Int) + 1) = (i : Int) + 1 := by rw [IntKind.wrap_i64]; omega
  have HE : Hid ((l.eraseIdx i).length = i + (l.length - (i + 1))) := Lib.hid (by rw [List.length_eraseIdx, if_pos hi]; omega)
  have k0 := Blk.cell hbox 0
  simp only [List.getElem?_cons_zero] at k0
  have HR := Lib.hid r
  have HBX := Lib.hid hbox
  have k1 : (w.drew.setCells g (0 + i * 3) (fileC (l.drop (i + 1)))).frozen? ⟨bx, 0, none⟩ = false := (World.frozen?_setCells g _ _ _ _).trans (Blk.frozen hbox 0)
  have k2 : (w.drew.setCells g (0 + i * 3) (fileC (l.drop (i + 1)))).cell? ⟨bx, 0, none⟩ = some (.slice (some ⟨g, 0, none⟩) l.length cap) := (World.cell?_setCells_out g _ _ _ _ (fun h _ => absurd h hne)).trans k0
  rw [Nat.zero_add] at k1 k2
  have Hle : Hid (i + (l.length - (i + 1)) ≤ cap) := Lib.hid (by omega)
  clear hA hN r hbox hle hmx
  go_enter Try.func90, Try.ntmps90
  go_wp2_with fail
  go_region_law (first | (refine step_append_room rfl _ _ 27 rfl 49 i0 3 Try.underlying27 hi0 hz1 g 0 i cap (by simp [Act.eval, Act.put]) A (l.length - (i + 1)) (cap - (i + 1)) (fileC (l.drop (i + 1))) (by simp [Act.eval, Act.put]) s1.out hnews.out s2.out Hle.out s3.out ?_; rw [Nat.zero_add]))
  all_goals
    go_end0
    have hb2 : Blk (w.drew.setCells g (i * 3) (fileC (l.drop (i + 1)))) bx 29 [.slice (some ⟨g, 0, none⟩) l.length cap] := (World.heap_setCells_other w.drew g _ _ (Blk.lt HBX.out) hne).trans HBX.out
    have hr3 : Row (w.drew.setCells g (i * 3) (fileC (l.drop (i + 1)))) g cap 3 (l.eraseIdx i).length (fileC (l.eraseIdx i)) := by
      have hd : Row w.drew g cap 3 l.length (fileC l) := HR.out.keep (Nat.le_refl _) rfl
      exact Row.erase hd hi
    refine ⟨⟨rfl, ?_, ?_⟩, ?_⟩
    · rw [HE.out]; exact Blk.set_ hb2 0 _
    · exact hr3.keep (by simp [World.setCell]) (Below.heap_setCell _ _ _ _ (by simp only; omega))
    · refine ⟨(World.os_setCells w.drew g (i * 3) _), tape_setCells _ _ _ w.drew, World.output_setCells w.drew g (i * 3) _, ?_, fun k hk h1 h2 => ?_⟩
      · simp only [World.setCell, Array.size_modify]; rw [size_setCells]; exact Nat.le_refl _
      · exact (Below.heap_setCell _ _ _ _ (by simp only; omega)).trans (World.heap_setCells_other w.drew g _ _ hk h1)

/-- The form of an operation, and its kind. -/
def KindGood (a : Ac) : Prop := (1 ≤ a.1 ∧ a.1 ≤ 4) ∧ ActGood a
instance (a : Ac) : Decidable (KindGood a) := by unfold KindGood; infer_instance
theorem empty_bytes {s : ByteArray} : s.toList = [] ↔ s.data.toList = [] := by rw [ByteArray.toList_eq]
theorem full_bytes {s : ByteArray} (h : ¬ s.toList = []) : s.toList.isEmpty = false ∧ (s.toList == []) = false ∧ (s.toList != []) = true :=
  ⟨by rw [List.isEmpty_eq_false_iff]; exact h, by rw [beq_eq_false_iff_ne]; exact h, by rw [bne_iff_ne]; exact h⟩
set_option maxHeartbeats 1000000 in
theorem iActOk_any (a : Ac) (w : World) :
    Calls Try.prog 89 #[.agg #[.int .i64 a.1, .string a.2.1, .string a.2.2.1, .string a.2.2.2]] w fun e w' => e = .returned (.bool (decide (KindGood a))) ∧ Below w.heap.size w w' := by
  obtain ⟨k, n, t, d⟩ := a
  have HB := Lib.hid ((Below.refl w.heap.size w).alloc (Nat.le_refl _) (.cells #[.int .i64 k, .string n, .string t, .string d] 67))
  have CI := fun wx => in_any k 1 4 wx
  have CN := fun wx => iFileName_any n wx
  by_cases h1 : 1 ≤ k ∧ k ≤ 4
  · rw [within_yes h1] at CI
    have HI := Lib.hid CI
    by_cases h2 : NameGood n
    · rw [within_yes (by unfold NameGood at h2; omega)] at CN
      have HN := Lib.hid CN
      by_cases h3 : k = 3
      · subst h3
        by_cases h4 : t.toList = []
        · have HE : Hid (decide (KindGood ((3, n, t, d) : Ac)) = true) := Lib.hid (decide_eq_true ⟨h1, h2, fun h => absurd rfl h, fun _ => empty_bytes.1 h4⟩)
          clear h1 h2 CI CN
          go_enter Try.func89, Try.ntmps89
          go_wp2_with (first | (go_at_call 67; refine (HI.out _).mono ?_; rintro e w' ⟨rfl, rfl⟩) | (go_at_call 66; refine (HN.out _).mono ?_; rintro e w' ⟨rfl, rfl⟩))
          go_ret
          exact ⟨by rw [HE.out]; rfl, HB.out⟩
        · have HE : Hid (decide (KindGood ((3, n, t, d) : Ac)) = false) := Lib.hid (decide_eq_false (fun h => h4 (empty_bytes.2 (h.2.2.2 (by simp)))))
          obtain ⟨z1, z2, z3⟩ := full_bytes h4
          clear h1 h2 h4 CI CN
          go_enter Try.func89, Try.ntmps89
          go_wp2_with (first | (go_at_call 67; refine (HI.out _).mono ?_; rintro e w' ⟨rfl, rfl⟩) | (go_at_call 66; refine (HN.out _).mono ?_; rintro e w' ⟨rfl, rfl⟩))
          go_ret
          exact ⟨by rw [HE.out]; rfl, HB.out⟩
      · have e3 : (k == 3) = false := by rw [beq_eq_false_iff_ne]; exact h3
        by_cases h5 : d.toList = []
        · by_cases h6 : k = 1
          · subst h6
            have HE : Hid (decide (KindGood ((1, n, t, d) : Ac)) = true) := Lib.hid (decide_eq_true ⟨h1, h2, fun _ => empty_bytes.1 h5, fun h => absurd rfl h⟩)
            clear h1 h2 h3 CI CN
            go_enter Try.func89, Try.ntmps89
            go_wp2_with (first | (go_at_call 67; refine (HI.out _).mono ?_; rintro e w' ⟨rfl, rfl⟩) | (go_at_call 66; refine (HN.out _).mono ?_; rintro e w' ⟨rfl, rfl⟩))
            go_ret
            exact ⟨by rw [HE.out]; rfl, HB.out⟩
          · have e1 : (k == 1) = false := by rw [beq_eq_false_iff_ne]; exact h6
            by_cases h4 : t.toList = []
            · have HE : Hid (decide (KindGood ((k, n, t, d) : Ac)) = true) := Lib.hid (decide_eq_true ⟨h1, h2, fun _ => empty_bytes.1 h5, fun _ => empty_bytes.1 h4⟩)
              clear h1 h2 h3 h6 CI CN
              go_enter Try.func89, Try.ntmps89
              go_wp2_with (first | (go_at_call 67; refine (HI.out _).mono ?_; rintro e w' ⟨rfl, rfl⟩) | (go_at_call 66; refine (HN.out _).mono ?_; rintro e w' ⟨rfl, rfl⟩))
              go_ret
              exact ⟨by rw [HE.out]; rfl, HB.out⟩
            · have HE : Hid (decide (KindGood ((k, n, t, d) : Ac)) = false) := Lib.hid (decide_eq_false (fun h => h4 (empty_bytes.2 (h.2.2.2 h6))))
              obtain ⟨z1, z2, z3⟩ := full_bytes h4
              clear h1 h2 h3 h4 h6 CI CN
              go_enter Try.func89, Try.ntmps89
              go_wp2_with (first | (go_at_call 67; refine (HI.out _).mono ?_; rintro e w' ⟨rfl, rfl⟩) | (go_at_call 66; refine (HN.out _).mono ?_; rintro e w' ⟨rfl, rfl⟩))
              go_ret
              exact ⟨by rw [HE.out]; rfl, HB.out⟩
        · have HE : Hid (decide (KindGood ((k, n, t, d) : Ac)) = false) := Lib.hid (decide_eq_false (fun h => h5 (empty_bytes.2 (h.2.2.1 h3))))
          obtain ⟨z1, z2, z3⟩ := full_bytes h5
          clear h1 h2 h3 h5 CI CN
          go_enter Try.func89, Try.ntmps89
          go_wp2_with (first | (go_at_call 67; refine (HI.out _).mono ?_; rintro e w' ⟨rfl, rfl⟩) | (go_at_call 66; refine (HN.out _).mono ?_; rintro e w' ⟨rfl, rfl⟩))
          go_ret
          exact ⟨by rw [HE.out]; rfl, HB.out⟩
    · rw [within_not (by unfold NameGood at h2; omega)] at CN
      have HN := Lib.hid CN
      have HE : Hid (decide (KindGood ((k, n, t, d) : Ac)) = false) := Lib.hid (decide_eq_false (fun h => h2 h.2.1))
      clear h1 h2 CI CN
      go_enter Try.func89, Try.ntmps89
      go_wp2_with (first | (go_at_call 67; refine (HI.out _).mono ?_; rintro e w' ⟨rfl, rfl⟩) | (go_at_call 66; refine (HN.out _).mono ?_; rintro e w' ⟨rfl, rfl⟩))
      go_ret
      exact ⟨by rw [HE.out]; rfl, HB.out⟩
  · rw [within_not h1] at CI
    have HI := Lib.hid CI
    have HE : Hid (decide (KindGood ((k, n, t, d) : Ac)) = false) := Lib.hid (decide_eq_false (fun h => h1 h.1))
    clear h1 CI CN
    go_enter Try.func89, Try.ntmps89
    go_wp2_with (go_at_call 67; refine (HI.out _).mono ?_; rintro e w' ⟨rfl, rfl⟩)
    go_ret
    exact ⟨by rw [HE.out]; rfl, HB.out⟩

end Go.Proofs.Ytdecehecjlbbiaa

/-! The walks of the program's DoAct, case by case: where nothing is done. -/
namespace Go.Proofs.Ytdecehecjlbbiaa
open Go.RowKit

/-- The disk under work: its box is block ob, its row u. -/
structure OutSt (w : World) (T TA : TypeId) (dv : Value) (a : Ac) (ob : Nat) (u : Value) (l : List Fl) (W : World) : Prop where
  st : DoSt w T TA dv a W
  out : Blk W ob T [u]
  row : OwnF W (w.heap.size + 3) u l
  ne : u.ownBlock = some ob → False
  ge : w.heap.size + 3 ≤ ob
theorem OutSt.start {w : World} {T TA : TypeId} {dv : Value} {a : Ac} {u : Value} {l : List Fl} {W : World} (h : DoSt w T TA dv a W) (ho : Own W (w.heap.size + 3) 3 u l.length (fileC l)) : OutSt w T TA dv a W.heap.size u l (W.alloc (.cells #[u] T)) :=
  ⟨h.alloc _, Blk.new W T [u] _ rfl, Own.alloc ho _, fun e => by have := (Own.block ho _ e).2; omega, h.size⟩
theorem OutSt.below {w : World} {T TA : TypeId} {dv : Value} {a : Ac} {ob : Nat} {u : Value} {l : List Fl} {W W' : World} (h : OutSt w T TA dv a ob u l W) (hb : Below W.heap.size W W') : OutSt w T TA dv a ob u l W' :=
  ⟨h.st.below hb, h.out.below hb h.out.lt, Own.below h.row hb (Nat.le_refl _), h.ne, h.ge⟩
theorem OutSt.drewN {w : World} {T TA : TypeId} {dv : Value} {a : Ac} {ob : Nat} {u : Value} {l : List Fl} {W : World} (h : OutSt w T TA dv a ob u l W) (n : Nat) : OutSt w T TA dv a ob u l (W.drewN n) :=
  ⟨h.st.drewN n, h.out, Own.drewN h.row n, h.ne, h.ge⟩
/-- A cell of the row is set. -/
theorem OutSt.store {w : World} {T TA : TypeId} {dv : Value} {a : Ac} {ob g cap : Nat} {l l' : List Fl} {W : World} (h : OutSt w T TA dv a ob (.slice (some ⟨g, 0, none⟩) l.length cap) l W) {j : Nat} (hj : j < l.length * 3) {v : Value} (hc : (fileC l).set j v = fileC l') (hl : l'.length = l.length) :
    OutSt w T TA dv a ob (.slice (some ⟨g, 0, none⟩) l'.length cap) l' (W.setCell ⟨g, j, none⟩ v) := by
  have hg := Own.block h.row g rfl
  have hne : ob ≠ g := fun e => h.ne (by rw [e]; rfl)
  refine ⟨h.st.set_ hg.1 v, ?_, ?_, fun e => hne ?_, h.ge⟩
  · rw [hl]; exact h.out.far hne v
  · have h2 := Own.storeC h.row j hj v
    rw [hc] at h2
    unfold OwnF
    rw [hl]; exact h2
  · simp [Value.ownBlock] at e; exact e.symm
theorem OutSt.row_some {w : World} {T TA : TypeId} {dv : Value} {a : Ac} {ob : Nat} {q : Option Addr} {c : Nat} {l : List Fl} {W : World} (h : OutSt w T TA dv a ob (.slice q l.length c) l W) (hl : 0 < l.length) : ∃ g, q = some ⟨g, 0, none⟩ := by
  rcases h.row with ⟨h0, h1, _⟩ | ⟨g, cap, he, _, _⟩
  · omega
  · cases he; exact ⟨g, rfl⟩

set_option maxHeartbeats 4000000 in
set_option maxRecDepth 100000 in
theorem iDo_bad (ao : Option Addr) (cap : Nat) (l : List Fl) (kk : Int) (name text dst : ByteArray) (w : World) (hl : l.length ≤ 1048576) (hs : ∀ x ∈ l, x.1.size ≤ 1048576 ∧ x.2.1.size ≤ 1048576) (hr : RdF w ao l) (hg : ¬ DiskGood l) (hp : posF l name = none) :
    Calls Try.prog 54 #[.agg #[.slice ao l.length cap], .agg #[.int .i64 kk, .string name, .string text, .string dst]] w fun e w' => GivesK2 w.heap.size [] (.bool false) e w' ∧ Below w.heap.size w w' := by
  have hst := DoSt.start w 29 67 (.slice ao l.length cap) (kk, name, text, dst) _ rfl
  have R := Lib.hid (fun W hW => hr.below (C := w.heap.size) (w' := W) hW (Nat.le_refl _))
  have CA := iAt_any (.agg #[.slice ao l.length cap]) l name _ hl ⟨ao, cap, rfl, R.out _ hst.low⟩
  rw [posV_none hp] at CA
  have HCA := Lib.hid CA
  have ST0 := Lib.hid hst
  clear CA hst hr
  go_enter Try.func54, Try.ntmps54
  go_wp2_with fail
  refine HCA.out.mono ?_
  rintro e w1 ⟨rfl, hb1⟩
  have ST1 := Lib.hid (ST0.out.below hb1)
  clear hb1 HCA ST0
  have c0 := Blk.cell ST1.out.box 0
  have k0 := Blk.cell ST1.out.act 0
  have k1 := Blk.cell ST1.out.act 1
  have k2 := Blk.cell ST1.out.act 2
  have k3 := Blk.cell ST1.out.act 3
  simp only [List.getElem?_cons_zero, List.getElem?_cons_succ] at c0 k0 k1 k2 k3
  have CD := iDiskOk_any (.agg #[.slice ao l.length cap]) l w1 hl hs ⟨ao, cap, rfl, R.out _ ST1.out.low⟩
  rw [decide_eq_false hg] at CD
  have HCD := Lib.hid CD
  clear CD
  go_wp2_with fail
  refine HCD.out.mono ?_
  rintro e w2 ⟨rfl, hb2⟩
  have ST2 := Lib.hid (ST1.out.below hb2)
  clear hb2 HCD ST1
  clear c0 k0 k1 k2 k3
  have c0 := Blk.cell ST2.out.box 0
  have k0 := Blk.cell ST2.out.act 0
  have k1 := Blk.cell ST2.out.act 1
  have k2 := Blk.cell ST2.out.act 2
  have k3 := Blk.cell ST2.out.act 3
  simp only [List.getElem?_cons_zero, List.getElem?_cons_succ] at c0 k0 k1 k2 k3
  have r0 := Blk.cell ST2.out.res 0
  have r1 := Blk.frozen ST2.out.res 0
  simp only [List.getElem?_cons_zero] at r0
  have E2 := Lib.hid (Blk.set_ ST2.out.res 0 (.slice none 0 0))
  have FB := Lib.hid (ST2.out.low.setCell (p := ⟨w.heap.size + 2, 0, none⟩) (by simp only; omega) (.slice none 0 0))
  go_wp2_with fail
  refine bodyPost_ret (results_cell_row_tmp rfl _ _ _ (w.heap.size + 2) 29 #[.slice none 0 0] (0, 0) _ _ rfl rfl E2.out Try.underlying29 (by kernel_rfl)) rfl ?_
  exact ⟨⟨_, _, rfl, rfl, Own.nil _ _ _⟩, FB.out⟩

set_option maxHeartbeats 4000000 in
set_option maxRecDepth 100000 in
theorem iDo_bad2 (ao : Option Addr) (cap : Nat) (l : List Fl) (kk : Int) (name text dst : ByteArray) (w : World) (hl : l.length ≤ 1048576) (hs : ∀ x ∈ l, x.1.size ≤ 1048576 ∧ x.2.1.size ≤ 1048576) (hr : RdF w ao l) (hg : ¬ DiskGood l) (k : Nat) (hp : posF l name = some k) :
    Calls Try.prog 54 #[.agg #[.slice ao l.length cap], .agg #[.int .i64 kk, .string name, .string text, .string dst]] w fun e w' => GivesK2 w.heap.size [] (.bool false) e w' ∧ Below w.heap.size w w' := by
  have hst := DoSt.start w 29 67 (.slice ao l.length cap) (kk, name, text, dst) _ rfl
  have R := Lib.hid (fun W hW => hr.below (C := w.heap.size) (w' := W) hW (Nat.le_refl _))
  have CA := iAt_any (.agg #[.slice ao l.length cap]) l name _ hl ⟨ao, cap, rfl, R.out _ hst.low⟩
  rw [posV_some hp] at CA
  have HCA := Lib.hid CA
  have ST0 := Lib.hid hst
  clear CA hst hr
  go_enter Try.func54, Try.ntmps54
  go_wp2_with fail
  refine HCA.out.mono ?_
  rintro e w1 ⟨rfl, hb1⟩
  have ST1 := Lib.hid (ST0.out.below hb1)
  clear hb1 HCA ST0
  have c0 := Blk.cell ST1.out.box 0
  have k0 := Blk.cell ST1.out.act 0
  have k1 := Blk.cell ST1.out.act 1
  have k2 := Blk.cell ST1.out.act 2
  have k3 := Blk.cell ST1.out.act 3
  simp only [List.getElem?_cons_zero, List.getElem?_cons_succ] at c0 k0 k1 k2 k3
  have CD := iDiskOk_any (.agg #[.slice ao l.length cap]) l w1 hl hs ⟨ao, cap, rfl, R.out _ ST1.out.low⟩
  rw [decide_eq_false hg] at CD
  have HCD := Lib.hid CD
  clear CD
  go_wp2_with fail
  refine HCD.out.mono ?_
  rintro e w2 ⟨rfl, hb2⟩
  have ST2 := Lib.hid (ST1.out.below hb2)
  clear hb2 HCD ST1
  clear c0 k0 k1 k2 k3
  have c0 := Blk.cell ST2.out.box 0
  have k0 := Blk.cell ST2.out.act 0
  have k1 := Blk.cell ST2.out.act 1
  have k2 := Blk.cell ST2.out.act 2
  have k3 := Blk.cell ST2.out.act 3
  simp only [List.getElem?_cons_zero, List.getElem?_cons_succ] at c0 k0 k1 k2 k3
  have r0 := Blk.cell ST2.out.res 0
  have r1 := Blk.frozen ST2.out.res 0
  simp only [List.getElem?_cons_zero] at r0
  have E2 := Lib.hid (Blk.set_ ST2.out.res 0 (.slice none 0 0))
  have FB := Lib.hid (ST2.out.low.setCell (p := ⟨w.heap.size + 2, 0, none⟩) (by simp only; omega) (.slice none 0 0))
  go_wp2_with fail
  refine bodyPost_ret (results_cell_row_tmp rfl _ _ _ (w.heap.size + 2) 29 #[.slice none 0 0] (0, 0) _ _ rfl rfl E2.out Try.underlying29 (by kernel_rfl)) rfl ?_
  exact ⟨⟨_, _, rfl, rfl, Own.nil _ _ _⟩, FB.out⟩

set_option maxHeartbeats 4000000 in
set_option maxRecDepth 100000 in
theorem iDo_form (ao : Option Addr) (cap : Nat) (l : List Fl) (kk : Int) (name text dst : ByteArray) (w : World) (hl : l.length ≤ 1048576) (hs : ∀ x ∈ l, x.1.size ≤ 1048576 ∧ x.2.1.size ≤ 1048576) (hr : RdF w ao l) (hg : DiskGood l) (hk : ¬ KindGood (kk, name, text, dst)) (hp : posF l name = none) :
    Calls Try.prog 54 #[.agg #[.slice ao l.length cap], .agg #[.int .i64 kk, .string name, .string text, .string dst]] w fun e w' => GivesK2 w.heap.size [] (.bool false) e w' ∧ Below w.heap.size w w' := by
  have hst := DoSt.start w 29 67 (.slice ao l.length cap) (kk, name, text, dst) _ rfl
  have R := Lib.hid (fun W hW => hr.below (C := w.heap.size) (w' := W) hW (Nat.le_refl _))
  have CA := iAt_any (.agg #[.slice ao l.length cap]) l name _ hl ⟨ao, cap, rfl, R.out _ hst.low⟩
  rw [posV_none hp] at CA
  have HCA := Lib.hid CA
  have ST0 := Lib.hid hst
  clear CA hst hr
  go_enter Try.func54, Try.ntmps54
  go_wp2_with fail
  refine HCA.out.mono ?_
  rintro e w1 ⟨rfl, hb1⟩
  have ST1 := Lib.hid (ST0.out.below hb1)
  clear hb1 HCA ST0
  have c0 := Blk.cell ST1.out.box 0
  have k0 := Blk.cell ST1.out.act 0
  have k1 := Blk.cell ST1.out.act 1
  have k2 := Blk.cell ST1.out.act 2
  have k3 := Blk.cell ST1.out.act 3
  simp only [List.getElem?_cons_zero, List.getElem?_cons_succ] at c0 k0 k1 k2 k3
  have CD := iDiskOk_any (.agg #[.slice ao l.length cap]) l w1 hl hs ⟨ao, cap, rfl, R.out _ ST1.out.low⟩
  rw [decide_eq_true hg] at CD
  have HCD := Lib.hid CD
  clear CD
  go_wp2_with fail
  refine HCD.out.mono ?_
  rintro e w2 ⟨rfl, hb2⟩
  have ST2 := Lib.hid (ST1.out.below hb2)
  clear hb2 HCD ST1
  clear c0 k0 k1 k2 k3
  have c0 := Blk.cell ST2.out.box 0
  have k0 := Blk.cell ST2.out.act 0
  have k1 := Blk.cell ST2.out.act 1
  have k2 := Blk.cell ST2.out.act 2
  have k3 := Blk.cell ST2.out.act 3
  simp only [List.getElem?_cons_zero, List.getElem?_cons_succ] at c0 k0 k1 k2 k3
  have CK := iActOk_any (kk, name, text, dst) w2
  rw [decide_eq_false hk] at CK
  simp only at CK
  have HCK := Lib.hid CK
  clear CK
  go_wp2_with fail
  refine HCK.out.mono ?_
  rintro e w3 ⟨rfl, hb3⟩
  have ST3 := Lib.hid (ST2.out.below hb3)
  clear hb3 HCK ST2
  clear c0 k0 k1 k2 k3
  have c0 := Blk.cell ST3.out.box 0
  have k0 := Blk.cell ST3.out.act 0
  have k1 := Blk.cell ST3.out.act 1
  have k2 := Blk.cell ST3.out.act 2
  have k3 := Blk.cell ST3.out.act 3
  simp only [List.getElem?_cons_zero, List.getElem?_cons_succ] at c0 k0 k1 k2 k3
  have r0 := Blk.cell ST3.out.res 0
  have r1 := Blk.frozen ST3.out.res 0
  simp only [List.getElem?_cons_zero] at r0
  have E2 := Lib.hid (Blk.set_ ST3.out.res 0 (.slice none 0 0))
  have FB := Lib.hid (ST3.out.low.setCell (p := ⟨w.heap.size + 2, 0, none⟩) (by simp only; omega) (.slice none 0 0))
  go_wp2_with fail
  refine bodyPost_ret (results_cell_row_tmp rfl _ _ _ (w.heap.size + 2) 29 #[.slice none 0 0] (0, 0) _ _ rfl rfl E2.out Try.underlying29 (by kernel_rfl)) rfl ?_
  exact ⟨⟨_, _, rfl, rfl, Own.nil _ _ _⟩, FB.out⟩

set_option maxHeartbeats 4000000 in
set_option maxRecDepth 100000 in
theorem iDo_form2 (ao : Option Addr) (cap : Nat) (l : List Fl) (kk : Int) (name text dst : ByteArray) (w : World) (hl : l.length ≤ 1048576) (hs : ∀ x ∈ l, x.1.size ≤ 1048576 ∧ x.2.1.size ≤ 1048576) (hr : RdF w ao l) (hg : DiskGood l) (hk : ¬ KindGood (kk, name, text, dst)) (k : Nat) (hp : posF l name = some k) :
    Calls Try.prog 54 #[.agg #[.slice ao l.length cap], .agg #[.int .i64 kk, .string name, .string text, .string dst]] w fun e w' => GivesK2 w.heap.size [] (.bool false) e w' ∧ Below w.heap.size w w' := by
  have hst := DoSt.start w 29 67 (.slice ao l.length cap) (kk, name, text, dst) _ rfl
  have R := Lib.hid (fun W hW => hr.below (C := w.heap.size) (w' := W) hW (Nat.le_refl _))
  have CA := iAt_any (.agg #[.slice ao l.length cap]) l name _ hl ⟨ao, cap, rfl, R.out _ hst.low⟩
  rw [posV_some hp] at CA
  have HCA := Lib.hid CA
  have ST0 := Lib.hid hst
  clear CA hst hr
  go_enter Try.func54, Try.ntmps54
  go_wp2_with fail
  refine HCA.out.mono ?_
  rintro e w1 ⟨rfl, hb1⟩
  have ST1 := Lib.hid (ST0.out.below hb1)
  clear hb1 HCA ST0
  have c0 := Blk.cell ST1.out.box 0
  have k0 := Blk.cell ST1.out.act 0
  have k1 := Blk.cell ST1.out.act 1
  have k2 := Blk.cell ST1.out.act 2
  have k3 := Blk.cell ST1.out.act 3
  simp only [List.getElem?_cons_zero, List.getElem?_cons_succ] at c0 k0 k1 k2 k3
  have CD := iDiskOk_any (.agg #[.slice ao l.length cap]) l w1 hl hs ⟨ao, cap, rfl, R.out _ ST1.out.low⟩
  rw [decide_eq_true hg] at CD
  have HCD := Lib.hid CD
  clear CD
  go_wp2_with fail
  refine HCD.out.mono ?_
  rintro e w2 ⟨rfl, hb2⟩
  have ST2 := Lib.hid (ST1.out.below hb2)
  clear hb2 HCD ST1
  clear c0 k0 k1 k2 k3
  have c0 := Blk.cell ST2.out.box 0
  have k0 := Blk.cell ST2.out.act 0
  have k1 := Blk.cell ST2.out.act 1
  have k2 := Blk.cell ST2.out.act 2
  have k3 := Blk.cell ST2.out.act 3
  simp only [List.getElem?_cons_zero, List.getElem?_cons_succ] at c0 k0 k1 k2 k3
  have CK := iActOk_any (kk, name, text, dst) w2
  rw [decide_eq_false hk] at CK
  simp only at CK
  have HCK := Lib.hid CK
  clear CK
  go_wp2_with fail
  refine HCK.out.mono ?_
  rintro e w3 ⟨rfl, hb3⟩
  have ST3 := Lib.hid (ST2.out.below hb3)
  clear hb3 HCK ST2
  clear c0 k0 k1 k2 k3
  have c0 := Blk.cell ST3.out.box 0
  have k0 := Blk.cell ST3.out.act 0
  have k1 := Blk.cell ST3.out.act 1
  have k2 := Blk.cell ST3.out.act 2
  have k3 := Blk.cell ST3.out.act 3
  simp only [List.getElem?_cons_zero, List.getElem?_cons_succ] at c0 k0 k1 k2 k3
  have r0 := Blk.cell ST3.out.res 0
  have r1 := Blk.frozen ST3.out.res 0
  simp only [List.getElem?_cons_zero] at r0
  have E2 := Lib.hid (Blk.set_ ST3.out.res 0 (.slice none 0 0))
  have FB := Lib.hid (ST3.out.low.setCell (p := ⟨w.heap.size + 2, 0, none⟩) (by simp only; omega) (.slice none 0 0))
  go_wp2_with fail
  refine bodyPost_ret (results_cell_row_tmp rfl _ _ _ (w.heap.size + 2) 29 #[.slice none 0 0] (0, 0) _ _ rfl rfl E2.out Try.underlying29 (by kernel_rfl)) rfl ?_
  exact ⟨⟨_, _, rfl, rfl, Own.nil _ _ _⟩, FB.out⟩

set_option maxHeartbeats 4000000 in
set_option maxRecDepth 100000 in
theorem iDo_none (ao : Option Addr) (cap : Nat) (l : List Fl) (kk : Int) (name text dst : ByteArray) (w : World) (hl : l.length ≤ 1048576) (hs : ∀ x ∈ l, x.1.size ≤ 1048576 ∧ x.2.1.size ≤ 1048576) (hr : RdF w ao l) (hg : DiskGood l) (hk : KindGood (kk, name, text, dst)) (h1 : kk ≠ 1) (hp : posF l name = none) :
    Calls Try.prog 54 #[.agg #[.slice ao l.length cap], .agg #[.int .i64 kk, .string name, .string text, .string dst]] w fun e w' => GivesK2 w.heap.size [] (.bool false) e w' ∧ Below w.heap.size w w' := by
  have e1 : (kk != 1) = true := by rw [bne_iff_ne]; exact h1
  have e1' : (kk == 1) = false := by rw [beq_eq_false_iff_ne]; exact h1
  clear h1
  have hst := DoSt.start w 29 67 (.slice ao l.length cap) (kk, name, text, dst) _ rfl
  have R := Lib.hid (fun W hW => hr.below (C := w.heap.size) (w' := W) hW (Nat.le_refl _))
  have CA := iAt_any (.agg #[.slice ao l.length cap]) l name _ hl ⟨ao, cap, rfl, R.out _ hst.low⟩
  rw [posV_none hp] at CA
  have HCA := Lib.hid CA
  have ST0 := Lib.hid hst
  clear CA hst hr
  go_enter Try.func54, Try.ntmps54
  go_wp2_with fail
  refine HCA.out.mono ?_
  rintro e w1 ⟨rfl, hb1⟩
  have ST1 := Lib.hid (ST0.out.below hb1)
  clear hb1 HCA ST0
  have c0 := Blk.cell ST1.out.box 0
  have k0 := Blk.cell ST1.out.act 0
  have k1 := Blk.cell ST1.out.act 1
  have k2 := Blk.cell ST1.out.act 2
  have k3 := Blk.cell ST1.out.act 3
  simp only [List.getElem?_cons_zero, List.getElem?_cons_succ] at c0 k0 k1 k2 k3
  have CD := iDiskOk_any (.agg #[.slice ao l.length cap]) l w1 hl hs ⟨ao, cap, rfl, R.out _ ST1.out.low⟩
  rw [decide_eq_true hg] at CD
  have HCD := Lib.hid CD
  clear CD
  go_wp2_with fail
  refine HCD.out.mono ?_
  rintro e w2 ⟨rfl, hb2⟩
  have ST2 := Lib.hid (ST1.out.below hb2)
  clear hb2 HCD ST1
  clear c0 k0 k1 k2 k3
  have c0 := Blk.cell ST2.out.box 0
  have k0 := Blk.cell ST2.out.act 0
  have k1 := Blk.cell ST2.out.act 1
  have k2 := Blk.cell ST2.out.act 2
  have k3 := Blk.cell ST2.out.act 3
  simp only [List.getElem?_cons_zero, List.getElem?_cons_succ] at c0 k0 k1 k2 k3
  have CK := iActOk_any (kk, name, text, dst) w2
  rw [decide_eq_true hk] at CK
  simp only at CK
  have HCK := Lib.hid CK
  clear CK
  go_wp2_with fail
  refine HCK.out.mono ?_
  rintro e w3 ⟨rfl, hb3⟩
  have ST3 := Lib.hid (ST2.out.below hb3)
  clear hb3 HCK ST2
  clear c0 k0 k1 k2 k3
  have c0 := Blk.cell ST3.out.box 0
  have k0 := Blk.cell ST3.out.act 0
  have k1 := Blk.cell ST3.out.act 1
  have k2 := Blk.cell ST3.out.act 2
  have k3 := Blk.cell ST3.out.act 3
  simp only [List.getElem?_cons_zero, List.getElem?_cons_succ] at c0 k0 k1 k2 k3
  have r0 := Blk.cell ST3.out.res 0
  have r1 := Blk.frozen ST3.out.res 0
  simp only [List.getElem?_cons_zero] at r0
  have E2 := Lib.hid (Blk.set_ ST3.out.res 0 (.slice none 0 0))
  have FB := Lib.hid (ST3.out.low.setCell (p := ⟨w.heap.size + 2, 0, none⟩) (by simp only; omega) (.slice none 0 0))
  go_wp2_with fail
  refine bodyPost_ret (results_cell_row_tmp rfl _ _ _ (w.heap.size + 2) 29 #[.slice none 0 0] (0, 0) _ _ rfl rfl E2.out Try.underlying29 (by kernel_rfl)) rfl ?_
  exact ⟨⟨_, _, rfl, rfl, Own.nil _ _ _⟩, FB.out⟩

end Go.Proofs.Ytdecehecjlbbiaa

/-! The walks of the program's DoAct, case by case: where a file is kept, or grows. -/
namespace Go.Proofs.Ytdecehecjlbbiaa
open Go.RowKit

set_option maxHeartbeats 4000000 in
set_option maxRecDepth 100000 in
theorem iDo_keep (ao : Option Addr) (cap : Nat) (l : List Fl) (name text dst : ByteArray) (w : World) (hl : l.length ≤ 1048576) (hs : ∀ x ∈ l, x.1.size ≤ 1048576 ∧ x.2.1.size ≤ 1048576) (hr : RdF w ao l) (hg : DiskGood l) (hk : KindGood (2, name, text, dst)) (k : Nat) (xa xb : ByteArray) (xn : Int) (hx : l[k]? = some (xa, xb, xn)) (hp : posF l name = some k) :
    Calls Try.prog 54 #[.agg #[.slice ao l.length cap], .agg #[.int .i64 2, .string name, .string text, .string dst]] w fun e w' => GivesK2 w.heap.size (lastV (putL l (xa, xb, (xb.size : Int)))).1 (.bool (lastV (putL l (xa, xb, (xb.size : Int)))).2) e w' ∧ Below w.heap.size w w' := by
  obtain ⟨m1, m2, m3, m4⟩ := fl_bound hx hg
  have hl30 := hg.1
  have hlw := hg.2.2
  have hkl := (List.getElem?_eq_some_iff.1 hx).1
  have i0 : (0 : Int) ≤ (k : Int) := Int.natCast_nonneg _
  have hrl : (putL l (xa, xb, (xb.size : Int))).length ≤ 1048576 := put_len _ hg.1
  have hrs : ∀ x ∈ putL l (xa, xb, (xb.size : Int)), x.1.size ≤ 2097152 ∧ x.2.1.size ≤ 2097152 := put_size (fun x hx => ⟨by have := (hs x hx).1; omega, by have := (hs x hx).2; omega⟩) (by simp only; omega) (by simp only; omega)
  have hst := DoSt.start w 29 67 (.slice ao l.length cap) (2, name, text, dst) _ rfl
  have R := Lib.hid (fun W hW => hr.below (C := w.heap.size) (w' := W) hW (Nat.le_refl _))
  have CA := iAt_any (.agg #[.slice ao l.length cap]) l name _ hl ⟨ao, cap, rfl, R.out _ hst.low⟩
  rw [posV_some hp] at CA
  have HCA := Lib.hid CA
  have ST0 := Lib.hid hst
  clear CA hst hr
  go_enter Try.func54, Try.ntmps54
  go_wp2_with fail
  refine HCA.out.mono ?_
  rintro e w1 ⟨rfl, hb1⟩
  have ST1 := Lib.hid (ST0.out.below hb1)
  clear hb1 HCA ST0
  have c0 := Blk.cell ST1.out.box 0
  have k0 := Blk.cell ST1.out.act 0
  have k1 := Blk.cell ST1.out.act 1
  have k2 := Blk.cell ST1.out.act 2
  have k3 := Blk.cell ST1.out.act 3
  simp only [List.getElem?_cons_zero, List.getElem?_cons_succ] at c0 k0 k1 k2 k3
  have CD := iDiskOk_any (.agg #[.slice ao l.length cap]) l w1 hl hs ⟨ao, cap, rfl, R.out _ ST1.out.low⟩
  rw [decide_eq_true hg] at CD
  have HCD := Lib.hid CD
  clear CD
  go_wp2_with fail
  refine HCD.out.mono ?_
  rintro e w2 ⟨rfl, hb2⟩
  have ST2 := Lib.hid (ST1.out.below hb2)
  clear hb2 HCD ST1
  clear c0 k0 k1 k2 k3
  have c0 := Blk.cell ST2.out.box 0
  have k0 := Blk.cell ST2.out.act 0
  have k1 := Blk.cell ST2.out.act 1
  have k2 := Blk.cell ST2.out.act 2
  have k3 := Blk.cell ST2.out.act 3
  simp only [List.getElem?_cons_zero, List.getElem?_cons_succ] at c0 k0 k1 k2 k3
  have CK := iActOk_any (2, name, text, dst) w2
  rw [decide_eq_true hk] at CK
  simp only at CK
  have HCK := Lib.hid CK
  clear CK
  go_wp2_with fail
  refine HCK.out.mono ?_
  rintro e w3 ⟨rfl, hb3⟩
  have ST3 := Lib.hid (ST2.out.below hb3)
  clear hb3 HCK ST2
  clear c0 k0 k1 k2 k3
  have c0 := Blk.cell ST3.out.box 0
  have k0 := Blk.cell ST3.out.act 0
  have k1 := Blk.cell ST3.out.act 1
  have k2 := Blk.cell ST3.out.act 2
  have k3 := Blk.cell ST3.out.act 3
  simp only [List.getElem?_cons_zero, List.getElem?_cons_succ] at c0 k0 k1 k2 k3
  have CC := Lib.hid (iCopy_any (.agg #[.slice ao l.length cap]) l w3 hl ⟨ao, cap, rfl, R.out _ ST3.out.low⟩)
  go_wp2_with fail
  refine CC.out.mono ?_
  rintro e w4 ⟨⟨v4, u4, rfl, ho⟩, hb4⟩
  obtain ⟨rfl, ho⟩ := ho
  have l3 := ST3.out.size
  have ho := Own.mono ho l3
  obtain ⟨q4, c4, rfl⟩ := Own.shape ho
  have ST4 := Lib.hid (ST3.out.below hb4)
  clear hb4 CC ST3 l3
  clear c0 k0 k1 k2 k3
  have c0 := Blk.cell ST4.out.box 0
  have k0 := Blk.cell ST4.out.act 0
  have k1 := Blk.cell ST4.out.act 1
  have k2 := Blk.cell ST4.out.act 2
  have k3 := Blk.cell ST4.out.act 3
  simp only [List.getElem?_cons_zero, List.getElem?_cons_succ] at c0 k0 k1 k2 k3
  have OS := Lib.hid (OutSt.start ST4.out ho)
  clear ho
  go_upto_region 5 with fail
  generalize w4.alloc (.cells #[.slice q4 l.length c4] 29) = W5 at *
  clear c0 k0 k1 k2 k3
  clear ST4
  have hob := OS.out.ge
  have c0 := Blk.cell OS.out.st.box 0
  have k0 := Blk.cell OS.out.st.act 0
  have k1 := Blk.cell OS.out.st.act 1
  have k2 := Blk.cell OS.out.st.act 2
  have k3 := Blk.cell OS.out.st.act 3
  simp only [List.getElem?_cons_zero, List.getElem?_cons_succ] at c0 k0 k1 k2 k3
  have o0 := Blk.cell OS.out.out 0
  have o1 := Blk.frozen OS.out.out 0
  simp only [List.getElem?_cons_zero] at o0
  generalize hob2 : w4.heap.size = ob at *
  clear hob2
  obtain ⟨g, rfl⟩ := OS.out.row_some (by omega)
  have hgb := Own.block OS.out.row g rfl
  have hgo : ¬ ob = g := fun e => OS.out.ne (by rw [e]; rfl)
  have hgo' : ¬ g = ob := fun e => hgo e.symm
  obtain ⟨⟨e0, e1, e2⟩, f0, f1, f2⟩ := Own.fileAt OS.out.row hx
  simp only at e0 e1 e2
  go_wp2_with fail
  go_region
  have OT := Lib.hid ((OS.out.store (j := k * 3 + 2) (by omega) (fileC_kept hx (xb.size : Int)) (by rw [List.length_set])).drewN 1)
  have HPM := (And.intro (put_same hlw hx (f := (xa, xb, (xb.size : Int))) rfl) (putL_lower hlw (xa, xb, (xb.size : Int))))
  have hl1z : (l.set k (xa, xb, (xb.size : Int))).length ≤ 30 := by rw [List.length_set]; exact hl30
  replace OT : Hid (OutSt w 29 67 (.slice ao l.length cap) _ ob (.slice (some ⟨g, 0, none⟩) (l.set k (xa, xb, (xb.size : Int))).length c4) (l.set k (xa, xb, (xb.size : Int))) (W5.setCell ⟨g, k * 3 + 2, none⟩ (.int .i64 (xb.size : Int))).drew) := OT
  generalize (W5.setCell ⟨g, k * 3 + 2, none⟩ (.int .i64 (xb.size : Int))).drew = WT at *
  clear c0 k0 k1 k2 k3
  clear e0 e1 e2 f0 f1 f2 o0 o1 hx OS
  generalize l.set k (xa, xb, (xb.size : Int)) = l1 at *
  have hlen : l1.length = (putL l (xa, xb, (xb.size : Int))).length := HPM.1.length_eq
  have hl1k : l1.length ≤ 1000 := by omega
  have CS := sort_any ob (.slice (some ⟨g, 0, none⟩) l1.length c4) l1 WT (w.heap.size + 3) OT.out.out OT.out.row OT.out.ne hl1k
  have HCS := Lib.hid CS
  clear CS
  have o0 := Blk.cell OT.out.out 0
  have o1 := Blk.frozen OT.out.out 0
  simp only [List.getElem?_cons_zero] at o0
  have HPM2 := Lib.hid HPM
  have HLN := Lib.hid hlen
  clear HPM hlen
  go_wp2_with fail
  refine HCS.out.mono ?_
  rintro e w7 ⟨⟨rfl, l2, hp2, hs2, ho2⟩, hg7⟩
  obtain rfl : l2 = (putL l (xa, xb, (xb.size : Int))) := sorted_lower HPM2.out.2 (hp2.trans HPM2.out.1) hs2
  have ST7 := Lib.hid (OT.out.st.grown hg7 (fun k hk => (Own.block OT.out.row k hk).1))
  have bo7 := Blk.kept OT.out.out hg7 (fun e => OT.out.ne e.symm)
  rw [HLN.out] at ho2 bo7
  have OU := Lib.hid ho2
  have BO7 := Lib.hid bo7
  clear ho2 bo7 hg7 hs2 hp2 HPM2 HCS o0 o1
  have o0 := Blk.cell BO7.out 0
  simp only [List.getElem?_cons_zero] at o0
  have CF := fun wx h => iDiskOk_big (.agg #[.slice (some ⟨g, 0, none⟩) (putL l (xa, xb, (xb.size : Int))).length c4]) (putL l (xa, xb, (xb.size : Int))) wx hrl hrs h
  by_cases hgr : DiskGood (putL l (xa, xb, (xb.size : Int)))
  · have V := Lib.hid (lastR_yes hgr)
    rw [decide_eq_true hgr] at CF
    have HCF := Lib.hid CF
    clear CF hgr
    go_wp2_with fail
    refine (HCF.out _ ⟨_, _, rfl, (OwnF.rdAt OU.out)⟩).mono ?_
    rintro e w8 ⟨rfl, hb8⟩
    have ST8 := Lib.hid (ST7.out.below hb8)
    have r0 := Blk.cell ST8.out.res 0
    have r1 := Blk.frozen ST8.out.res 0
    have bo8 := Blk.below BO7.out hb8 BO7.out.lt
    have o8 := Blk.cell bo8 0
    simp only [List.getElem?_cons_zero] at r0 o8
    have OU8 := Lib.hid (Own.below OU.out hb8 (Nat.le_refl _))
    clear hb8 bo8 o0
    have E2 := Lib.hid (Blk.set_ ST8.out.res 0 (.slice (some ⟨g, 0, none⟩) (putL l (xa, xb, (xb.size : Int))).length c4))
    have FB := Lib.hid (ST8.out.low.setCell (p := ⟨w.heap.size + 2, 0, none⟩) (by simp only; omega) (.slice (some ⟨g, 0, none⟩) (putL l (xa, xb, (xb.size : Int))).length c4))
    have FO := Lib.hid ((Own.setCell (a := ⟨w.heap.size + 2, 0, none⟩) OU8.out (by simp only; omega) (.slice (some ⟨g, 0, none⟩) (putL l (xa, xb, (xb.size : Int))).length c4)).mono (show w.heap.size ≤ w.heap.size + 3 by omega))
    go_wp2_with fail
    refine bodyPost_ret (results_cell_row_tmp rfl _ _ _ (w.heap.size + 2) 29 #[.slice (some ⟨g, 0, none⟩) (putL l (xa, xb, (xb.size : Int))).length c4] (0, 0) _ _ rfl rfl E2.out Try.underlying29 (by kernel_rfl)) rfl ?_
    rw [V.out]
    exact ⟨⟨_, _, rfl, rfl, FO.out⟩, FB.out⟩
  · have V := Lib.hid (lastR_no hgr)
    rw [decide_eq_false hgr] at CF
    have HCF := Lib.hid CF
    clear CF hgr
    go_wp2_with fail
    refine (HCF.out _ ⟨_, _, rfl, (OwnF.rdAt OU.out)⟩).mono ?_
    rintro e w8 ⟨rfl, hb8⟩
    have ST8 := Lib.hid (ST7.out.below hb8)
    have r0 := Blk.cell ST8.out.res 0
    have r1 := Blk.frozen ST8.out.res 0
    simp only [List.getElem?_cons_zero] at r0
    clear hb8 o0
    have E2 := Lib.hid (Blk.set_ ST8.out.res 0 (.slice none 0 0))
    have FB := Lib.hid (ST8.out.low.setCell (p := ⟨w.heap.size + 2, 0, none⟩) (by simp only; omega) (.slice none 0 0))
    go_wp2_with fail
    refine bodyPost_ret (results_cell_row_tmp rfl _ _ _ (w.heap.size + 2) 29 #[.slice none 0 0] (0, 0) _ _ rfl rfl E2.out Try.underlying29 (by kernel_rfl)) rfl ?_
    rw [V.out]
    exact ⟨⟨_, _, rfl, rfl, Own.nil _ _ _⟩, FB.out⟩

end Go.Proofs.Ytdecehecjlbbiaa

/-! The walks of the program's DoAct, case by case: where a file grows, is new, is dropped. -/
namespace Go.Proofs.Ytdecehecjlbbiaa
open Go.RowKit

theorem OutSt.push {w : World} {T TA : TypeId} {dv : Value} {a : Ac} {ob : Nat} {u v' : Value} {l l' : List Fl} {W W' : World} (h : OutSt w T TA dv a ob u l W) (ho : Own W' (w.heap.size + 3) 3 v' l'.length (fileC l')) (hg : W.grownBy W' u.ownBlock) (hl : 0 < l'.length) :
    OutSt w T TA dv a ob v' l' (W'.setCell ⟨ob, 0, none⟩ v') := by
  have hr := fun k hk => (Own.block h.row k hk).1
  have bo := Blk.kept h.out hg (fun e => h.ne e.symm)
  have hne : v'.ownBlock = some ob → False := by
    intro e
    rcases ho with ⟨_, h1, _⟩ | ⟨g, cap, rfl, hB, r⟩
    · omega
    · simp [Value.ownBlock] at e
      subst e
      have h3 := r.holds 0 (by omega)
      have h4 := bo.cell 0
      rw [h3] at h4
      obtain ⟨q, c, rfl⟩ := Own.shape h.row
      cases l' with
      | nil => simp at hl
      | cons x l' => simp [fileC] at h4
  exact ⟨(h.st.grown hg hr).set_ (by simp only; exact h.ge) v', Blk.set_ bo 0 v', Own.far ho (fun e => hne e) v', hne, h.ge⟩
theorem own_more {w : World} {B : Nat} {v : Value} {l m l' : List Fl} (e : l ++ m = l') (h : Own w B 3 v (l.length + m.length) (fileC l ++ fileC m)) : Own w B 3 v l'.length (fileC l') := by
  subst e
  rw [fileC_append, List.length_append]; exact h
theorem OutSt.row_at {w : World} {T TA : TypeId} {dv : Value} {a : Ac} {ob g c : Nat} {l : List Fl} {W : World} (h : OutSt w T TA dv a ob (.slice (some ⟨g, 0, none⟩) l.length c) l W) : Row W g c 3 l.length (fileC l) := by
  rcases h.row with ⟨e, _⟩ | ⟨g', c', e, _, r⟩
  · cases e
  · cases e; exact r
theorem OutSt.erase {w : World} {T TA : TypeId} {dv : Value} {a : Ac} {ob g c i : Nat} {l : List Fl} {W W' : World} (h : OutSt w T TA dv a ob (.slice (some ⟨g, 0, none⟩) l.length c) l W) (hb : Blk W' ob T [.slice (some ⟨g, 0, none⟩) (l.eraseIdx i).length c]) (hr : Row W' g c 3 (l.eraseIdx i).length (fileC (l.eraseIdx i))) (ht : Turned2 W W' g ob) :
    OutSt w T TA dv a ob (.slice (some ⟨g, 0, none⟩) (l.eraseIdx i).length c) (l.eraseIdx i) W' := by
  have hg := (Own.block h.row g rfl).1
  have hB := h.ge
  refine ⟨⟨ht.blk h.st.box (by omega) (by omega), ht.blk h.st.act (by omega) (by omega), ht.blk h.st.res (by omega) (by omega), ht.low h.st.low (by omega) (by omega) h.st.low.size, Nat.le_trans h.st.size ht.size⟩, hb, .inr ⟨g, c, rfl, hg, hr⟩, fun e => h.ne ?_, h.ge⟩
  simpa [Value.ownBlock] using e

set_option maxHeartbeats 4000000 in
set_option maxRecDepth 100000 in
theorem iDo_add_old (ao : Option Addr) (cap : Nat) (l : List Fl) (name text dst : ByteArray) (w : World) (hl : l.length ≤ 1048576) (hs : ∀ x ∈ l, x.1.size ≤ 1048576 ∧ x.2.1.size ≤ 1048576) (hr : RdF w ao l) (hg : DiskGood l) (hk : KindGood (1, name, text, dst)) (hat : text.size ≤ 1048576) (k : Nat) (xa xb : ByteArray) (xn : Int) (hx : l[k]? = some (xa, xb, xn)) (hp : posF l name = some k) :
    Calls Try.prog 54 #[.agg #[.slice ao l.length cap], .agg #[.int .i64 1, .string name, .string text, .string dst]] w fun e w' => GivesK2 w.heap.size (lastV (putL l (xa, xb ++ text, xn))).1 (.bool (lastV (putL l (xa, xb ++ text, xn))).2) e w' ∧ Below w.heap.size w w' := by
  obtain ⟨m1, m2, m3, m4⟩ := fl_bound hx hg
  have hl30 := hg.1
  have hlw := hg.2.2
  have hkl := (List.getElem?_eq_some_iff.1 hx).1
  have i0 : (0 : Int) ≤ (k : Int) := Int.natCast_nonneg _
  have hrl : (putL l (xa, xb ++ text, xn)).length ≤ 1048576 := put_len _ hg.1
  have hrs : ∀ x ∈ putL l (xa, xb ++ text, xn), x.1.size ≤ 2097152 ∧ x.2.1.size ≤ 2097152 := put_size (fun x hx => ⟨by have := (hs x hx).1; omega, by have := (hs x hx).2; omega⟩) (by simp only; omega) (by simp only; rw [ByteArray.size_append]; omega)
  have hst := DoSt.start w 29 67 (.slice ao l.length cap) (1, name, text, dst) _ rfl
  have R := Lib.hid (fun W hW => hr.below (C := w.heap.size) (w' := W) hW (Nat.le_refl _))
  have CA := iAt_any (.agg #[.slice ao l.length cap]) l name _ hl ⟨ao, cap, rfl, R.out _ hst.low⟩
  rw [posV_some hp] at CA
  have HCA := Lib.hid CA
  have ST0 := Lib.hid hst
  clear CA hst hr
  go_enter Try.func54, Try.ntmps54
  go_wp2_with fail
  refine HCA.out.mono ?_
  rintro e w1 ⟨rfl, hb1⟩
  have ST1 := Lib.hid (ST0.out.below hb1)
  clear hb1 HCA ST0
  have c0 := Blk.cell ST1.out.box 0
  have k0 := Blk.cell ST1.out.act 0
  have k1 := Blk.cell ST1.out.act 1
  have k2 := Blk.cell ST1.out.act 2
  have k3 := Blk.cell ST1.out.act 3
  simp only [List.getElem?_cons_zero, List.getElem?_cons_succ] at c0 k0 k1 k2 k3
  have CD := iDiskOk_any (.agg #[.slice ao l.length cap]) l w1 hl hs ⟨ao, cap, rfl, R.out _ ST1.out.low⟩
  rw [decide_eq_true hg] at CD
  have HCD := Lib.hid CD
  clear CD
  go_wp2_with fail
  refine HCD.out.mono ?_
  rintro e w2 ⟨rfl, hb2⟩
  have ST2 := Lib.hid (ST1.out.below hb2)
  clear hb2 HCD ST1
  clear c0 k0 k1 k2 k3
  have c0 := Blk.cell ST2.out.box 0
  have k0 := Blk.cell ST2.out.act 0
  have k1 := Blk.cell ST2.out.act 1
  have k2 := Blk.cell ST2.out.act 2
  have k3 := Blk.cell ST2.out.act 3
  simp only [List.getElem?_cons_zero, List.getElem?_cons_succ] at c0 k0 k1 k2 k3
  have CK := iActOk_any (1, name, text, dst) w2
  rw [decide_eq_true hk] at CK
  simp only at CK
  have HCK := Lib.hid CK
  clear CK
  go_wp2_with fail
  refine HCK.out.mono ?_
  rintro e w3 ⟨rfl, hb3⟩
  have ST3 := Lib.hid (ST2.out.below hb3)
  clear hb3 HCK ST2
  clear c0 k0 k1 k2 k3
  have c0 := Blk.cell ST3.out.box 0
  have k0 := Blk.cell ST3.out.act 0
  have k1 := Blk.cell ST3.out.act 1
  have k2 := Blk.cell ST3.out.act 2
  have k3 := Blk.cell ST3.out.act 3
  simp only [List.getElem?_cons_zero, List.getElem?_cons_succ] at c0 k0 k1 k2 k3
  have CC := Lib.hid (iCopy_any (.agg #[.slice ao l.length cap]) l w3 hl ⟨ao, cap, rfl, R.out _ ST3.out.low⟩)
  go_wp2_with fail
  refine CC.out.mono ?_
  rintro e w4 ⟨⟨v4, u4, rfl, ho⟩, hb4⟩
  obtain ⟨rfl, ho⟩ := ho
  have l3 := ST3.out.size
  have ho := Own.mono ho l3
  obtain ⟨q4, c4, rfl⟩ := Own.shape ho
  have ST4 := Lib.hid (ST3.out.below hb4)
  clear hb4 CC ST3 l3
  clear c0 k0 k1 k2 k3
  have c0 := Blk.cell ST4.out.box 0
  have k0 := Blk.cell ST4.out.act 0
  have k1 := Blk.cell ST4.out.act 1
  have k2 := Blk.cell ST4.out.act 2
  have k3 := Blk.cell ST4.out.act 3
  simp only [List.getElem?_cons_zero, List.getElem?_cons_succ] at c0 k0 k1 k2 k3
  have OS := Lib.hid (OutSt.start ST4.out ho)
  clear ho
  go_upto_region 5 with fail
  generalize w4.alloc (.cells #[.slice q4 l.length c4] 29) = W5 at *
  clear c0 k0 k1 k2 k3
  clear ST4
  have hob := OS.out.ge
  have c0 := Blk.cell OS.out.st.box 0
  have k0 := Blk.cell OS.out.st.act 0
  have k1 := Blk.cell OS.out.st.act 1
  have k2 := Blk.cell OS.out.st.act 2
  have k3 := Blk.cell OS.out.st.act 3
  simp only [List.getElem?_cons_zero, List.getElem?_cons_succ] at c0 k0 k1 k2 k3
  have o0 := Blk.cell OS.out.out 0
  have o1 := Blk.frozen OS.out.out 0
  simp only [List.getElem?_cons_zero] at o0
  generalize hob2 : w4.heap.size = ob at *
  clear hob2
  obtain ⟨g, rfl⟩ := OS.out.row_some (by omega)
  have hgb := Own.block OS.out.row g rfl
  have hgo : ¬ ob = g := fun e => OS.out.ne (by rw [e]; rfl)
  have hgo' : ¬ g = ob := fun e => hgo e.symm
  obtain ⟨⟨e0, e1, e2⟩, f0, f1, f2⟩ := Own.fileAt OS.out.row hx
  simp only at e0 e1 e2
  go_wp2_with fail
  go_region
  have OT := Lib.hid ((OS.out.store (j := k * 3 + 1) (by omega) (fileC_text hx (xb ++ text)) (by rw [List.length_set])).drewN 1)
  have HPM := (And.intro (put_same hlw hx (f := (xa, xb ++ text, xn)) rfl) (putL_lower hlw (xa, xb ++ text, xn)))
  have hl1z : (l.set k (xa, xb ++ text, xn)).length ≤ 31 := by rw [List.length_set]; omega
  replace OT : Hid (OutSt w 29 67 (.slice ao l.length cap) _ ob (.slice (some ⟨g, 0, none⟩) (l.set k (xa, xb ++ text, xn)).length c4) (l.set k (xa, xb ++ text, xn)) (W5.setCell ⟨g, k * 3 + 1, none⟩ (.string (xb ++ text))).drew) := OT
  generalize (W5.setCell ⟨g, k * 3 + 1, none⟩ (.string (xb ++ text))).drew = WT at *
  clear c0 k0 k1 k2 k3
  clear hx e0 e1 e2 f0 f1 f2 o0 o1  OS
  generalize l.set k (xa, xb ++ text, xn) = l1 at *
  have hlen : l1.length = (putL l (xa, xb ++ text, xn)).length := HPM.1.length_eq
  have hl1k : l1.length ≤ 1000 := by omega
  have CS := sort_any ob (.slice (some ⟨g, 0, none⟩) l1.length c4) l1 WT (w.heap.size + 3) OT.out.out OT.out.row OT.out.ne hl1k
  have HCS := Lib.hid CS
  clear CS
  have o0 := Blk.cell OT.out.out 0
  have o1 := Blk.frozen OT.out.out 0
  simp only [List.getElem?_cons_zero] at o0
  have HPM2 := Lib.hid HPM
  have HLN := Lib.hid hlen
  clear HPM hlen
  go_wp2_with fail
  refine HCS.out.mono ?_
  rintro e w7 ⟨⟨rfl, l2, hp2, hs2, ho2⟩, hg7⟩
  obtain rfl : l2 = (putL l (xa, xb ++ text, xn)) := sorted_lower HPM2.out.2 (hp2.trans HPM2.out.1) hs2
  have ST7 := Lib.hid (OT.out.st.grown hg7 (fun k hk => (Own.block OT.out.row k hk).1))
  have bo7 := Blk.kept OT.out.out hg7 (fun e => OT.out.ne e.symm)
  rw [HLN.out] at ho2 bo7
  have OU := Lib.hid ho2
  have BO7 := Lib.hid bo7
  clear ho2 bo7 hg7 hs2 hp2 HPM2 HCS o0 o1
  have o0 := Blk.cell BO7.out 0
  simp only [List.getElem?_cons_zero] at o0
  have CF := fun wx h => iDiskOk_big (.agg #[.slice (some ⟨g, 0, none⟩) (putL l (xa, xb ++ text, xn)).length c4]) (putL l (xa, xb ++ text, xn)) wx hrl hrs h
  by_cases hgr : DiskGood (putL l (xa, xb ++ text, xn))
  · have V := Lib.hid (lastR_yes hgr)
    rw [decide_eq_true hgr] at CF
    have HCF := Lib.hid CF
    clear CF hgr
    go_wp2_with fail
    refine (HCF.out _ ⟨_, _, rfl, (OwnF.rdAt OU.out)⟩).mono ?_
    rintro e w8 ⟨rfl, hb8⟩
    have ST8 := Lib.hid (ST7.out.below hb8)
    have r0 := Blk.cell ST8.out.res 0
    have r1 := Blk.frozen ST8.out.res 0
    have bo8 := Blk.below BO7.out hb8 BO7.out.lt
    have o8 := Blk.cell bo8 0
    simp only [List.getElem?_cons_zero] at r0 o8
    have OU8 := Lib.hid (Own.below OU.out hb8 (Nat.le_refl _))
    clear hb8 bo8 o0
    have E2 := Lib.hid (Blk.set_ ST8.out.res 0 (.slice (some ⟨g, 0, none⟩) (putL l (xa, xb ++ text, xn)).length c4))
    have FB := Lib.hid (ST8.out.low.setCell (p := ⟨w.heap.size + 2, 0, none⟩) (by simp only; omega) (.slice (some ⟨g, 0, none⟩) (putL l (xa, xb ++ text, xn)).length c4))
    have FO := Lib.hid ((Own.setCell (a := ⟨w.heap.size + 2, 0, none⟩) OU8.out (by simp only; omega) (.slice (some ⟨g, 0, none⟩) (putL l (xa, xb ++ text, xn)).length c4)).mono (show w.heap.size ≤ w.heap.size + 3 by omega))
    go_wp2_with fail
    refine bodyPost_ret (results_cell_row_tmp rfl _ _ _ (w.heap.size + 2) 29 #[.slice (some ⟨g, 0, none⟩) (putL l (xa, xb ++ text, xn)).length c4] (0, 0) _ _ rfl rfl E2.out Try.underlying29 (by kernel_rfl)) rfl ?_
    rw [V.out]
    exact ⟨⟨_, _, rfl, rfl, FO.out⟩, FB.out⟩
  · have V := Lib.hid (lastR_no hgr)
    rw [decide_eq_false hgr] at CF
    have HCF := Lib.hid CF
    clear CF hgr
    go_wp2_with fail
    refine (HCF.out _ ⟨_, _, rfl, (OwnF.rdAt OU.out)⟩).mono ?_
    rintro e w8 ⟨rfl, hb8⟩
    have ST8 := Lib.hid (ST7.out.below hb8)
    have r0 := Blk.cell ST8.out.res 0
    have r1 := Blk.frozen ST8.out.res 0
    simp only [List.getElem?_cons_zero] at r0
    clear hb8 o0
    have E2 := Lib.hid (Blk.set_ ST8.out.res 0 (.slice none 0 0))
    have FB := Lib.hid (ST8.out.low.setCell (p := ⟨w.heap.size + 2, 0, none⟩) (by simp only; omega) (.slice none 0 0))
    go_wp2_with fail
    refine bodyPost_ret (results_cell_row_tmp rfl _ _ _ (w.heap.size + 2) 29 #[.slice none 0 0] (0, 0) _ _ rfl rfl E2.out Try.underlying29 (by kernel_rfl)) rfl ?_
    rw [V.out]
    exact ⟨⟨_, _, rfl, rfl, Own.nil _ _ _⟩, FB.out⟩

set_option maxHeartbeats 4000000 in
set_option maxRecDepth 100000 in
theorem iDo_add_new (ao : Option Addr) (cap : Nat) (l : List Fl) (name text dst : ByteArray) (w : World) (hl : l.length ≤ 1048576) (hs : ∀ x ∈ l, x.1.size ≤ 1048576 ∧ x.2.1.size ≤ 1048576) (hr : RdF w ao l) (hg : DiskGood l) (hk : KindGood (1, name, text, dst)) (hat : text.size ≤ 1048576) (hp : posF l name = none) :
    Calls Try.prog 54 #[.agg #[.slice ao l.length cap], .agg #[.int .i64 1, .string name, .string text, .string dst]] w fun e w' => GivesK2 w.heap.size (lastV (putL l (name, (⟨#[]⟩ : ByteArray) ++ text, 0))).1 (.bool (lastV (putL l (name, (⟨#[]⟩ : ByteArray) ++ text, 0))).2) e w' ∧ Below w.heap.size w w' := by
  have hl30 := hg.1
  have hlw := hg.2.2
  have hnm : name.size ≤ 8 := hk.2.1.2
  have hrl : (putL l (name, (⟨#[]⟩ : ByteArray) ++ text, 0)).length ≤ 1048576 := put_len _ hg.1
  have hrs : ∀ x ∈ putL l (name, (⟨#[]⟩ : ByteArray) ++ text, 0), x.1.size ≤ 2097152 ∧ x.2.1.size ≤ 2097152 := put_size (fun x hx => ⟨by have := (hs x hx).1; omega, by have := (hs x hx).2; omega⟩) (by simp only; omega) (by simp only; rw [ByteArray.size_append]; show 0 + text.size ≤ _; omega)
  have hE : (l ++ [(name, (⟨#[]⟩ : ByteArray), (0 : Int))]).set l.length (name, (⟨#[]⟩ : ByteArray) ++ text, 0) = l ++ [(name, (⟨#[]⟩ : ByteArray) ++ text, 0)] := by rw [List.set_append_right _ _ (Nat.le_refl _)]; simp
  have hPM : ((l ++ [(name, (⟨#[]⟩ : ByteArray), (0 : Int))]).set l.length (name, (⟨#[]⟩ : ByteArray) ++ text, 0)).Perm (putL l (name, (⟨#[]⟩ : ByteArray) ++ text, 0)) ∧ (putL l (name, (⟨#[]⟩ : ByteArray) ++ text, 0)).Pairwise Lower := by rw [hE]; exact ⟨put_new (f := (name, (⟨#[]⟩ : ByteArray) ++ text, 0)) hp, putL_lower hlw (name, (⟨#[]⟩ : ByteArray) ++ text, 0)⟩
  have HPM0 := Lib.hid hPM
  clear hE hPM
  have hst := DoSt.start w 29 67 (.slice ao l.length cap) (1, name, text, dst) _ rfl
  have R := Lib.hid (fun W hW => hr.below (C := w.heap.size) (w' := W) hW (Nat.le_refl _))
  have CA := iAt_any (.agg #[.slice ao l.length cap]) l name _ hl ⟨ao, cap, rfl, R.out _ hst.low⟩
  rw [posV_none hp] at CA
  have HCA := Lib.hid CA
  have ST0 := Lib.hid hst
  clear CA hst hr
  go_enter Try.func54, Try.ntmps54
  go_wp2_with fail
  refine HCA.out.mono ?_
  rintro e w1 ⟨rfl, hb1⟩
  have ST1 := Lib.hid (ST0.out.below hb1)
  clear hb1 HCA ST0
  have c0 := Blk.cell ST1.out.box 0
  have k0 := Blk.cell ST1.out.act 0
  have k1 := Blk.cell ST1.out.act 1
  have k2 := Blk.cell ST1.out.act 2
  have k3 := Blk.cell ST1.out.act 3
  simp only [List.getElem?_cons_zero, List.getElem?_cons_succ] at c0 k0 k1 k2 k3
  have CD := iDiskOk_any (.agg #[.slice ao l.length cap]) l w1 hl hs ⟨ao, cap, rfl, R.out _ ST1.out.low⟩
  rw [decide_eq_true hg] at CD
  have HCD := Lib.hid CD
  clear CD
  go_wp2_with fail
  refine HCD.out.mono ?_
  rintro e w2 ⟨rfl, hb2⟩
  have ST2 := Lib.hid (ST1.out.below hb2)
  clear hb2 HCD ST1
  clear c0 k0 k1 k2 k3
  have c0 := Blk.cell ST2.out.box 0
  have k0 := Blk.cell ST2.out.act 0
  have k1 := Blk.cell ST2.out.act 1
  have k2 := Blk.cell ST2.out.act 2
  have k3 := Blk.cell ST2.out.act 3
  simp only [List.getElem?_cons_zero, List.getElem?_cons_succ] at c0 k0 k1 k2 k3
  have CK := iActOk_any (1, name, text, dst) w2
  rw [decide_eq_true hk] at CK
  simp only at CK
  have HCK := Lib.hid CK
  clear CK
  go_wp2_with fail
  refine HCK.out.mono ?_
  rintro e w3 ⟨rfl, hb3⟩
  have ST3 := Lib.hid (ST2.out.below hb3)
  clear hb3 HCK ST2
  clear c0 k0 k1 k2 k3
  have c0 := Blk.cell ST3.out.box 0
  have k0 := Blk.cell ST3.out.act 0
  have k1 := Blk.cell ST3.out.act 1
  have k2 := Blk.cell ST3.out.act 2
  have k3 := Blk.cell ST3.out.act 3
  simp only [List.getElem?_cons_zero, List.getElem?_cons_succ] at c0 k0 k1 k2 k3
  have CC := Lib.hid (iCopy_any (.agg #[.slice ao l.length cap]) l w3 hl ⟨ao, cap, rfl, R.out _ ST3.out.low⟩)
  go_wp2_with fail
  refine CC.out.mono ?_
  rintro e w4 ⟨⟨v4, u4, rfl, ho⟩, hb4⟩
  obtain ⟨rfl, ho⟩ := ho
  have l3 := ST3.out.size
  have ho := Own.mono ho l3
  obtain ⟨q4, c4, rfl⟩ := Own.shape ho
  have ST4 := Lib.hid (ST3.out.below hb4)
  clear hb4 CC ST3 l3
  clear c0 k0 k1 k2 k3
  have c0 := Blk.cell ST4.out.box 0
  have k0 := Blk.cell ST4.out.act 0
  have k1 := Blk.cell ST4.out.act 1
  have k2 := Blk.cell ST4.out.act 2
  have k3 := Blk.cell ST4.out.act 3
  simp only [List.getElem?_cons_zero, List.getElem?_cons_succ] at c0 k0 k1 k2 k3
  have OS := Lib.hid (OutSt.start ST4.out ho)
  clear ho
  go_upto_region 5 with fail
  generalize w4.alloc (.cells #[.slice q4 l.length c4] 29) = W5 at *
  clear c0 k0 k1 k2 k3
  clear ST4
  have hob := OS.out.ge
  have c0 := Blk.cell OS.out.st.box 0
  have k0 := Blk.cell OS.out.st.act 0
  have k1 := Blk.cell OS.out.st.act 1
  have k2 := Blk.cell OS.out.st.act 2
  have k3 := Blk.cell OS.out.st.act 3
  simp only [List.getElem?_cons_zero, List.getElem?_cons_succ] at c0 k0 k1 k2 k3
  have o0 := Blk.cell OS.out.out 0
  have o1 := Blk.frozen OS.out.out 0
  simp only [List.getElem?_cons_zero] at o0
  generalize hob2 : w4.heap.size = ob at *
  clear hob2
  have hsz5 := OS.out.st.size
  obtain ⟨l6, hl6e⟩ : ∃ l6, l ++ [(name, (⟨#[]⟩ : ByteArray), (0 : Int))] = l6 := ⟨_, rfl⟩
  have HL6 := Lib.hid hl6e
  rw [hl6e] at HPM0
  clear hl6e
  go_wp2_with (at_builtin; (refine wpList_push_cells W5 _ rfl _ _ 27 rfl 49 Try.underlying27 _ 3 40 rfl Try.infoFile (w.heap.size + 3) _ l.length (fileC l) rfl OS.out.row _ (fileC [(name, (⟨#[]⟩ : ByteArray), (0 : Int))]) rfl (fileC_one _) 1 1 rfl _ rfl rfl (by omega) (by decide) hsz5 rfl ?_; intro v6 w6 ho6 hg6 hb6; have ho6 := own_more HL6.out ho6; obtain ⟨q6, c6, rfl⟩ := Own.shape ho6; have bo6 := Blk.kept OS.out.out hg6 (fun e => OS.out.ne e.symm); have b0 := Blk.cell bo6 0; have b1 := Blk.frozen bo6 0; simp only [List.getElem?_cons_zero] at b0; have OP := Lib.hid (OS.out.push ho6 hg6 (by rw [← HL6.out]; simp)); have kb := Blk.cell (OS.out.st.grown hg6 (fun k hk => (Own.block OS.out.row k hk).1)).act 1; clear ho6 hg6 hb6 bo6))
  replace OP : Hid (OutSt w 29 67 (.slice ao l.length cap) _ ob (.slice q6 l6.length c6) l6 (w6.setCell ⟨ob, 0, none⟩ (.slice q6 l6.length c6))) := OP
  generalize w6.setCell ⟨ob, 0, none⟩ (.slice q6 l6.length c6) = W6 at *
  clear c0 k0 k1 k2 k3
  clear o0 o1 b0 b1 OS kb
  have hx6 : l6[l.length]? = some (name, (⟨#[]⟩ : ByteArray), (0 : Int)) := by rw [← HL6.out]; simp
  have hl6 : l6.length = l.length + 1 := by rw [← HL6.out]; simp
  have hll : l.length < l6.length := by omega
  have i0 : (0 : Int) ≤ (l.length : Int) := Int.natCast_nonneg _
  obtain ⟨g, rfl⟩ := OP.out.row_some (by omega)
  have hgb := Own.block OP.out.row g rfl
  have hgo : ¬ ob = g := fun e => OP.out.ne (by rw [e]; rfl)
  have hgo' : ¬ g = ob := fun e => hgo e.symm
  obtain ⟨⟨e0, e1, e2⟩, f0, f1, f2⟩ := Own.fileAt OP.out.row hx6
  simp only at e0 e1 e2
  have c0 := Blk.cell OP.out.st.box 0
  have k0 := Blk.cell OP.out.st.act 0
  have k1 := Blk.cell OP.out.st.act 1
  have k2 := Blk.cell OP.out.st.act 2
  have k3 := Blk.cell OP.out.st.act 3
  simp only [List.getElem?_cons_zero, List.getElem?_cons_succ] at c0 k0 k1 k2 k3
  have o0 := Blk.cell OP.out.out 0
  have o1 := Blk.frozen OP.out.out 0
  simp only [List.getElem?_cons_zero] at o0
  go_wp2_with fail
  go_region
  have OT := Lib.hid ((OP.out.store (j := l.length * 3 + 1) (by omega) (fileC_text hx6 ((⟨#[]⟩ : ByteArray) ++ text)) (by rw [List.length_set])).drewN 1)
  have HPM := HPM0.out
  have hl1z : (l6.set l.length (name, (⟨#[]⟩ : ByteArray) ++ text, 0)).length ≤ 31 := by rw [List.length_set]; omega
  replace OT : Hid (OutSt w 29 67 (.slice ao l.length cap) _ ob (.slice (some ⟨g, 0, none⟩) (l6.set l.length (name, (⟨#[]⟩ : ByteArray) ++ text, 0)).length c6) (l6.set l.length (name, (⟨#[]⟩ : ByteArray) ++ text, 0)) (W6.setCell ⟨g, l.length * 3 + 1, none⟩ (.string ((⟨#[]⟩ : ByteArray) ++ text))).drew) := OT
  generalize (W6.setCell ⟨g, l.length * 3 + 1, none⟩ (.string ((⟨#[]⟩ : ByteArray) ++ text))).drew = WT at *
  clear c0 k0 k1 k2 k3
  clear hx6 e0 e1 e2 f0 f1 f2 o0 o1  OP
  generalize l6.set l.length (name, (⟨#[]⟩ : ByteArray) ++ text, 0) = l1 at *
  have hlen : l1.length = (putL l (name, (⟨#[]⟩ : ByteArray) ++ text, 0)).length := HPM.1.length_eq
  have hl1k : l1.length ≤ 1000 := by omega
  have CS := sort_any ob (.slice (some ⟨g, 0, none⟩) l1.length c6) l1 WT (w.heap.size + 3) OT.out.out OT.out.row OT.out.ne hl1k
  have HCS := Lib.hid CS
  clear CS
  have o0 := Blk.cell OT.out.out 0
  have o1 := Blk.frozen OT.out.out 0
  simp only [List.getElem?_cons_zero] at o0
  have HPM2 := Lib.hid HPM
  have HLN := Lib.hid hlen
  clear HPM hlen
  go_wp2_with fail
  refine HCS.out.mono ?_
  rintro e w7 ⟨⟨rfl, l2, hp2, hs2, ho2⟩, hg7⟩
  obtain rfl : l2 = (putL l (name, (⟨#[]⟩ : ByteArray) ++ text, 0)) := sorted_lower HPM2.out.2 (hp2.trans HPM2.out.1) hs2
  have ST7 := Lib.hid (OT.out.st.grown hg7 (fun k hk => (Own.block OT.out.row k hk).1))
  have bo7 := Blk.kept OT.out.out hg7 (fun e => OT.out.ne e.symm)
  rw [HLN.out] at ho2 bo7
  have OU := Lib.hid ho2
  have BO7 := Lib.hid bo7
  clear ho2 bo7 hg7 hs2 hp2 HPM2 HCS o0 o1
  have o0 := Blk.cell BO7.out 0
  simp only [List.getElem?_cons_zero] at o0
  have CF := fun wx h => iDiskOk_big (.agg #[.slice (some ⟨g, 0, none⟩) (putL l (name, (⟨#[]⟩ : ByteArray) ++ text, 0)).length c6]) (putL l (name, (⟨#[]⟩ : ByteArray) ++ text, 0)) wx hrl hrs h
  by_cases hgr : DiskGood (putL l (name, (⟨#[]⟩ : ByteArray) ++ text, 0))
  · have V := Lib.hid (lastR_yes hgr)
    rw [decide_eq_true hgr] at CF
    have HCF := Lib.hid CF
    clear CF hgr
    go_wp2_with fail
    refine (HCF.out _ ⟨_, _, rfl, (OwnF.rdAt OU.out)⟩).mono ?_
    rintro e w8 ⟨rfl, hb8⟩
    have ST8 := Lib.hid (ST7.out.below hb8)
    have r0 := Blk.cell ST8.out.res 0
    have r1 := Blk.frozen ST8.out.res 0
    have bo8 := Blk.below BO7.out hb8 BO7.out.lt
    have o8 := Blk.cell bo8 0
    simp only [List.getElem?_cons_zero] at r0 o8
    have OU8 := Lib.hid (Own.below OU.out hb8 (Nat.le_refl _))
    clear hb8 bo8 o0
    have E2 := Lib.hid (Blk.set_ ST8.out.res 0 (.slice (some ⟨g, 0, none⟩) (putL l (name, (⟨#[]⟩ : ByteArray) ++ text, 0)).length c6))
    have FB := Lib.hid (ST8.out.low.setCell (p := ⟨w.heap.size + 2, 0, none⟩) (by simp only; omega) (.slice (some ⟨g, 0, none⟩) (putL l (name, (⟨#[]⟩ : ByteArray) ++ text, 0)).length c6))
    have FO := Lib.hid ((Own.setCell (a := ⟨w.heap.size + 2, 0, none⟩) OU8.out (by simp only; omega) (.slice (some ⟨g, 0, none⟩) (putL l (name, (⟨#[]⟩ : ByteArray) ++ text, 0)).length c6)).mono (show w.heap.size ≤ w.heap.size + 3 by omega))
    go_wp2_with fail
    refine bodyPost_ret (results_cell_row_tmp rfl _ _ _ (w.heap.size + 2) 29 #[.slice (some ⟨g, 0, none⟩) (putL l (name, (⟨#[]⟩ : ByteArray) ++ text, 0)).length c6] (0, 0) _ _ rfl rfl E2.out Try.underlying29 (by kernel_rfl)) rfl ?_
    rw [V.out]
    exact ⟨⟨_, _, rfl, rfl, FO.out⟩, FB.out⟩
  · have V := Lib.hid (lastR_no hgr)
    rw [decide_eq_false hgr] at CF
    have HCF := Lib.hid CF
    clear CF hgr
    go_wp2_with fail
    refine (HCF.out _ ⟨_, _, rfl, (OwnF.rdAt OU.out)⟩).mono ?_
    rintro e w8 ⟨rfl, hb8⟩
    have ST8 := Lib.hid (ST7.out.below hb8)
    have r0 := Blk.cell ST8.out.res 0
    have r1 := Blk.frozen ST8.out.res 0
    simp only [List.getElem?_cons_zero] at r0
    clear hb8 o0
    have E2 := Lib.hid (Blk.set_ ST8.out.res 0 (.slice none 0 0))
    have FB := Lib.hid (ST8.out.low.setCell (p := ⟨w.heap.size + 2, 0, none⟩) (by simp only; omega) (.slice none 0 0))
    go_wp2_with fail
    refine bodyPost_ret (results_cell_row_tmp rfl _ _ _ (w.heap.size + 2) 29 #[.slice none 0 0] (0, 0) _ _ rfl rfl E2.out Try.underlying29 (by kernel_rfl)) rfl ?_
    rw [V.out]
    exact ⟨⟨_, _, rfl, rfl, Own.nil _ _ _⟩, FB.out⟩

set_option maxHeartbeats 4000000 in
set_option maxRecDepth 100000 in
theorem iDo_drop (ao : Option Addr) (cap : Nat) (l : List Fl) (name text dst : ByteArray) (w : World) (hl : l.length ≤ 1048576) (hs : ∀ x ∈ l, x.1.size ≤ 1048576 ∧ x.2.1.size ≤ 1048576) (hr : RdF w ao l) (hg : DiskGood l) (hk : KindGood (4, name, text, dst)) (k : Nat) (xa xb : ByteArray) (xn : Int) (hx : l[k]? = some (xa, xb, xn)) (hp : posF l name = some k) :
    Calls Try.prog 54 #[.agg #[.slice ao l.length cap], .agg #[.int .i64 4, .string name, .string text, .string dst]] w fun e w' => GivesK2 w.heap.size (lastV (outL l name)).1 (.bool (lastV (outL l name)).2) e w' ∧ Below w.heap.size w w' := by
  obtain ⟨m1, m2, m3, m4⟩ := fl_bound hx hg
  have hl30 := hg.1
  have hlw := hg.2.2
  have hkl := (List.getElem?_eq_some_iff.1 hx).1
  have i0 : (0 : Int) ≤ (k : Int) := Int.natCast_nonneg _
  have hrl : (outL l name).length ≤ 1048576 := Nat.le_trans (List.length_filter_le _ _) hl
  have hrs : ∀ x ∈ outL l name, x.1.size ≤ 2097152 ∧ x.2.1.size ≤ 2097152 := fun x hx => ⟨by have := (hs x (List.mem_filter.1 hx).1).1; omega, by have := (hs x (List.mem_filter.1 hx).1).2; omega⟩
  have hPM : (l.eraseIdx k).Perm (outL l name) ∧ (outL l name).Pairwise Lower := ⟨by rw [outL_at hlw hp], outL_lower hlw name⟩
  have HPM0 := Lib.hid hPM
  clear hPM
  have hst := DoSt.start w 29 67 (.slice ao l.length cap) (4, name, text, dst) _ rfl
  have R := Lib.hid (fun W hW => hr.below (C := w.heap.size) (w' := W) hW (Nat.le_refl _))
  have CA := iAt_any (.agg #[.slice ao l.length cap]) l name _ hl ⟨ao, cap, rfl, R.out _ hst.low⟩
  rw [posV_some hp] at CA
  have HCA := Lib.hid CA
  have ST0 := Lib.hid hst
  clear CA hst hr
  go_enter Try.func54, Try.ntmps54
  go_wp2_with fail
  refine HCA.out.mono ?_
  rintro e w1 ⟨rfl, hb1⟩
  have ST1 := Lib.hid (ST0.out.below hb1)
  clear hb1 HCA ST0
  have c0 := Blk.cell ST1.out.box 0
  have k0 := Blk.cell ST1.out.act 0
  have k1 := Blk.cell ST1.out.act 1
  have k2 := Blk.cell ST1.out.act 2
  have k3 := Blk.cell ST1.out.act 3
  simp only [List.getElem?_cons_zero, List.getElem?_cons_succ] at c0 k0 k1 k2 k3
  have CD := iDiskOk_any (.agg #[.slice ao l.length cap]) l w1 hl hs ⟨ao, cap, rfl, R.out _ ST1.out.low⟩
  rw [decide_eq_true hg] at CD
  have HCD := Lib.hid CD
  clear CD
  go_wp2_with fail
  refine HCD.out.mono ?_
  rintro e w2 ⟨rfl, hb2⟩
  have ST2 := Lib.hid (ST1.out.below hb2)
  clear hb2 HCD ST1
  clear c0 k0 k1 k2 k3
  have c0 := Blk.cell ST2.out.box 0
  have k0 := Blk.cell ST2.out.act 0
  have k1 := Blk.cell ST2.out.act 1
  have k2 := Blk.cell ST2.out.act 2
  have k3 := Blk.cell ST2.out.act 3
  simp only [List.getElem?_cons_zero, List.getElem?_cons_succ] at c0 k0 k1 k2 k3
  have CK := iActOk_any (4, name, text, dst) w2
  rw [decide_eq_true hk] at CK
  simp only at CK
  have HCK := Lib.hid CK
  clear CK
  go_wp2_with fail
  refine HCK.out.mono ?_
  rintro e w3 ⟨rfl, hb3⟩
  have ST3 := Lib.hid (ST2.out.below hb3)
  clear hb3 HCK ST2
  clear c0 k0 k1 k2 k3
  have c0 := Blk.cell ST3.out.box 0
  have k0 := Blk.cell ST3.out.act 0
  have k1 := Blk.cell ST3.out.act 1
  have k2 := Blk.cell ST3.out.act 2
  have k3 := Blk.cell ST3.out.act 3
  simp only [List.getElem?_cons_zero, List.getElem?_cons_succ] at c0 k0 k1 k2 k3
  have CC := Lib.hid (iCopy_any (.agg #[.slice ao l.length cap]) l w3 hl ⟨ao, cap, rfl, R.out _ ST3.out.low⟩)
  go_wp2_with fail
  refine CC.out.mono ?_
  rintro e w4 ⟨⟨v4, u4, rfl, ho⟩, hb4⟩
  obtain ⟨rfl, ho⟩ := ho
  have l3 := ST3.out.size
  have ho := Own.mono ho l3
  obtain ⟨q4, c4, rfl⟩ := Own.shape ho
  have ST4 := Lib.hid (ST3.out.below hb4)
  clear hb4 CC ST3 l3
  clear c0 k0 k1 k2 k3
  have c0 := Blk.cell ST4.out.box 0
  have k0 := Blk.cell ST4.out.act 0
  have k1 := Blk.cell ST4.out.act 1
  have k2 := Blk.cell ST4.out.act 2
  have k3 := Blk.cell ST4.out.act 3
  simp only [List.getElem?_cons_zero, List.getElem?_cons_succ] at c0 k0 k1 k2 k3
  have OS := Lib.hid (OutSt.start ST4.out ho)
  clear ho
  go_upto_region 5 with fail
  generalize w4.alloc (.cells #[.slice q4 l.length c4] 29) = W5 at *
  clear c0 k0 k1 k2 k3
  clear ST4
  have hob := OS.out.ge
  have c0 := Blk.cell OS.out.st.box 0
  have k0 := Blk.cell OS.out.st.act 0
  have k1 := Blk.cell OS.out.st.act 1
  have k2 := Blk.cell OS.out.st.act 2
  have k3 := Blk.cell OS.out.st.act 3
  simp only [List.getElem?_cons_zero, List.getElem?_cons_succ] at c0 k0 k1 k2 k3
  have o0 := Blk.cell OS.out.out 0
  have o1 := Blk.frozen OS.out.out 0
  simp only [List.getElem?_cons_zero] at o0
  generalize hob2 : w4.heap.size = ob at *
  clear hob2
  obtain ⟨g, rfl⟩ := OS.out.row_some (by omega)
  have hgb := Own.block OS.out.row g rfl
  have hgo : ¬ ob = g := fun e => OS.out.ne (by rw [e]; rfl)
  have CW := Lib.hid (iWithout_any ob g c4 k l W5 OS.out.out OS.out.row_at hgo hkl (by omega))
  go_wp2_with fail
  refine CW.out.mono ?_
  rintro e WT ⟨⟨rfl, hb6, hr6⟩, ht6⟩
  have OT := Lib.hid (OS.out.erase hb6 hr6 ht6)
  have HPM := HPM0.out
  have hl1z : (l.eraseIdx k).length ≤ 31 := by rw [List.length_eraseIdx]; split <;> omega
  clear hb6 hr6 ht6 CW OS o0 o1 HPM0
  clear c0 k0 k1 k2 k3
  generalize l.eraseIdx k = l1 at *
  have hlen : l1.length = (outL l name).length := HPM.1.length_eq
  have hl1k : l1.length ≤ 1000 := by omega
  have CS := sort_any ob (.slice (some ⟨g, 0, none⟩) l1.length c4) l1 WT (w.heap.size + 3) OT.out.out OT.out.row OT.out.ne hl1k
  have HCS := Lib.hid CS
  clear CS
  have o0 := Blk.cell OT.out.out 0
  have o1 := Blk.frozen OT.out.out 0
  simp only [List.getElem?_cons_zero] at o0
  have HPM2 := Lib.hid HPM
  have HLN := Lib.hid hlen
  clear HPM hlen
  go_wp2_with fail
  refine HCS.out.mono ?_
  rintro e w7 ⟨⟨rfl, l2, hp2, hs2, ho2⟩, hg7⟩
  obtain rfl : l2 = (outL l name) := sorted_lower HPM2.out.2 (hp2.trans HPM2.out.1) hs2
  have ST7 := Lib.hid (OT.out.st.grown hg7 (fun k hk => (Own.block OT.out.row k hk).1))
  have bo7 := Blk.kept OT.out.out hg7 (fun e => OT.out.ne e.symm)
  rw [HLN.out] at ho2 bo7
  have OU := Lib.hid ho2
  have BO7 := Lib.hid bo7
  clear ho2 bo7 hg7 hs2 hp2 HPM2 HCS o0 o1
  have o0 := Blk.cell BO7.out 0
  simp only [List.getElem?_cons_zero] at o0
  have CF := fun wx h => iDiskOk_big (.agg #[.slice (some ⟨g, 0, none⟩) (outL l name).length c4]) (outL l name) wx hrl hrs h
  by_cases hgr : DiskGood (outL l name)
  · have V := Lib.hid (lastR_yes hgr)
    rw [decide_eq_true hgr] at CF
    have HCF := Lib.hid CF
    clear CF hgr
    go_wp2_with fail
    refine (HCF.out _ ⟨_, _, rfl, (OwnF.rdAt OU.out)⟩).mono ?_
    rintro e w8 ⟨rfl, hb8⟩
    have ST8 := Lib.hid (ST7.out.below hb8)
    have r0 := Blk.cell ST8.out.res 0
    have r1 := Blk.frozen ST8.out.res 0
    have bo8 := Blk.below BO7.out hb8 BO7.out.lt
    have o8 := Blk.cell bo8 0
    simp only [List.getElem?_cons_zero] at r0 o8
    have OU8 := Lib.hid (Own.below OU.out hb8 (Nat.le_refl _))
    clear hb8 bo8 o0
    have E2 := Lib.hid (Blk.set_ ST8.out.res 0 (.slice (some ⟨g, 0, none⟩) (outL l name).length c4))
    have FB := Lib.hid (ST8.out.low.setCell (p := ⟨w.heap.size + 2, 0, none⟩) (by simp only; omega) (.slice (some ⟨g, 0, none⟩) (outL l name).length c4))
    have FO := Lib.hid ((Own.setCell (a := ⟨w.heap.size + 2, 0, none⟩) OU8.out (by simp only; omega) (.slice (some ⟨g, 0, none⟩) (outL l name).length c4)).mono (show w.heap.size ≤ w.heap.size + 3 by omega))
    go_wp2_with fail
    refine bodyPost_ret (results_cell_row_tmp rfl _ _ _ (w.heap.size + 2) 29 #[.slice (some ⟨g, 0, none⟩) (outL l name).length c4] (0, 0) _ _ rfl rfl E2.out Try.underlying29 (by kernel_rfl)) rfl ?_
    rw [V.out]
    exact ⟨⟨_, _, rfl, rfl, FO.out⟩, FB.out⟩
  · have V := Lib.hid (lastR_no hgr)
    rw [decide_eq_false hgr] at CF
    have HCF := Lib.hid CF
    clear CF hgr
    go_wp2_with fail
    refine (HCF.out _ ⟨_, _, rfl, (OwnF.rdAt OU.out)⟩).mono ?_
    rintro e w8 ⟨rfl, hb8⟩
    have ST8 := Lib.hid (ST7.out.below hb8)
    have r0 := Blk.cell ST8.out.res 0
    have r1 := Blk.frozen ST8.out.res 0
    simp only [List.getElem?_cons_zero] at r0
    clear hb8 o0
    have E2 := Lib.hid (Blk.set_ ST8.out.res 0 (.slice none 0 0))
    have FB := Lib.hid (ST8.out.low.setCell (p := ⟨w.heap.size + 2, 0, none⟩) (by simp only; omega) (.slice none 0 0))
    go_wp2_with fail
    refine bodyPost_ret (results_cell_row_tmp rfl _ _ _ (w.heap.size + 2) 29 #[.slice none 0 0] (0, 0) _ _ rfl rfl E2.out Try.underlying29 (by kernel_rfl)) rfl ?_
    rw [V.out]
    exact ⟨⟨_, _, rfl, rfl, Own.nil _ _ _⟩, FB.out⟩

end Go.Proofs.Ytdecehecjlbbiaa

/-! The walks of the program's DoAct, case by case: where a file is moved. -/
namespace Go.Proofs.Ytdecehecjlbbiaa
open Go.RowKit

set_option maxHeartbeats 4000000 in
set_option maxRecDepth 100000 in
theorem iDo_move_same (ao : Option Addr) (cap : Nat) (l : List Fl) (name text dst : ByteArray) (w : World) (hl : l.length ≤ 1048576) (hs : ∀ x ∈ l, x.1.size ≤ 1048576 ∧ x.2.1.size ≤ 1048576) (hr : RdF w ao l) (hg : DiskGood l) (hk : KindGood (3, name, text, dst)) (k : Nat) (xb : ByteArray) (xn : Int) (hx : l[k]? = some (name, xb, xn)) (hp : posF l name = some k) (hq : dst = name) :
    Calls Try.prog 54 #[.agg #[.slice ao l.length cap], .agg #[.int .i64 3, .string name, .string text, .string dst]] w fun e w' => GivesK2 w.heap.size [] (.bool false) e w' ∧ Below w.heap.size w w' := by
  obtain rfl := hq
  have z1 : (dst.toList == dst.toList) = true := beq_self_eq_true _
  obtain ⟨m1, m2, m3, m4⟩ := fl_bound hx hg
  have hl30 := hg.1
  have hlw := hg.2.2
  have hkl := (List.getElem?_eq_some_iff.1 hx).1
  have i0 : (0 : Int) ≤ (k : Int) := Int.natCast_nonneg _
  have hst := DoSt.start w 29 67 (.slice ao l.length cap) (3, dst, text, dst) _ rfl
  have R := Lib.hid (fun W hW => hr.below (C := w.heap.size) (w' := W) hW (Nat.le_refl _))
  have CA := iAt_any (.agg #[.slice ao l.length cap]) l dst _ hl ⟨ao, cap, rfl, R.out _ hst.low⟩
  rw [posV_some hp] at CA
  have HCA := Lib.hid CA
  have ST0 := Lib.hid hst
  clear CA hst hr
  go_enter Try.func54, Try.ntmps54
  go_wp2_with fail
  refine HCA.out.mono ?_
  rintro e w1 ⟨rfl, hb1⟩
  have ST1 := Lib.hid (ST0.out.below hb1)
  clear hb1 HCA ST0
  have c0 := Blk.cell ST1.out.box 0
  have k0 := Blk.cell ST1.out.act 0
  have k1 := Blk.cell ST1.out.act 1
  have k2 := Blk.cell ST1.out.act 2
  have k3 := Blk.cell ST1.out.act 3
  simp only [List.getElem?_cons_zero, List.getElem?_cons_succ] at c0 k0 k1 k2 k3
  have CD := iDiskOk_any (.agg #[.slice ao l.length cap]) l w1 hl hs ⟨ao, cap, rfl, R.out _ ST1.out.low⟩
  rw [decide_eq_true hg] at CD
  have HCD := Lib.hid CD
  clear CD
  go_wp2_with fail
  refine HCD.out.mono ?_
  rintro e w2 ⟨rfl, hb2⟩
  have ST2 := Lib.hid (ST1.out.below hb2)
  clear hb2 HCD ST1
  clear c0 k0 k1 k2 k3
  have c0 := Blk.cell ST2.out.box 0
  have k0 := Blk.cell ST2.out.act 0
  have k1 := Blk.cell ST2.out.act 1
  have k2 := Blk.cell ST2.out.act 2
  have k3 := Blk.cell ST2.out.act 3
  simp only [List.getElem?_cons_zero, List.getElem?_cons_succ] at c0 k0 k1 k2 k3
  have CK := iActOk_any (3, dst, text, dst) w2
  rw [decide_eq_true hk] at CK
  simp only at CK
  have HCK := Lib.hid CK
  clear CK
  go_wp2_with fail
  refine HCK.out.mono ?_
  rintro e w3 ⟨rfl, hb3⟩
  have ST3 := Lib.hid (ST2.out.below hb3)
  clear hb3 HCK ST2
  clear c0 k0 k1 k2 k3
  have c0 := Blk.cell ST3.out.box 0
  have k0 := Blk.cell ST3.out.act 0
  have k1 := Blk.cell ST3.out.act 1
  have k2 := Blk.cell ST3.out.act 2
  have k3 := Blk.cell ST3.out.act 3
  simp only [List.getElem?_cons_zero, List.getElem?_cons_succ] at c0 k0 k1 k2 k3
  have CC := Lib.hid (iCopy_any (.agg #[.slice ao l.length cap]) l w3 hl ⟨ao, cap, rfl, R.out _ ST3.out.low⟩)
  go_wp2_with fail
  refine CC.out.mono ?_
  rintro e w4 ⟨⟨v4, u4, rfl, ho⟩, hb4⟩
  obtain ⟨rfl, ho⟩ := ho
  have l3 := ST3.out.size
  have ho := Own.mono ho l3
  obtain ⟨q4, c4, rfl⟩ := Own.shape ho
  have ST4 := Lib.hid (ST3.out.below hb4)
  clear hb4 CC ST3 l3
  clear c0 k0 k1 k2 k3
  have c0 := Blk.cell ST4.out.box 0
  have k0 := Blk.cell ST4.out.act 0
  have k1 := Blk.cell ST4.out.act 1
  have k2 := Blk.cell ST4.out.act 2
  have k3 := Blk.cell ST4.out.act 3
  simp only [List.getElem?_cons_zero, List.getElem?_cons_succ] at c0 k0 k1 k2 k3
  have OS := Lib.hid (OutSt.start ST4.out ho)
  clear ho
  go_upto_region 5 with fail
  generalize w4.alloc (.cells #[.slice q4 l.length c4] 29) = W5 at *
  clear c0 k0 k1 k2 k3
  clear ST4
  have hob := OS.out.ge
  have c0 := Blk.cell OS.out.st.box 0
  have k0 := Blk.cell OS.out.st.act 0
  have k1 := Blk.cell OS.out.st.act 1
  have k2 := Blk.cell OS.out.st.act 2
  have k3 := Blk.cell OS.out.st.act 3
  simp only [List.getElem?_cons_zero, List.getElem?_cons_succ] at c0 k0 k1 k2 k3
  have o0 := Blk.cell OS.out.out 0
  have o1 := Blk.frozen OS.out.out 0
  simp only [List.getElem?_cons_zero] at o0
  generalize hob2 : w4.heap.size = ob at *
  clear hob2
  obtain ⟨g, rfl⟩ := OS.out.row_some (by omega)
  have hgb := Own.block OS.out.row g rfl
  have hgo : ¬ ob = g := fun e => OS.out.ne (by rw [e]; rfl)
  have hgo' : ¬ g = ob := fun e => hgo e.symm
  obtain ⟨⟨e0, e1, e2⟩, f0, f1, f2⟩ := Own.fileAt OS.out.row hx
  simp only at e0 e1 e2
  go_upto_region 15 with fail
  have b6 := (Below.refl W5.heap.size W5).alloc (Nat.le_refl _) (.cells #[.string dst, .string xb, .int .i64 xn] 49)
  have OM := Lib.hid (OS.out.below b6)
  have bf := Blk.new W5 49 [.string dst, .string xb, .int .i64 xn] _ rfl
  generalize hfb : W5.heap.size = fb at *
  clear hfb b6
  generalize W5.alloc (.cells #[.string dst, .string xb, .int .i64 xn] 49) = W6 at *
  clear c0 k0 k1 k2 k3
  clear e0 e1 e2 f0 f1 f2 o0 o1 OS
  have c0 := Blk.cell OM.out.st.box 0
  have k0 := Blk.cell OM.out.st.act 0
  have k1 := Blk.cell OM.out.st.act 1
  have k2 := Blk.cell OM.out.st.act 2
  have k3 := Blk.cell OM.out.st.act 3
  simp only [List.getElem?_cons_zero, List.getElem?_cons_succ] at c0 k0 k1 k2 k3
  have f1 := Blk.cell bf 1
  have f2 := Blk.cell bf 2
  simp only [List.getElem?_cons_zero, List.getElem?_cons_succ] at f1 f2
  have r0 := Blk.cell OM.out.st.res 0
  have r1 := Blk.frozen OM.out.st.res 0
  simp only [List.getElem?_cons_zero] at r0
  have E2 := Lib.hid (Blk.set_ OM.out.st.res 0 (.slice none 0 0))
  have FB := Lib.hid (OM.out.st.low.setCell (p := ⟨w.heap.size + 2, 0, none⟩) (by simp only; omega) (.slice none 0 0))
  go_wp2_with fail
  refine bodyPost_ret (results_cell_row_tmp rfl _ _ _ (w.heap.size + 2) 29 #[.slice none 0 0] (0, 0) _ _ rfl rfl E2.out Try.underlying29 (by kernel_rfl)) rfl ?_
  exact ⟨⟨_, _, rfl, rfl, Own.nil _ _ _⟩, FB.out⟩

set_option maxHeartbeats 4000000 in
set_option maxRecDepth 100000 in
theorem iDo_move_name (ao : Option Addr) (cap : Nat) (l : List Fl) (name text dst : ByteArray) (w : World) (hl : l.length ≤ 1048576) (hs : ∀ x ∈ l, x.1.size ≤ 1048576 ∧ x.2.1.size ≤ 1048576) (hr : RdF w ao l) (hg : DiskGood l) (hk : KindGood (3, name, text, dst)) (k : Nat) (xb : ByteArray) (xn : Int) (hx : l[k]? = some (name, xb, xn)) (hp : posF l name = some k) (hq : ¬ dst = name) (hd : ¬ NameGood dst) :
    Calls Try.prog 54 #[.agg #[.slice ao l.length cap], .agg #[.int .i64 3, .string name, .string text, .string dst]] w fun e w' => GivesK2 w.heap.size [] (.bool false) e w' ∧ Below w.heap.size w w' := by
  have CN2 := fun wx => iFileName_any dst wx
  rw [within_not (by unfold NameGood at hd; omega)] at CN2
  have HCD := Lib.hid CN2
  clear CN2
  have z1 := name_ne hq
  obtain ⟨m1, m2, m3, m4⟩ := fl_bound hx hg
  have hl30 := hg.1
  have hlw := hg.2.2
  have hkl := (List.getElem?_eq_some_iff.1 hx).1
  have i0 : (0 : Int) ≤ (k : Int) := Int.natCast_nonneg _
  have hst := DoSt.start w 29 67 (.slice ao l.length cap) (3, name, text, dst) _ rfl
  have R := Lib.hid (fun W hW => hr.below (C := w.heap.size) (w' := W) hW (Nat.le_refl _))
  have CA := iAt_any (.agg #[.slice ao l.length cap]) l name _ hl ⟨ao, cap, rfl, R.out _ hst.low⟩
  rw [posV_some hp] at CA
  have HCA := Lib.hid CA
  have ST0 := Lib.hid hst
  clear CA hst hr
  go_enter Try.func54, Try.ntmps54
  go_wp2_with fail
  refine HCA.out.mono ?_
  rintro e w1 ⟨rfl, hb1⟩
  have ST1 := Lib.hid (ST0.out.below hb1)
  clear hb1 HCA ST0
  have c0 := Blk.cell ST1.out.box 0
  have k0 := Blk.cell ST1.out.act 0
  have k1 := Blk.cell ST1.out.act 1
  have k2 := Blk.cell ST1.out.act 2
  have k3 := Blk.cell ST1.out.act 3
  simp only [List.getElem?_cons_zero, List.getElem?_cons_succ] at c0 k0 k1 k2 k3
  have CD := iDiskOk_any (.agg #[.slice ao l.length cap]) l w1 hl hs ⟨ao, cap, rfl, R.out _ ST1.out.low⟩
  rw [decide_eq_true hg] at CD
  have HCD := Lib.hid CD
  clear CD
  go_wp2_with fail
  refine HCD.out.mono ?_
  rintro e w2 ⟨rfl, hb2⟩
  have ST2 := Lib.hid (ST1.out.below hb2)
  clear hb2 HCD ST1
  clear c0 k0 k1 k2 k3
  have c0 := Blk.cell ST2.out.box 0
  have k0 := Blk.cell ST2.out.act 0
  have k1 := Blk.cell ST2.out.act 1
  have k2 := Blk.cell ST2.out.act 2
  have k3 := Blk.cell ST2.out.act 3
  simp only [List.getElem?_cons_zero, List.getElem?_cons_succ] at c0 k0 k1 k2 k3
  have CK := iActOk_any (3, name, text, dst) w2
  rw [decide_eq_true hk] at CK
  simp only at CK
  have HCK := Lib.hid CK
  clear CK
  go_wp2_with fail
  refine HCK.out.mono ?_
  rintro e w3 ⟨rfl, hb3⟩
  have ST3 := Lib.hid (ST2.out.below hb3)
  clear hb3 HCK ST2
  clear c0 k0 k1 k2 k3
  have c0 := Blk.cell ST3.out.box 0
  have k0 := Blk.cell ST3.out.act 0
  have k1 := Blk.cell ST3.out.act 1
  have k2 := Blk.cell ST3.out.act 2
  have k3 := Blk.cell ST3.out.act 3
  simp only [List.getElem?_cons_zero, List.getElem?_cons_succ] at c0 k0 k1 k2 k3
  have CC := Lib.hid (iCopy_any (.agg #[.slice ao l.length cap]) l w3 hl ⟨ao, cap, rfl, R.out _ ST3.out.low⟩)
  go_wp2_with fail
  refine CC.out.mono ?_
  rintro e w4 ⟨⟨v4, u4, rfl, ho⟩, hb4⟩
  obtain ⟨rfl, ho⟩ := ho
  have l3 := ST3.out.size
  have ho := Own.mono ho l3
  obtain ⟨q4, c4, rfl⟩ := Own.shape ho
  have ST4 := Lib.hid (ST3.out.below hb4)
  clear hb4 CC ST3 l3
  clear c0 k0 k1 k2 k3
  have c0 := Blk.cell ST4.out.box 0
  have k0 := Blk.cell ST4.out.act 0
  have k1 := Blk.cell ST4.out.act 1
  have k2 := Blk.cell ST4.out.act 2
  have k3 := Blk.cell ST4.out.act 3
  simp only [List.getElem?_cons_zero, List.getElem?_cons_succ] at c0 k0 k1 k2 k3
  have OS := Lib.hid (OutSt.start ST4.out ho)
  clear ho
  go_upto_region 5 with fail
  generalize w4.alloc (.cells #[.slice q4 l.length c4] 29) = W5 at *
  clear c0 k0 k1 k2 k3
  clear ST4
  have hob := OS.out.ge
  have c0 := Blk.cell OS.out.st.box 0
  have k0 := Blk.cell OS.out.st.act 0
  have k1 := Blk.cell OS.out.st.act 1
  have k2 := Blk.cell OS.out.st.act 2
  have k3 := Blk.cell OS.out.st.act 3
  simp only [List.getElem?_cons_zero, List.getElem?_cons_succ] at c0 k0 k1 k2 k3
  have o0 := Blk.cell OS.out.out 0
  have o1 := Blk.frozen OS.out.out 0
  simp only [List.getElem?_cons_zero] at o0
  generalize hob2 : w4.heap.size = ob at *
  clear hob2
  obtain ⟨g, rfl⟩ := OS.out.row_some (by omega)
  have hgb := Own.block OS.out.row g rfl
  have hgo : ¬ ob = g := fun e => OS.out.ne (by rw [e]; rfl)
  have hgo' : ¬ g = ob := fun e => hgo e.symm
  obtain ⟨⟨e0, e1, e2⟩, f0, f1, f2⟩ := Own.fileAt OS.out.row hx
  simp only at e0 e1 e2
  go_upto_region 15 with fail
  have b6 := (Below.refl W5.heap.size W5).alloc (Nat.le_refl _) (.cells #[.string name, .string xb, .int .i64 xn] 49)
  have OM := Lib.hid (OS.out.below b6)
  have bf := Blk.new W5 49 [.string name, .string xb, .int .i64 xn] _ rfl
  generalize hfb : W5.heap.size = fb at *
  clear hfb b6
  generalize W5.alloc (.cells #[.string name, .string xb, .int .i64 xn] 49) = W6 at *
  clear c0 k0 k1 k2 k3
  clear e0 e1 e2 f0 f1 f2 o0 o1 OS
  have c0 := Blk.cell OM.out.st.box 0
  have k0 := Blk.cell OM.out.st.act 0
  have k1 := Blk.cell OM.out.st.act 1
  have k2 := Blk.cell OM.out.st.act 2
  have k3 := Blk.cell OM.out.st.act 3
  simp only [List.getElem?_cons_zero, List.getElem?_cons_succ] at c0 k0 k1 k2 k3
  have f1 := Blk.cell bf 1
  have f2 := Blk.cell bf 2
  simp only [List.getElem?_cons_zero, List.getElem?_cons_succ] at f1 f2
  have r0 := Blk.cell OM.out.st.res 0
  have r1 := Blk.frozen OM.out.st.res 0
  simp only [List.getElem?_cons_zero] at r0
  have E2 := Lib.hid (Blk.set_ OM.out.st.res 0 (.slice none 0 0))
  have FB := Lib.hid (OM.out.st.low.setCell (p := ⟨w.heap.size + 2, 0, none⟩) (by simp only; omega) (.slice none 0 0))
  go_wp2_with (go_at_call 66; refine (HCD.out _).mono ?_; rintro e w' ⟨rfl, rfl⟩)
  refine bodyPost_ret (results_cell_row_tmp rfl _ _ _ (w.heap.size + 2) 29 #[.slice none 0 0] (0, 0) _ _ rfl rfl E2.out Try.underlying29 (by kernel_rfl)) rfl ?_
  exact ⟨⟨_, _, rfl, rfl, Own.nil _ _ _⟩, FB.out⟩

set_option maxHeartbeats 4000000 in
set_option maxRecDepth 100000 in
theorem iDo_move_unkept (ao : Option Addr) (cap : Nat) (l : List Fl) (name text dst : ByteArray) (w : World) (hl : l.length ≤ 1048576) (hs : ∀ x ∈ l, x.1.size ≤ 1048576 ∧ x.2.1.size ≤ 1048576) (hr : RdF w ao l) (hg : DiskGood l) (hk : KindGood (3, name, text, dst)) (k : Nat) (xb : ByteArray) (xn : Int) (hx : l[k]? = some (name, xb, xn)) (hp : posF l name = some k) (hq : ¬ dst = name) (hd : NameGood dst) (hk2 : xn < (xb.size : Int)) :
    Calls Try.prog 54 #[.agg #[.slice ao l.length cap], .agg #[.int .i64 3, .string name, .string text, .string dst]] w fun e w' => GivesK2 w.heap.size [] (.bool false) e w' ∧ Below w.heap.size w w' := by
  have CN2 := fun wx => iFileName_any dst wx
  rw [within_yes (by unfold NameGood at hd; omega)] at CN2
  have HCD := Lib.hid CN2
  clear CN2
  have z1 := name_ne hq
  have z2 : (xn != (xb.size : Int)) = true := by rw [bne_iff_ne]; omega
  obtain ⟨m1, m2, m3, m4⟩ := fl_bound hx hg
  have hl30 := hg.1
  have hlw := hg.2.2
  have hkl := (List.getElem?_eq_some_iff.1 hx).1
  have i0 : (0 : Int) ≤ (k : Int) := Int.natCast_nonneg _
  have hst := DoSt.start w 29 67 (.slice ao l.length cap) (3, name, text, dst) _ rfl
  have R := Lib.hid (fun W hW => hr.below (C := w.heap.size) (w' := W) hW (Nat.le_refl _))
  have CA := iAt_any (.agg #[.slice ao l.length cap]) l name _ hl ⟨ao, cap, rfl, R.out _ hst.low⟩
  rw [posV_some hp] at CA
  have HCA := Lib.hid CA
  have ST0 := Lib.hid hst
  clear CA hst hr
  go_enter Try.func54, Try.ntmps54
  go_wp2_with fail
  refine HCA.out.mono ?_
  rintro e w1 ⟨rfl, hb1⟩
  have ST1 := Lib.hid (ST0.out.below hb1)
  clear hb1 HCA ST0
  have c0 := Blk.cell ST1.out.box 0
  have k0 := Blk.cell ST1.out.act 0
  have k1 := Blk.cell ST1.out.act 1
  have k2 := Blk.cell ST1.out.act 2
  have k3 := Blk.cell ST1.out.act 3
  simp only [List.getElem?_cons_zero, List.getElem?_cons_succ] at c0 k0 k1 k2 k3
  have CD := iDiskOk_any (.agg #[.slice ao l.length cap]) l w1 hl hs ⟨ao, cap, rfl, R.out _ ST1.out.low⟩
  rw [decide_eq_true hg] at CD
  have HCD := Lib.hid CD
  clear CD
  go_wp2_with fail
  refine HCD.out.mono ?_
  rintro e w2 ⟨rfl, hb2⟩
  have ST2 := Lib.hid (ST1.out.below hb2)
  clear hb2 HCD ST1
  clear c0 k0 k1 k2 k3
  have c0 := Blk.cell ST2.out.box 0
  have k0 := Blk.cell ST2.out.act 0
  have k1 := Blk.cell ST2.out.act 1
  have k2 := Blk.cell ST2.out.act 2
  have k3 := Blk.cell ST2.out.act 3
  simp only [List.getElem?_cons_zero, List.getElem?_cons_succ] at c0 k0 k1 k2 k3
  have CK := iActOk_any (3, name, text, dst) w2
  rw [decide_eq_true hk] at CK
  simp only at CK
  have HCK := Lib.hid CK
  clear CK
  go_wp2_with fail
  refine HCK.out.mono ?_
  rintro e w3 ⟨rfl, hb3⟩
  have ST3 := Lib.hid (ST2.out.below hb3)
  clear hb3 HCK ST2
  clear c0 k0 k1 k2 k3
  have c0 := Blk.cell ST3.out.box 0
  have k0 := Blk.cell ST3.out.act 0
  have k1 := Blk.cell ST3.out.act 1
  have k2 := Blk.cell ST3.out.act 2
  have k3 := Blk.cell ST3.out.act 3
  simp only [List.getElem?_cons_zero, List.getElem?_cons_succ] at c0 k0 k1 k2 k3
  have CC := Lib.hid (iCopy_any (.agg #[.slice ao l.length cap]) l w3 hl ⟨ao, cap, rfl, R.out _ ST3.out.low⟩)
  go_wp2_with fail
  refine CC.out.mono ?_
  rintro e w4 ⟨⟨v4, u4, rfl, ho⟩, hb4⟩
  obtain ⟨rfl, ho⟩ := ho
  have l3 := ST3.out.size
  have ho := Own.mono ho l3
  obtain ⟨q4, c4, rfl⟩ := Own.shape ho
  have ST4 := Lib.hid (ST3.out.below hb4)
  clear hb4 CC ST3 l3
  clear c0 k0 k1 k2 k3
  have c0 := Blk.cell ST4.out.box 0
  have k0 := Blk.cell ST4.out.act 0
  have k1 := Blk.cell ST4.out.act 1
  have k2 := Blk.cell ST4.out.act 2
  have k3 := Blk.cell ST4.out.act 3
  simp only [List.getElem?_cons_zero, List.getElem?_cons_succ] at c0 k0 k1 k2 k3
  have OS := Lib.hid (OutSt.start ST4.out ho)
  clear ho
  go_upto_region 5 with fail
  generalize w4.alloc (.cells #[.slice q4 l.length c4] 29) = W5 at *
  clear c0 k0 k1 k2 k3
  clear ST4
  have hob := OS.out.ge
  have c0 := Blk.cell OS.out.st.box 0
  have k0 := Blk.cell OS.out.st.act 0
  have k1 := Blk.cell OS.out.st.act 1
  have k2 := Blk.cell OS.out.st.act 2
  have k3 := Blk.cell OS.out.st.act 3
  simp only [List.getElem?_cons_zero, List.getElem?_cons_succ] at c0 k0 k1 k2 k3
  have o0 := Blk.cell OS.out.out 0
  have o1 := Blk.frozen OS.out.out 0
  simp only [List.getElem?_cons_zero] at o0
  generalize hob2 : w4.heap.size = ob at *
  clear hob2
  obtain ⟨g, rfl⟩ := OS.out.row_some (by omega)
  have hgb := Own.block OS.out.row g rfl
  have hgo : ¬ ob = g := fun e => OS.out.ne (by rw [e]; rfl)
  have hgo' : ¬ g = ob := fun e => hgo e.symm
  obtain ⟨⟨e0, e1, e2⟩, f0, f1, f2⟩ := Own.fileAt OS.out.row hx
  simp only at e0 e1 e2
  go_upto_region 15 with fail
  have b6 := (Below.refl W5.heap.size W5).alloc (Nat.le_refl _) (.cells #[.string name, .string xb, .int .i64 xn] 49)
  have OM := Lib.hid (OS.out.below b6)
  have bf := Blk.new W5 49 [.string name, .string xb, .int .i64 xn] _ rfl
  generalize hfb : W5.heap.size = fb at *
  clear hfb b6
  generalize W5.alloc (.cells #[.string name, .string xb, .int .i64 xn] 49) = W6 at *
  clear c0 k0 k1 k2 k3
  clear e0 e1 e2 f0 f1 f2 o0 o1 OS
  have c0 := Blk.cell OM.out.st.box 0
  have k0 := Blk.cell OM.out.st.act 0
  have k1 := Blk.cell OM.out.st.act 1
  have k2 := Blk.cell OM.out.st.act 2
  have k3 := Blk.cell OM.out.st.act 3
  simp only [List.getElem?_cons_zero, List.getElem?_cons_succ] at c0 k0 k1 k2 k3
  have f1 := Blk.cell bf 1
  have f2 := Blk.cell bf 2
  simp only [List.getElem?_cons_zero, List.getElem?_cons_succ] at f1 f2
  have r0 := Blk.cell OM.out.st.res 0
  have r1 := Blk.frozen OM.out.st.res 0
  simp only [List.getElem?_cons_zero] at r0
  have E2 := Lib.hid (Blk.set_ OM.out.st.res 0 (.slice none 0 0))
  have FB := Lib.hid (OM.out.st.low.setCell (p := ⟨w.heap.size + 2, 0, none⟩) (by simp only; omega) (.slice none 0 0))
  go_wp2_with (go_at_call 66; refine (HCD.out _).mono ?_; rintro e w' ⟨rfl, rfl⟩)
  refine bodyPost_ret (results_cell_row_tmp rfl _ _ _ (w.heap.size + 2) 29 #[.slice none 0 0] (0, 0) _ _ rfl rfl E2.out Try.underlying29 (by kernel_rfl)) rfl ?_
  exact ⟨⟨_, _, rfl, rfl, Own.nil _ _ _⟩, FB.out⟩

set_option maxHeartbeats 4000000 in
set_option maxRecDepth 100000 in
theorem iDo_move (ao : Option Addr) (cap : Nat) (l : List Fl) (name text dst : ByteArray) (w : World) (hl : l.length ≤ 1048576) (hs : ∀ x ∈ l, x.1.size ≤ 1048576 ∧ x.2.1.size ≤ 1048576) (hr : RdF w ao l) (hg : DiskGood l) (hk : KindGood (3, name, text, dst)) (k : Nat) (xb : ByteArray) (xn : Int) (hx : l[k]? = some (name, xb, xn)) (hp : posF l name = some k) (hq : ¬ dst = name) (hd : NameGood dst) (hk2 : ¬ xn < (xb.size : Int)) :
    Calls Try.prog 54 #[.agg #[.slice ao l.length cap], .agg #[.int .i64 3, .string name, .string text, .string dst]] w fun e w' => GivesK2 w.heap.size (lastV (putL (outL l name) (dst, xb, xn))).1 (.bool (lastV (putL (outL l name) (dst, xb, xn))).2) e w' ∧ Below w.heap.size w w' := by
  have CN2 := fun wx => iFileName_any dst wx
  rw [within_yes (by unfold NameGood at hd; omega)] at CN2
  have HCD := Lib.hid CN2
  clear CN2
  have z1 := name_ne hq
  obtain ⟨m1, m2, m3, m4⟩ := fl_bound hx hg
  have hl30 := hg.1
  have hlw := hg.2.2
  have hkl := (List.getElem?_eq_some_iff.1 hx).1
  have i0 : (0 : Int) ≤ (k : Int) := Int.natCast_nonneg _
  have z2 : (xn != (xb.size : Int)) = false := by rw [bne_eq_false_iff_eq]; omega
  have hrl : (putL (outL l name) (dst, xb, xn)).length ≤ 1048576 := put_len _ (Nat.le_trans (List.length_filter_le _ _) hg.1)
  have hrs : ∀ x ∈ putL (outL l name) (dst, xb, xn), x.1.size ≤ 2097152 ∧ x.2.1.size ≤ 2097152 := put_size (fun x hx => ⟨by have := (hs x (List.mem_filter.1 hx).1).1; omega, by have := (hs x (List.mem_filter.1 hx).1).2; omega⟩) (by unfold NameGood at hd; simp only; omega) (by simp only; omega)
  obtain ⟨j2, hj2⟩ := move_there hx hq
  obtain ⟨lt, hlt⟩ : ∃ lt, outL l dst = lt := ⟨_, rfl⟩
  obtain ⟨hmp, hgt⟩ := move_perm hlw hx hq hlt.symm (by rw [← hlt]; exact hj2)
  simp only at hmp
  have HPM0 := Lib.hid (And.intro hmp (putL_lower (outL_lower hlw name) (dst, xb, xn)))
  have hltl : lt.length ≤ 30 := by rw [← hlt]; exact Nat.le_trans (List.length_filter_le _ _) hl30
  rw [hlt] at hj2
  have HJ2 := Lib.hid hj2
  have HGT := Lib.hid hgt
  have HLT := Lib.hid hlt
  have hj2l := (List.getElem?_eq_some_iff.1 hgt).1
  have j20 : (0 : Int) ≤ (j2 : Int) := Int.natCast_nonneg _
  clear hmp hgt hj2 hlt
  have hst := DoSt.start w 29 67 (.slice ao l.length cap) (3, name, text, dst) _ rfl
  have R := Lib.hid (fun W hW => hr.below (C := w.heap.size) (w' := W) hW (Nat.le_refl _))
  have CA := iAt_any (.agg #[.slice ao l.length cap]) l name _ hl ⟨ao, cap, rfl, R.out _ hst.low⟩
  rw [posV_some hp] at CA
  have HCA := Lib.hid CA
  have ST0 := Lib.hid hst
  clear CA hst hr
  go_enter Try.func54, Try.ntmps54
  go_wp2_with fail
  refine HCA.out.mono ?_
  rintro e w1 ⟨rfl, hb1⟩
  have ST1 := Lib.hid (ST0.out.below hb1)
  clear hb1 HCA ST0
  have c0 := Blk.cell ST1.out.box 0
  have k0 := Blk.cell ST1.out.act 0
  have k1 := Blk.cell ST1.out.act 1
  have k2 := Blk.cell ST1.out.act 2
  have k3 := Blk.cell ST1.out.act 3
  simp only [List.getElem?_cons_zero, List.getElem?_cons_succ] at c0 k0 k1 k2 k3
  have CD := iDiskOk_any (.agg #[.slice ao l.length cap]) l w1 hl hs ⟨ao, cap, rfl, R.out _ ST1.out.low⟩
  rw [decide_eq_true hg] at CD
  have HCD := Lib.hid CD
  clear CD
  go_wp2_with fail
  refine HCD.out.mono ?_
  rintro e w2 ⟨rfl, hb2⟩
  have ST2 := Lib.hid (ST1.out.below hb2)
  clear hb2 HCD ST1
  clear c0 k0 k1 k2 k3
  have c0 := Blk.cell ST2.out.box 0
  have k0 := Blk.cell ST2.out.act 0
  have k1 := Blk.cell ST2.out.act 1
  have k2 := Blk.cell ST2.out.act 2
  have k3 := Blk.cell ST2.out.act 3
  simp only [List.getElem?_cons_zero, List.getElem?_cons_succ] at c0 k0 k1 k2 k3
  have CK := iActOk_any (3, name, text, dst) w2
  rw [decide_eq_true hk] at CK
  simp only at CK
  have HCK := Lib.hid CK
  clear CK
  go_wp2_with fail
  refine HCK.out.mono ?_
  rintro e w3 ⟨rfl, hb3⟩
  have ST3 := Lib.hid (ST2.out.below hb3)
  clear hb3 HCK ST2
  clear c0 k0 k1 k2 k3
  have c0 := Blk.cell ST3.out.box 0
  have k0 := Blk.cell ST3.out.act 0
  have k1 := Blk.cell ST3.out.act 1
  have k2 := Blk.cell ST3.out.act 2
  have k3 := Blk.cell ST3.out.act 3
  simp only [List.getElem?_cons_zero, List.getElem?_cons_succ] at c0 k0 k1 k2 k3
  have CC := Lib.hid (iCopy_any (.agg #[.slice ao l.length cap]) l w3 hl ⟨ao, cap, rfl, R.out _ ST3.out.low⟩)
  go_wp2_with fail
  refine CC.out.mono ?_
  rintro e w4 ⟨⟨v4, u4, rfl, ho⟩, hb4⟩
  obtain ⟨rfl, ho⟩ := ho
  have l3 := ST3.out.size
  have ho := Own.mono ho l3
  obtain ⟨q4, c4, rfl⟩ := Own.shape ho
  have ST4 := Lib.hid (ST3.out.below hb4)
  clear hb4 CC ST3 l3
  clear c0 k0 k1 k2 k3
  have c0 := Blk.cell ST4.out.box 0
  have k0 := Blk.cell ST4.out.act 0
  have k1 := Blk.cell ST4.out.act 1
  have k2 := Blk.cell ST4.out.act 2
  have k3 := Blk.cell ST4.out.act 3
  simp only [List.getElem?_cons_zero, List.getElem?_cons_succ] at c0 k0 k1 k2 k3
  have OS := Lib.hid (OutSt.start ST4.out ho)
  clear ho
  go_upto_region 5 with fail
  generalize w4.alloc (.cells #[.slice q4 l.length c4] 29) = W5 at *
  clear c0 k0 k1 k2 k3
  clear ST4
  have hob := OS.out.ge
  have c0 := Blk.cell OS.out.st.box 0
  have k0 := Blk.cell OS.out.st.act 0
  have k1 := Blk.cell OS.out.st.act 1
  have k2 := Blk.cell OS.out.st.act 2
  have k3 := Blk.cell OS.out.st.act 3
  simp only [List.getElem?_cons_zero, List.getElem?_cons_succ] at c0 k0 k1 k2 k3
  have o0 := Blk.cell OS.out.out 0
  have o1 := Blk.frozen OS.out.out 0
  simp only [List.getElem?_cons_zero] at o0
  generalize hob2 : w4.heap.size = ob at *
  clear hob2
  obtain ⟨g, rfl⟩ := OS.out.row_some (by omega)
  have hgb := Own.block OS.out.row g rfl
  have hgo : ¬ ob = g := fun e => OS.out.ne (by rw [e]; rfl)
  have hgo' : ¬ g = ob := fun e => hgo e.symm
  obtain ⟨⟨e0, e1, e2⟩, f0, f1, f2⟩ := Own.fileAt OS.out.row hx
  simp only at e0 e1 e2
  go_upto_region 15 with fail
  have b6 := (Below.refl W5.heap.size W5).alloc (Nat.le_refl _) (.cells #[.string name, .string xb, .int .i64 xn] 49)
  have OM := Lib.hid (OS.out.below b6)
  have bf := Blk.new W5 49 [.string name, .string xb, .int .i64 xn] _ rfl
  generalize hfb : W5.heap.size = fb at *
  clear hfb b6
  generalize W5.alloc (.cells #[.string name, .string xb, .int .i64 xn] 49) = W6 at *
  clear c0 k0 k1 k2 k3
  clear e0 e1 e2 f0 f1 f2 o0 o1 OS
  have c0 := Blk.cell OM.out.st.box 0
  have k0 := Blk.cell OM.out.st.act 0
  have k1 := Blk.cell OM.out.st.act 1
  have k2 := Blk.cell OM.out.st.act 2
  have k3 := Blk.cell OM.out.st.act 3
  simp only [List.getElem?_cons_zero, List.getElem?_cons_succ] at c0 k0 k1 k2 k3
  have f1 := Blk.cell bf 1
  have f2 := Blk.cell bf 2
  simp only [List.getElem?_cons_zero, List.getElem?_cons_succ] at f1 f2
  have CA2 := iAt_any (.agg #[.slice (some ⟨g, 0, none⟩) l.length c4]) l dst W6 hl ⟨_, _, rfl, OwnF.rdAt OM.out.row⟩
  have o0 := Blk.cell OM.out.out 0
  simp only [List.getElem?_cons_zero] at o0
  cases hpd : posF l dst with
  | none =>
    rw [posV_none hpd] at CA2
    have HCA2 := Lib.hid CA2
    clear CA2
    have he : lt = l := by rw [← HLT.out]; exact outL_none hpd
    go_wp2_with (first | (go_at_call 66; refine (HCD.out _).mono ?_; rintro e w' ⟨rfl, rfl⟩) | (go_at_call 70; refine HCA2.out.mono ?_; rintro e w7 ⟨rfl, hb7⟩; have OM7 := Lib.hid (OM.out.below hb7); clear hb7))
    have ON : Hid (OutSt w 29 67 (.slice ao l.length cap) (3, name, text, dst) ob (.slice (some ⟨g, 0, none⟩) lt.length c4) lt w7) := by rw [he]; exact OM7
    generalize w7 = W8 at *
    clear OM OM7 bf f1 f2 o0 he HCA2
    clear c0 k0 k1 k2 k3
    have hgb := Own.block ON.out.row g rfl
    have hob := ON.out.ge
    have CA3 := Lib.hid (fun W h => iAt_any (.agg #[.slice (some ⟨g, 0, none⟩) lt.length c4]) lt name W (by omega) h)
    rw [posV_some HJ2.out] at CA3
    have HK : Hid (∀ W, Below W8.heap.size W8 W → W.cell? ⟨ob, 0, none⟩ = some (.slice (some ⟨g, 0, none⟩) lt.length c4) ∧ W.cell? ⟨w.heap.size + 1, 1, none⟩ = some (.string name) ∧ W.cell? ⟨w.heap.size + 1, 3, none⟩ = some (.string dst)) := Lib.hid fun W hW => ⟨(ON.out.below hW).out.cell 0, (ON.out.below hW).st.act.cell 1, (ON.out.below hW).st.act.cell 3⟩
    have HS : Hid (∀ W u, Below W8.heap.size W8 W → (W.setCell ⟨g, j2 * 3, none⟩ u).cell? ⟨ob, 0, none⟩ = some (.slice (some ⟨g, 0, none⟩) lt.length c4) ∧ (W.setCell ⟨g, j2 * 3, none⟩ u).cell? ⟨w.heap.size + 1, 1, none⟩ = some (.string name) ∧ (W.setCell ⟨g, j2 * 3, none⟩ u).cell? ⟨w.heap.size + 1, 3, none⟩ = some (.string dst)) := Lib.hid fun W u hW => ⟨(Blk.far (ON.out.below hW).out (p := ⟨g, j2 * 3, none⟩) hgo u).cell 0, (Blk.far (ON.out.below hW).st.act (p := ⟨g, j2 * 3, none⟩) (by simp only; omega) u).cell 1, (Blk.far (ON.out.below hW).st.act (p := ⟨g, j2 * 3, none⟩) (by simp only; omega) u).cell 3⟩
    have HF : Hid (∀ W, Below W8.heap.size W8 W → W.cell? ⟨g, j2 * 3, none⟩ = some (.string name) ∧ W.frozen? ⟨g, j2 * 3, none⟩ = false) := Lib.hid fun W hW => ⟨(Own.fileAt (ON.out.below hW).row HGT.out).1.1, (Own.fileAt (ON.out.below hW).row HGT.out).2.1⟩
    obtain ⟨o0, k1, k3⟩ := HK.out _ (Below.refl _ _)
    go_wp2_with fail
    go_region_held3 (fun W => W.cell? ⟨ob, 0, none⟩ = some (.slice (some ⟨g, 0, none⟩) lt.length c4) ∧ W.cell? ⟨w.heap.size + 1, 1, none⟩ = some (.string name) ∧ W.cell? ⟨w.heap.size + 1, 3, none⟩ = some (.string dst))
      (first | exact HS.out _ _ hk1 | exact HK.out _ hk1 | go_keep)
      (first | (go_at_call 70; refine (CA3.out _ ?_).mono ?_; (first | exact ⟨_, _, rfl, OwnF.rdAt (ON.out.drewN 1).row⟩ | exact ⟨_, _, rfl, OwnF.rdAt ON.out.row⟩); rintro e wa ⟨rfl, hba⟩; have hk1 : Below W8.heap.size W8 wa := ⟨hba.os, hba.tape, hba.output, hba.size, hba.block⟩; obtain ⟨y0, y1⟩ := HF.out _ hk1))
    have OT := (ON.out.below hk1).store (j := j2 * 3) (by omega) (fileC_name HGT.out dst) (by rw [List.length_set])
    rw [List.length_set] at OT
    replace OT := Lib.hid OT
    have hl1t : (lt.set j2 (dst, xb, xn)).length = lt.length := List.length_set
    have HPM := HPM0.out
    have hl1z : (lt.set j2 (dst, xb, xn)).length ≤ 31 := by rw [List.length_set]; omega
    replace OT : Hid (OutSt w 29 67 (.slice ao l.length cap) _ ob (.slice (some ⟨g, 0, none⟩) lt.length c4) (lt.set j2 (dst, xb, xn)) (wa.setCell ⟨g, j2 * 3, none⟩ (.string dst))) := OT
    generalize wa.setCell ⟨g, j2 * 3, none⟩ (.string dst) = WT at *
    clear o0 k1 k3 y0 y1 hk1 hba HK HS HF CA3 ON HPM0 HGT HJ2
    generalize lt.set j2 (dst, xb, xn) = l1 at *
    have hlen : lt.length = (putL (outL l name) (dst, xb, xn)).length := hl1t ▸ HPM.1.length_eq
    have hl1k : l1.length ≤ 1000 := by omega
    have CS := sort_any ob (.slice (some ⟨g, 0, none⟩) lt.length c4) l1 WT (w.heap.size + 3) OT.out.out OT.out.row OT.out.ne hl1k
    have HCS := Lib.hid CS
    clear CS
    have o0 := Blk.cell OT.out.out 0
    have o1 := Blk.frozen OT.out.out 0
    simp only [List.getElem?_cons_zero] at o0
    have HPM2 := Lib.hid HPM
    have HLN := Lib.hid hlen
    clear HPM hlen
    go_wp2_with fail
    refine HCS.out.mono ?_
    rintro e w7 ⟨⟨rfl, l2, hp2, hs2, ho2⟩, hg7⟩
    obtain rfl : l2 = (putL (outL l name) (dst, xb, xn)) := sorted_lower HPM2.out.2 (hp2.trans HPM2.out.1) hs2
    have ST7 := Lib.hid (OT.out.st.grown hg7 (fun k hk => (Own.block OT.out.row k hk).1))
    have bo7 := Blk.kept OT.out.out hg7 (fun e => OT.out.ne e.symm)
    rw [HLN.out] at ho2 bo7
    have OU := Lib.hid ho2
    have BO7 := Lib.hid bo7
    clear ho2 bo7 hg7 hs2 hp2 HPM2 HCS o0 o1
    have o0 := Blk.cell BO7.out 0
    simp only [List.getElem?_cons_zero] at o0
    have CF := fun wx h => iDiskOk_big (.agg #[.slice (some ⟨g, 0, none⟩) (putL (outL l name) (dst, xb, xn)).length c4]) (putL (outL l name) (dst, xb, xn)) wx hrl hrs h
    by_cases hgr : DiskGood (putL (outL l name) (dst, xb, xn))
    · have V := Lib.hid (lastR_yes hgr)
      rw [decide_eq_true hgr] at CF
      have HCF := Lib.hid CF
      clear CF hgr
      go_wp2_with fail
      refine (HCF.out _ ⟨_, _, rfl, (OwnF.rdAt OU.out)⟩).mono ?_
      rintro e w8 ⟨rfl, hb8⟩
      have ST8 := Lib.hid (ST7.out.below hb8)
      have r0 := Blk.cell ST8.out.res 0
      have r1 := Blk.frozen ST8.out.res 0
      have bo8 := Blk.below BO7.out hb8 BO7.out.lt
      have o8 := Blk.cell bo8 0
      simp only [List.getElem?_cons_zero] at r0 o8
      have OU8 := Lib.hid (Own.below OU.out hb8 (Nat.le_refl _))
      clear hb8 bo8 o0
      have E2 := Lib.hid (Blk.set_ ST8.out.res 0 (.slice (some ⟨g, 0, none⟩) (putL (outL l name) (dst, xb, xn)).length c4))
      have FB := Lib.hid (ST8.out.low.setCell (p := ⟨w.heap.size + 2, 0, none⟩) (by simp only; omega) (.slice (some ⟨g, 0, none⟩) (putL (outL l name) (dst, xb, xn)).length c4))
      have FO := Lib.hid ((Own.setCell (a := ⟨w.heap.size + 2, 0, none⟩) OU8.out (by simp only; omega) (.slice (some ⟨g, 0, none⟩) (putL (outL l name) (dst, xb, xn)).length c4)).mono (show w.heap.size ≤ w.heap.size + 3 by omega))
      go_wp2_with fail
      refine bodyPost_ret (results_cell_row_tmp rfl _ _ _ (w.heap.size + 2) 29 #[.slice (some ⟨g, 0, none⟩) (putL (outL l name) (dst, xb, xn)).length c4] (0, 0) _ _ rfl rfl E2.out Try.underlying29 (by kernel_rfl)) rfl ?_
      rw [V.out]
      exact ⟨⟨_, _, rfl, rfl, FO.out⟩, FB.out⟩
    · have V := Lib.hid (lastR_no hgr)
      rw [decide_eq_false hgr] at CF
      have HCF := Lib.hid CF
      clear CF hgr
      go_wp2_with fail
      refine (HCF.out _ ⟨_, _, rfl, (OwnF.rdAt OU.out)⟩).mono ?_
      rintro e w8 ⟨rfl, hb8⟩
      have ST8 := Lib.hid (ST7.out.below hb8)
      have r0 := Blk.cell ST8.out.res 0
      have r1 := Blk.frozen ST8.out.res 0
      simp only [List.getElem?_cons_zero] at r0
      clear hb8 o0
      have E2 := Lib.hid (Blk.set_ ST8.out.res 0 (.slice none 0 0))
      have FB := Lib.hid (ST8.out.low.setCell (p := ⟨w.heap.size + 2, 0, none⟩) (by simp only; omega) (.slice none 0 0))
      go_wp2_with fail
      refine bodyPost_ret (results_cell_row_tmp rfl _ _ _ (w.heap.size + 2) 29 #[.slice none 0 0] (0, 0) _ _ rfl rfl E2.out Try.underlying29 (by kernel_rfl)) rfl ?_
      rw [V.out]
      exact ⟨⟨_, _, rfl, rfl, Own.nil _ _ _⟩, FB.out⟩
  | some j =>
    rw [posV_some hpd] at CA2
    have HCA2 := Lib.hid CA2
    clear CA2
    have j0 : (0 : Int) ≤ (j : Int) := Int.natCast_nonneg _
    have he : lt = l.eraseIdx j := by rw [← HLT.out]; exact outL_at hlw hpd
    have hjl : j < l.length := by obtain ⟨y, hy, -⟩ := posF_some hpd; exact (List.getElem?_eq_some_iff.1 hy).1
    go_wp2_with (first | (go_at_call 66; refine (HCD.out _).mono ?_; rintro e w' ⟨rfl, rfl⟩) | (go_at_call 70; refine HCA2.out.mono ?_; rintro e w7 ⟨rfl, hb7⟩; have OM7 := Lib.hid (OM.out.below hb7); clear hb7))
    refine (iWithout_any ob g c4 j l w7 OM7.out.out OM7.out.row_at hgo hjl (by omega)).mono ?_
    rintro e W8 ⟨⟨rfl, hb8, hr8⟩, ht8⟩
    have ON := Lib.hid (OM7.out.erase hb8 hr8 ht8)
    rw [← he] at ON
    clear OM OM7 bf f1 f2 o0 he HCA2 hb8 hr8 ht8
    clear c0 k0 k1 k2 k3
    have hgb := Own.block ON.out.row g rfl
    have hob := ON.out.ge
    have CA3 := Lib.hid (fun W h => iAt_any (.agg #[.slice (some ⟨g, 0, none⟩) lt.length c4]) lt name W (by omega) h)
    rw [posV_some HJ2.out] at CA3
    have HK : Hid (∀ W, Below W8.heap.size W8 W → W.cell? ⟨ob, 0, none⟩ = some (.slice (some ⟨g, 0, none⟩) lt.length c4) ∧ W.cell? ⟨w.heap.size + 1, 1, none⟩ = some (.string name) ∧ W.cell? ⟨w.heap.size + 1, 3, none⟩ = some (.string dst)) := Lib.hid fun W hW => ⟨(ON.out.below hW).out.cell 0, (ON.out.below hW).st.act.cell 1, (ON.out.below hW).st.act.cell 3⟩
    have HS : Hid (∀ W u, Below W8.heap.size W8 W → (W.setCell ⟨g, j2 * 3, none⟩ u).cell? ⟨ob, 0, none⟩ = some (.slice (some ⟨g, 0, none⟩) lt.length c4) ∧ (W.setCell ⟨g, j2 * 3, none⟩ u).cell? ⟨w.heap.size + 1, 1, none⟩ = some (.string name) ∧ (W.setCell ⟨g, j2 * 3, none⟩ u).cell? ⟨w.heap.size + 1, 3, none⟩ = some (.string dst)) := Lib.hid fun W u hW => ⟨(Blk.far (ON.out.below hW).out (p := ⟨g, j2 * 3, none⟩) hgo u).cell 0, (Blk.far (ON.out.below hW).st.act (p := ⟨g, j2 * 3, none⟩) (by simp only; omega) u).cell 1, (Blk.far (ON.out.below hW).st.act (p := ⟨g, j2 * 3, none⟩) (by simp only; omega) u).cell 3⟩
    have HF : Hid (∀ W, Below W8.heap.size W8 W → W.cell? ⟨g, j2 * 3, none⟩ = some (.string name) ∧ W.frozen? ⟨g, j2 * 3, none⟩ = false) := Lib.hid fun W hW => ⟨(Own.fileAt (ON.out.below hW).row HGT.out).1.1, (Own.fileAt (ON.out.below hW).row HGT.out).2.1⟩
    obtain ⟨o0, k1, k3⟩ := HK.out _ (Below.refl _ _)
    go_wp2_with fail
    go_region_held3 (fun W => W.cell? ⟨ob, 0, none⟩ = some (.slice (some ⟨g, 0, none⟩) lt.length c4) ∧ W.cell? ⟨w.heap.size + 1, 1, none⟩ = some (.string name) ∧ W.cell? ⟨w.heap.size + 1, 3, none⟩ = some (.string dst))
      (first | exact HS.out _ _ hk1 | exact HK.out _ hk1 | go_keep)
      (first | (go_at_call 70; refine (CA3.out _ ?_).mono ?_; (first | exact ⟨_, _, rfl, OwnF.rdAt (ON.out.drewN 1).row⟩ | exact ⟨_, _, rfl, OwnF.rdAt ON.out.row⟩); rintro e wa ⟨rfl, hba⟩; have hk1 : Below W8.heap.size W8 wa := ⟨hba.os, hba.tape, hba.output, hba.size, hba.block⟩; obtain ⟨y0, y1⟩ := HF.out _ hk1))
    have OT := (ON.out.below hk1).store (j := j2 * 3) (by omega) (fileC_name HGT.out dst) (by rw [List.length_set])
    rw [List.length_set] at OT
    replace OT := Lib.hid OT
    have hl1t : (lt.set j2 (dst, xb, xn)).length = lt.length := List.length_set
    have HPM := HPM0.out
    have hl1z : (lt.set j2 (dst, xb, xn)).length ≤ 31 := by rw [List.length_set]; omega
    replace OT : Hid (OutSt w 29 67 (.slice ao l.length cap) _ ob (.slice (some ⟨g, 0, none⟩) lt.length c4) (lt.set j2 (dst, xb, xn)) (wa.setCell ⟨g, j2 * 3, none⟩ (.string dst))) := OT
    generalize wa.setCell ⟨g, j2 * 3, none⟩ (.string dst) = WT at *
    clear o0 k1 k3 y0 y1 hk1 hba HK HS HF CA3 ON HPM0 HGT HJ2
    generalize lt.set j2 (dst, xb, xn) = l1 at *
    have hlen : lt.length = (putL (outL l name) (dst, xb, xn)).length := hl1t ▸ HPM.1.length_eq
    have hl1k : l1.length ≤ 1000 := by omega
    have CS := sort_any ob (.slice (some ⟨g, 0, none⟩) lt.length c4) l1 WT (w.heap.size + 3) OT.out.out OT.out.row OT.out.ne hl1k
    have HCS := Lib.hid CS
    clear CS
    have o0 := Blk.cell OT.out.out 0
    have o1 := Blk.frozen OT.out.out 0
    simp only [List.getElem?_cons_zero] at o0
    have HPM2 := Lib.hid HPM
    have HLN := Lib.hid hlen
    clear HPM hlen
    go_wp2_with fail
    refine HCS.out.mono ?_
    rintro e w7 ⟨⟨rfl, l2, hp2, hs2, ho2⟩, hg7⟩
    obtain rfl : l2 = (putL (outL l name) (dst, xb, xn)) := sorted_lower HPM2.out.2 (hp2.trans HPM2.out.1) hs2
    have ST7 := Lib.hid (OT.out.st.grown hg7 (fun k hk => (Own.block OT.out.row k hk).1))
    have bo7 := Blk.kept OT.out.out hg7 (fun e => OT.out.ne e.symm)
    rw [HLN.out] at ho2 bo7
    have OU := Lib.hid ho2
    have BO7 := Lib.hid bo7
    clear ho2 bo7 hg7 hs2 hp2 HPM2 HCS o0 o1
    have o0 := Blk.cell BO7.out 0
    simp only [List.getElem?_cons_zero] at o0
    have CF := fun wx h => iDiskOk_big (.agg #[.slice (some ⟨g, 0, none⟩) (putL (outL l name) (dst, xb, xn)).length c4]) (putL (outL l name) (dst, xb, xn)) wx hrl hrs h
    by_cases hgr : DiskGood (putL (outL l name) (dst, xb, xn))
    · have V := Lib.hid (lastR_yes hgr)
      rw [decide_eq_true hgr] at CF
      have HCF := Lib.hid CF
      clear CF hgr
      go_wp2_with fail
      refine (HCF.out _ ⟨_, _, rfl, (OwnF.rdAt OU.out)⟩).mono ?_
      rintro e w8 ⟨rfl, hb8⟩
      have ST8 := Lib.hid (ST7.out.below hb8)
      have r0 := Blk.cell ST8.out.res 0
      have r1 := Blk.frozen ST8.out.res 0
      have bo8 := Blk.below BO7.out hb8 BO7.out.lt
      have o8 := Blk.cell bo8 0
      simp only [List.getElem?_cons_zero] at r0 o8
      have OU8 := Lib.hid (Own.below OU.out hb8 (Nat.le_refl _))
      clear hb8 bo8 o0
      have E2 := Lib.hid (Blk.set_ ST8.out.res 0 (.slice (some ⟨g, 0, none⟩) (putL (outL l name) (dst, xb, xn)).length c4))
      have FB := Lib.hid (ST8.out.low.setCell (p := ⟨w.heap.size + 2, 0, none⟩) (by simp only; omega) (.slice (some ⟨g, 0, none⟩) (putL (outL l name) (dst, xb, xn)).length c4))
      have FO := Lib.hid ((Own.setCell (a := ⟨w.heap.size + 2, 0, none⟩) OU8.out (by simp only; omega) (.slice (some ⟨g, 0, none⟩) (putL (outL l name) (dst, xb, xn)).length c4)).mono (show w.heap.size ≤ w.heap.size + 3 by omega))
      go_wp2_with fail
      refine bodyPost_ret (results_cell_row_tmp rfl _ _ _ (w.heap.size + 2) 29 #[.slice (some ⟨g, 0, none⟩) (putL (outL l name) (dst, xb, xn)).length c4] (0, 0) _ _ rfl rfl E2.out Try.underlying29 (by kernel_rfl)) rfl ?_
      rw [V.out]
      exact ⟨⟨_, _, rfl, rfl, FO.out⟩, FB.out⟩
    · have V := Lib.hid (lastR_no hgr)
      rw [decide_eq_false hgr] at CF
      have HCF := Lib.hid CF
      clear CF hgr
      go_wp2_with fail
      refine (HCF.out _ ⟨_, _, rfl, (OwnF.rdAt OU.out)⟩).mono ?_
      rintro e w8 ⟨rfl, hb8⟩
      have ST8 := Lib.hid (ST7.out.below hb8)
      have r0 := Blk.cell ST8.out.res 0
      have r1 := Blk.frozen ST8.out.res 0
      simp only [List.getElem?_cons_zero] at r0
      clear hb8 o0
      have E2 := Lib.hid (Blk.set_ ST8.out.res 0 (.slice none 0 0))
      have FB := Lib.hid (ST8.out.low.setCell (p := ⟨w.heap.size + 2, 0, none⟩) (by simp only; omega) (.slice none 0 0))
      go_wp2_with fail
      refine bodyPost_ret (results_cell_row_tmp rfl _ _ _ (w.heap.size + 2) 29 #[.slice none 0 0] (0, 0) _ _ rfl rfl E2.out Try.underlying29 (by kernel_rfl)) rfl ?_
      rw [V.out]
      exact ⟨⟨_, _, rfl, rfl, Own.nil _ _ _⟩, FB.out⟩

end Go.Proofs.Ytdecehecjlbbiaa

/-! The program's DoAct, told as a whole. -/
namespace Go.Proofs.Ytdecehecjlbbiaa
open Go.RowKit

theorem doV_len (l : List Fl) (a : Ac) : (doV l a).1.length ≤ 1048576 := by
  unfold doV doO
  split
  · simp
  · rename_i r h
    split at h
    · split at h
      · cases h
      · split at h
        · rename_i hg
          cases h
          exact Nat.le_trans hg.1 (by omega)
        · cases h
    · cases h

theorem iDoAct_any (v : Value) (l : List Fl) (a : Ac) (w : World) (hl : l.length ≤ 1048576) (hs : ∀ x ∈ l, x.1.size ≤ 1048576 ∧ x.2.1.size ≤ 1048576) (hat : a.2.2.1.size ≤ 1048576) (h : RdK w v l) :
    Calls Try.prog 54 #[v, .agg #[.int .i64 a.1, .string a.2.1, .string a.2.2.1, .string a.2.2.2]] w fun e w' => GivesK2 w.heap.size (doV l a).1 (.bool (doV l a).2) e w' ∧ Below w.heap.size w w' := by
  obtain ⟨ao, cap, rfl, hr⟩ := h
  obtain ⟨k, n, t, d⟩ := a
  simp only at hat ⊢
  by_cases hg : DiskGood l
  · by_cases hk : KindGood (k, n, t, d)
    · have ha : ActGood (k, n, t, d) := hk.2
      cases hp : posF l n with
      | none =>
        by_cases h1 : k = 1
        · subst h1
          have hdo : doTo l (1, n, t, d) = some (putL l (n, (⟨#[]⟩ : ByteArray) ++ t, 0)) := by rw [doTo_add rfl]; simp only; rw [fileOf_none hp]
          rw [doV_last hg ha hdo]
          exact iDo_add_new ao cap l n t d w hl hs hr hg hk hat hp
        · rw [doV_none (doTo_none (a := (k, n, t, d)) h1 hp)]
          exact iDo_none ao cap l k n t d w hl hs hr hg hk h1 hp
      | some j =>
        obtain ⟨⟨xa, xb, xn⟩, hx, hxn⟩ := posF_some hp
        simp only at hxn
        have hf := fileOf_some hp hx
        by_cases h1 : k = 1
        · subst h1
          have hdo : doTo l (1, n, t, d) = some (putL l (xa, xb ++ t, xn)) := by rw [doTo_add rfl]; simp only; rw [hf, hxn]
          rw [doV_last hg ha hdo]
          exact iDo_add_old ao cap l n t d w hl hs hr hg hk hat j xa xb xn hx hp
        · by_cases h2 : k = 2
          · subst h2
            have hdo : doTo l (2, n, t, d) = some (putL l (xa, xb, (xb.size : Int))) := by rw [doTo_keep (a := (2, n, t, d)) rfl hp]; simp only; rw [hf, hxn]
            rw [doV_last hg ha hdo]
            exact iDo_keep ao cap l n t d w hl hs hr hg hk j xa xb xn hx hp
          · by_cases h3 : k = 3
            · subst h3
              have hx2 : l[j]? = some (n, xb, xn) := by rw [← hxn]; exact hx
              by_cases hq : d = n
              · rw [doV_none (doTo_stay (a := (3, n, t, d)) rfl (.inr (.inl hq)))]
                exact iDo_move_same ao cap l n t d w hl hs hr hg hk j xb xn hx2 hp hq
              · by_cases hdn : NameGood d
                · by_cases hk2 : xn < (xb.size : Int)
                  · rw [doV_none (doTo_stay (a := (3, n, t, d)) rfl (.inl (by simp only; rw [hf]; exact hk2)))]
                    exact iDo_move_unkept ao cap l n t d w hl hs hr hg hk j xb xn hx2 hp hq hdn hk2
                  · have hdo : doTo l (3, n, t, d) = some (putL (outL l n) (d, xb, xn)) := by
                      rw [doTo_move (a := (3, n, t, d)) rfl hp (by simp only; rw [hf]; rintro (g | g | g); exact hk2 g; exact hq g; exact g hdn)]
                      simp only; rw [hf]
                    rw [doV_last hg ha hdo]
                    exact iDo_move ao cap l n t d w hl hs hr hg hk j xb xn hx2 hp hq hdn hk2
                · rw [doV_none (doTo_stay (a := (3, n, t, d)) rfl (.inr (.inr hdn)))]
                  exact iDo_move_name ao cap l n t d w hl hs hr hg hk j xb xn hx2 hp hq hdn
            · have h4 : k = 4 := by have := hk.1; simp only at this; omega
              subst h4
              rw [doV_last hg ha (doTo_drop (a := (4, n, t, d)) rfl hp)]
              exact iDo_drop ao cap l n t d w hl hs hr hg hk j xa xb xn hx hp
    · have hv : doV l (k, n, t, d) = ([], false) := by
        by_cases ha : ActGood (k, n, t, d)
        · exact doV_none (doTo_other (a := (k, n, t, d)) (fun h => hk ⟨h, ha⟩))
        · exact doV_bad (fun h => ha h.2)
      rw [hv]
      cases hp : posF l n with
      | none => exact iDo_form ao cap l k n t d w hl hs hr hg hk hp
      | some j => exact iDo_form2 ao cap l k n t d w hl hs hr hg hk j hp
  · rw [doV_bad (fun h2 => hg h2.1)]
    cases hp : posF l n with
    | none => exact iDo_bad ao cap l k n t d w hl hs hr hg hp
    | some j => exact iDo_bad2 ao cap l k n t d w hl hs hr hg j hp

end Go.Proofs.Ytdecehecjlbbiaa

