/-
  The walks of a log's texts and of a log's operations, on both sides.
-/
import Derived.Test.YtdecehecjlbbiaaDisk2
import Derived.Test.YtdecehecjlbbiaaFrame1
import Derived.Test.YtdecehecjlbbiaaAct2
import Derived.Test.YtdecehecjlbbiaaPuSrc
import Derived.Test.YtdecehecjlbbiaaDisk4
namespace Go.Proofs.Ytdecehecjlbbiaa
open Go.RowKit

theorem totS_mem {l : List ByteArray} {x : ByteArray} (h : x ∈ l) : x.size ≤ totS l := by
  induction l with
  | nil => cases h
  | cons y l ih =>
    unfold totS at ih ⊢
    simp only [List.map_cons, List.sum_cons, List.length_cons]
    rcases List.mem_cons.1 h with rfl | h
    · omega
    · have := ih h; omega
/-- The records of a file. -/
def logL (l : List Fl) (n : ByteArray) : List ByteArray := if DiskGood l then (unframeL (textV l n).1.data.toList).1.map txt else []
theorem logL_bad {l : List Fl} {n : ByteArray} (h : ¬ DiskGood l) : logL l n = [] := if_neg h
theorem logL_good {l : List Fl} {n : ByteArray} (h : DiskGood l) : logL l n = (unframeL (textV l n).1.data.toList).1.map txt := if_pos h
theorem unframe_nil : (unframeL []).1.map txt = [] := by
  have h := unframeL_len []
  have h2 : (unframeL []).1 = [] := List.eq_nil_of_length_eq_zero (by simpa using h)
  rw [h2]; rfl
theorem logL_none {l : List Fl} {n : ByteArray} (h : posF l n = none) : logL l n = [] := by
  by_cases hg : DiskGood l
  · rw [logL_good hg, textV_none h]; exact unframe_nil
  · exact logL_bad hg
theorem textV_size {l : List Fl} (n : ByteArray) (h : DiskGood l) : (textV l n).1.size ≤ 20000 := by
  cases hp : posF l n with
  | none => rw [textV_none hp]; exact Nat.zero_le _
  | some k =>
    obtain ⟨x, hx, -⟩ := posF_some hp
    rw [textV_some hp hx]
    exact (h.2.1 _ (List.mem_of_getElem? hx)).2.1
theorem logL_len {l : List Fl} (n : ByteArray) : (logL l n).length ≤ 20000 := by
  by_cases hg : DiskGood l
  · rw [logL_good hg, List.length_map]
    have h1 := unframeL_len (textV l n).1.data.toList
    have h2 := textV_size n hg
    have h3 : (textV l n).1.data.toList.length = (textV l n).1.size := by rw [Array.length_toList]; rfl
    omega
  · rw [logL_bad hg]; simp

/-- A disk that came in, in its box. -/
structure OneBox (w : World) (T : TypeId) (dv : Value) (W : World) : Prop where
  box : Blk W w.heap.size T [dv]
  low : Below w.heap.size w W
  size : w.heap.size + 1 ≤ W.heap.size
theorem OneBox.start (w : World) (T : TypeId) (dv : Value) : OneBox w T dv (w.alloc (.cells #[dv] T)) :=
  ⟨Blk.new w T [dv] _ rfl, (Below.refl _ _).alloc (Nat.le_refl _) _, by rw [alloc_size]; exact Nat.le_refl _⟩
theorem OneBox.below {w : World} {T : TypeId} {dv : Value} {W W' : World} (h : OneBox w T dv W) (hb : Below W.heap.size W W') : OneBox w T dv W' :=
  ⟨h.box.below hb h.box.lt, h.low.trans (hb.mono h.low.size), Nat.le_trans h.size hb.size⟩
theorem OneBox.drewN {w : World} {T : TypeId} {dv : Value} {W : World} (h : OneBox w T dv W) (n : Nat) : OneBox w T dv (W.drewN n) := ⟨h.box, bDrewN h.low n, h.size⟩
theorem OneBox.grown {w : World} {T : TypeId} {dv : Value} {W W' : World} {row : Option Nat} (h : OneBox w T dv W) (hg : W.grownBy W' row) (hr : ∀ k, row = some k → w.heap.size + 1 ≤ k) : OneBox w T dv W' :=
  ⟨h.box.kept hg (fun e => by have := hr _ e.symm; omega), h.low.grown hg h.low.size (fun k hk => by have := hr k hk; omega), Nat.le_trans h.size hg.size⟩
/-- A fresh row. -/
theorem Own.fresh (w : World) (B size : Nat) (e : TypeId) (cs : List Value) (A : Array Value) (hA : A = cs.toArray) (n : Nat) (hn : cs.length = n * size) (hm : n ≤ maxLen) (hB : B ≤ w.heap.size) : Own (w.alloc (.cells A e)) B size (.slice (some ⟨w.heap.size, 0, none⟩) n n) n cs := by
  have hb := Blk.new w e cs A hA
  refine .inr ⟨w.heap.size, n, rfl, hB, ?_, Nat.le_refl _, hm, hn, fun j _ => hb.cell j, fun j hj => ⟨?_, hb.frozen j⟩⟩
  · rw [alloc_size]; exact Nat.lt_succ_self _
  · rw [hb.cell j, List.getElem?_eq_getElem (by omega)]; rfl

set_option maxHeartbeats 1000000 in
theorem iLogTexts_any (v : Value) (l : List Fl) (n : ByteArray) (w : World) (hl : l.length ≤ 1048576) (hs : ∀ x ∈ l, x.1.size ≤ 1048576 ∧ x.2.1.size ≤ 1048576) (h : RdK w v l) :
    Calls Try.prog 43 #[v, .string n] w fun e w' => (∃ v', e = .returned v' ∧ OwnS w' w.heap.size v' (logL l n)) ∧ Below w.heap.size w w' := by
  obtain ⟨ao, cap, rfl, hr⟩ := h
  have st := OneBox.start w 29 (.slice ao l.length cap)
  have R := Lib.hid (fun W hW => hr.below (C := w.heap.size) (w' := W) hW (Nat.le_refl _))
  have C1 := iFileAt_any _ l n _ hl ⟨ao, cap, rfl, R.out _ st.low⟩
  cases hp : posF l n with
  | none =>
    rw [textV_none hp] at C1
    have D1 := Lib.hid C1
    have ST := Lib.hid st
    have HE := Lib.hid (logL_none hp)
    clear C1 hr st hp
    go_enter Try.func43, Try.ntmps43
    go_wp2_with fail
    refine D1.out.mono ?_
    rintro e w1 ⟨rfl, hb1⟩
    have ST1 := Lib.hid (ST.out.below hb1)
    clear hb1
    go_wp2_with fail
    go_ret
    exact ⟨⟨_, rfl, by rw [HE.out]; exact OwnS.nil _ _⟩, ST1.out.low⟩
  | some k =>
    obtain ⟨x, hx, -⟩ := posF_some hp
    have C2 := fun W h => iDiskOk_any (.agg #[.slice ao l.length cap]) l W hl hs h
    by_cases hg : DiskGood l
    · have HE := Lib.hid (logL_good (n := n) hg)
      have hsz := textV_size n hg
      rw [textV_some hp hx] at C1 hsz HE
      have D1 := Lib.hid C1
      have ST := Lib.hid st
      have D3 := Lib.hid (fun W => iUnframe_any x.2.1 (by simp only at hsz; omega) W)
      simp only at HE
      rw [decide_eq_true hg] at C2
      have D2 := Lib.hid C2
      clear C1 C2 hr hg hsz hx hp st
      go_enter Try.func43, Try.ntmps43
      go_wp2_with fail
      refine D1.out.mono ?_
      rintro e w1 ⟨rfl, hb1⟩
      have ST1 := Lib.hid (ST.out.below hb1)
      clear hb1 D1
      have C3 := Lib.hid (D2.out w1 ⟨_, _, rfl, R.out _ ST1.out.low⟩)
      have c0 := Blk.cell ST1.out.box 0
      simp only [List.getElem?_cons_zero] at c0
      go_wp2_with fail
      refine C3.out.mono ?_
      rintro e w2 ⟨rfl, hb2⟩
      have ST2 := Lib.hid (ST1.out.below hb2)
      clear hb2 c0
      go_wp2_with fail
      refine (D3.out _).mono ?_
      rintro e w3 ⟨⟨v3, rfl, ho⟩, hb3⟩
      have ST3 := Lib.hid (ST2.out.below hb3)
      have HO := Lib.hid (ho.mono ST2.out.low.size)
      clear hb3 ho
      go_wp2_with fail
      go_ret
      exact ⟨⟨_, rfl, by rw [HE.out]; exact HO.out⟩, ST3.out.low⟩
    · have HE := Lib.hid (logL_bad (n := n) hg)
      rw [textV_some hp hx] at C1
      have D1 := Lib.hid C1
      have ST := Lib.hid st
      rw [decide_eq_false hg] at C2
      have D2 := Lib.hid C2
      clear C1 C2 hr hg hx hp st
      go_enter Try.func43, Try.ntmps43
      go_wp2_with fail
      refine D1.out.mono ?_
      rintro e w1 ⟨rfl, hb1⟩
      have ST1 := Lib.hid (ST.out.below hb1)
      clear hb1 D1
      have C3 := Lib.hid (D2.out w1 ⟨_, _, rfl, R.out _ ST1.out.low⟩)
      have c0 := Blk.cell ST1.out.box 0
      simp only [List.getElem?_cons_zero] at c0
      go_wp2_with fail
      refine C3.out.mono ?_
      rintro e w2 ⟨rfl, hb2⟩
      have ST2 := Lib.hid (ST1.out.below hb2)
      clear hb2 c0
      go_wp2_with fail
      go_ret
      exact ⟨⟨_, rfl, by rw [HE.out]; exact OwnS.nil _ _⟩, ST2.out.low⟩

set_option maxHeartbeats 1000000 in
theorem sLogTexts_any (v : Value) (l : List Fl) (n : ByteArray) (w : World) (hl : l.length ≤ 1048576) (hs : ∀ x ∈ l, x.1.size ≤ 1048576 ∧ x.2.1.size ≤ 1048576) (h : RdK w v l) :
    Calls Try.prog 42 #[v, .string n] w fun e w' => (∃ v', e = .returned v' ∧ OwnS w' w.heap.size v' (logL l n)) ∧ Below w.heap.size w w' := by
  obtain ⟨ao, cap, rfl, hr⟩ := h
  have st := OneBox.start w 29 (.slice ao l.length cap)
  have R := Lib.hid (fun W hW => hr.below (C := w.heap.size) (w' := W) hW (Nat.le_refl _))
  have C2 := sDiskOk_any _ l _ hl hs ⟨ao, cap, rfl, R.out _ st.low⟩
  have ST := Lib.hid st
  by_cases hg : DiskGood l
  · have HE := Lib.hid (logL_good (n := n) hg)
    have HL := Lib.hid (logL_len (l := l) n)
    rw [HE.out] at HL
    have hsz := textV_size n hg
    have C1 := fun W h => sFileAt_any (.agg #[.slice ao l.length cap]) l n W hl h
    generalize textV l n = tv at *
    obtain ⟨t, b⟩ := tv
    simp only at C1 hsz HE HL
    have D1 := Lib.hid C1
    have D3 := Lib.hid (fun W => sUnframe_any t (by omega) W)
    rw [decide_eq_true hg] at C2
    have D2 := Lib.hid C2
    clear C1 C2 hr hg hsz st
    go_enter Try.func42, Try.ntmps42
    go_wp2_with fail
    refine D2.out.mono ?_
    rintro e w1 ⟨rfl, hb1⟩
    have ST1 := Lib.hid (ST.out.below hb1)
    clear hb1 D2
    have C3 := Lib.hid (D1.out w1 ⟨_, _, rfl, R.out _ ST1.out.low⟩)
    have c0 := Blk.cell ST1.out.box 0
    simp only [List.getElem?_cons_zero] at c0
    go_wp2_with fail
    refine C3.out.mono ?_
    rintro e w2 ⟨rfl, hb2⟩
    have ST2 := Lib.hid (ST1.out.below hb2)
    clear hb2 c0
    go_wp2_with fail
    refine (D3.out _).mono ?_
    rintro e w3 ⟨⟨v3, rfl, ho⟩, hb3⟩
    obtain ⟨ao3, cap3, rfl, r3⟩ := ho.rd
    generalize (unframeL t.data.toList).1.map txt = out at *
    have ST3 := Lib.hid (ST2.out.below hb3)
    have hoe := OwnS.empty w3 w.heap.size 9 ST3.out.low.size
    have hB3 := (Below.refl w3.heap.size w3).alloc (Nat.le_refl _) (.cells #[] 9)
    have Hsrc := Lib.hid (RdS.src (P := Try.prog) Try.underlying56 (r3.below hB3 (Nat.le_refl _)) cap3)
    have hz4 := alloc_size w3 (.cells #[] 9)
    have l3 := ST3.out.low.size
    have ST4 := Lib.hid (ST3.out.below hB3)
    have hL := HL.out
    clear hb3 ho r3
    go_wp2_with (at_builtin; refine wpList_append_Own _ rfl _ _ 56 56 rfl w.heap.size 9 _ 1 16 Try.underlying56 Try.infoStr rfl _ 0 [] rfl hoe _ rfl out.length (strC out) Hsrc.out (by unfold maxLen; omega) (by omega) (by omega) ?_; intro v5 w5 ho5 hg5 _; simp only [Nat.zero_add, List.nil_append] at ho5; have HO := Lib.hid ho5; have HB5 := Lib.hid (ST4.out.low.grown hg5 ST4.out.low.size (fun k hk => (Own.block hoe k hk).1)); clear ho5 hg5)
    go_ret
    exact ⟨⟨_, rfl, by rw [HE.out]; exact HO.out⟩, HB5.out⟩
  · have HE := Lib.hid (logL_bad (n := n) hg)
    rw [decide_eq_false hg] at C2
    have D2 := Lib.hid C2
    clear C2 hr hg st
    go_enter Try.func42, Try.ntmps42
    go_wp2_with fail
    refine D2.out.mono ?_
    rintro e w1 ⟨rfl, hb1⟩
    have ST1 := Lib.hid (ST.out.below hb1)
    clear hb1
    go_wp2_with fail
    go_ret
    exact ⟨⟨_, rfl, by rw [HE.out]; exact OwnS.empty _ _ _ ST1.out.low.size⟩, ST1.out.low.alloc ST1.out.low.size _⟩

end Go.Proofs.Ytdecehecjlbbiaa
