/-
  The walks of a signature's reading, the program's side.
-/
import Derived.Test.YtnlddjlbioelnaaRead1
namespace Go.Proofs.Ytnlddjlbioelnaa
open Go.RowKit

set_option maxHeartbeats 2000000 in
set_option maxRecDepth 100000 in
theorem fsig_any (g : Nat) (t : ByteArray) (w : World) (ht : t.size ≤ 1048576) (h : YtnlddjlbioelnaaRdr w g t (0, false)) :
    Calls Try.prog 43 #[.pointer (some ⟨g, 0, none⟩)] w fun e w' =>
      (∃ v vo vs vd, e = .returned v ∧ OwnSig w' w.heap.size w'.heap.size v (headB (readB t).1) vo vs vd (readO t).1 (readS t).1 (readD t).1) ∧ YtnlddjlbioelnaaRdr w' g t (readD t).2 ∧ w.grownBy w' (some g) := by
  have hgl := Blk.lt h
  have b1 := Blk.new w 44 [.int .i64 0, .slice none 0 0, .slice none 0 0, .slice none 0 0] _ rfl
  have C1 := Lib.hid (one_any g t _ ht (Blk.alloc h (.cells #[.int .i64 0, .slice none 0 0, .slice none 0 0, .slice none 0 0] 44)))
  have C2 := Lib.hid (fun W hW => hashes_any g 8 t (readB t).2 W (by omega) ht (readB_le t) hW)
  have C3 := Lib.hid (fun W hW => hashes_any g 8 t (readO t).2 W (by omega) ht (readO_le t) hW)
  have C4 := Lib.hid (fun W hW => hashes_any g 4 t (readS t).2 W (by omega) ht (readS_le t) hW)
  have HG0 := Lib.hid (World.grownBy_alloc w (.cells #[.int .i64 0, .slice none 0 0, .slice none 0 0, .slice none 0 0] 44) (some g))
  have B1 := Lib.hid b1
  have hz := alloc_size w (.cells #[.int .i64 0, .slice none 0 0, .slice none 0 0, .slice none 0 0] 44)
  have HZ := Lib.hid hz
  have L2 := Lib.hid (show (hashesF t 16 (readB t).2 8) = readO t from rfl)
  have L3 := Lib.hid (show (hashesF t 16 (readO t).2 8) = readS t from rfl)
  have L4 := Lib.hid (show (hashesF t 16 (readS t).2 4) = readD t from rfl)
  rw [L2.out] at C2
  rw [L3.out] at C3
  rw [L4.out] at C4
  clear b1 h hz L2 L3 L4
  generalize headB (readB t).1 = p at *
  generalize (readB t).2 = qb at *
  generalize readO t = rO at *
  generalize readS t = rS at *
  generalize readD t = rD at *
  obtain ⟨o, qo⟩ := rO
  obtain ⟨s, qs⟩ := rS
  obtain ⟨d, qd⟩ := rD
  simp only at C1 C2 C3 C4 ⊢
  go_enter Try.func43, Try.ntmps43
  go_wp2_with fail
  refine C1.out.mono ?_
  rintro e w1 ⟨rfl, hk1, hg1⟩
  have HK1 := Lib.hid hk1
  have D1 := Lib.hid (Blk.kept B1.out hg1 (fun e => by cases e; omega))
  have HG1 := Lib.hid (grownBy_trans HG0.out hg1)
  have Z1 : Hid (w.heap.size + 1 ≤ w1.heap.size) := Lib.hid (by have := hg1.size; rw [HZ.out] at this; exact this)
  clear hk1 hg1 C1
  go_wp2_with fail
  refine (C2.out w1 HK1.out).mono ?_
  rintro e w2 ⟨⟨v2, rfl, ho2⟩, hk2, hg2⟩
  have HK2 := Lib.hid hk2
  have D2 := Lib.hid (Blk.kept D1.out hg2 (fun e => by cases e; omega))
  have HG2 := Lib.hid (grownBy_trans HG1.out hg2)
  have Z2 := Lib.hid (Nat.le_trans Z1.out hg2.size)
  have O2 := Lib.hid (Own.mono ho2 Z1.out)
  clear hk2 hg2 ho2 C2
  go_wp2_with fail
  refine (C3.out w2 HK2.out).mono ?_
  rintro e w3 ⟨⟨v3, rfl, ho3⟩, hk3, hg3⟩
  have HK3 := Lib.hid hk3
  have D3 := Lib.hid (Blk.kept D2.out hg3 (fun e => by cases e; omega))
  have HG3 := Lib.hid (grownBy_trans HG2.out hg3)
  have Z3 := Lib.hid (Nat.le_trans Z2.out hg3.size)
  have A23 := Lib.hid (apart_of (fun k hk => (O2.out.block k hk).2) (fun k hk => (ho3.block k hk).1))
  have O23 : Hid (OwnS w3 (w.heap.size + 1) v2 o) := Lib.hid (Own.kept_only O2.out hg3 (by omega))
  have O3 := Lib.hid (Own.mono ho3 Z2.out)
  clear hk3 hg3 ho3 C3
  go_wp2_with fail
  refine (C4.out w3 HK3.out).mono ?_
  rintro e w4 ⟨⟨v4, rfl, ho4⟩, hk4, hg4⟩
  have HK4 := Lib.hid hk4
  have D4 := Blk.kept D3.out hg4 (fun e => by cases e; omega)
  have HG4 := Lib.hid (grownBy_trans HG3.out hg4)
  have A24 := Lib.hid (apart_of (fun k hk => (O23.out.block k hk).2) (fun k hk => (ho4.block k hk).1))
  have A34 := Lib.hid (apart_of (fun k hk => (O3.out.block k hk).2) (fun k hk => (ho4.block k hk).1))
  have O24 : OwnS w4 (w.heap.size + 1) v2 o := Own.kept_only O23.out hg4 (by omega)
  have O34 : OwnS w4 (w.heap.size + 1) v3 s := Own.kept_only O3.out hg4 (by omega)
  have O4 : OwnS w4 (w.heap.size + 1) v4 d := Own.mono ho4 Z3.out
  have k0 : w4.cell? ⟨w.heap.size, 0, none⟩ = some (.int .i64 0) := D4.cell 0
  have k1 : w4.cell? ⟨w.heap.size, 1, none⟩ = some (.slice none 0 0) := D4.cell 1
  have k2 : w4.cell? ⟨w.heap.size, 2, none⟩ = some (.slice none 0 0) := D4.cell 2
  have k3 : w4.cell? ⟨w.heap.size, 3, none⟩ = some (.slice none 0 0) := D4.cell 3
  have k4 := D4.frozen 0
  have k5 := D4.frozen 1
  have k6 := D4.frozen 2
  have k7 := D4.frozen 3
  obtain ⟨q2, m2, rfl⟩ := Own.shape O24
  obtain ⟨q3, m3, rfl⟩ := Own.shape O34
  obtain ⟨q4, m4, rfl⟩ := Own.shape O4
  have E4 := Lib.hid ((((D4.set_ 0 (.int .i64 p)).set_ 1 (.slice q2 o.length m2)).set_ 2 (.slice q3 s.length m3)).set_ 3 (.slice q4 d.length m4))
  have P2 := Lib.hid O24
  have P3 := Lib.hid O34
  have P4 := Lib.hid O4
  clear D4 O24 O34 O4 ho4 hk4 hg4 C4
  go_wp2_with fail
  have hst : ∀ (v : Value) (l : List ByteArray), OwnS w4 (w.heap.size + 1) v l → OwnS ((((w4.setCell ⟨w.heap.size, 0, none⟩ (.int .i64 p)).setCell ⟨w.heap.size, 1, none⟩ (.slice q2 o.length m2)).setCell ⟨w.heap.size, 2, none⟩ (.slice q3 s.length m3)).setCell ⟨w.heap.size, 3, none⟩ (.slice q4 d.length m4)) w.heap.size v l := fun v l h =>
    ((((h.setCell (a := ⟨w.heap.size, 0, none⟩) (by simp only; omega) _).setCell (a := ⟨w.heap.size, 1, none⟩) (by simp only; omega) _).setCell (a := ⟨w.heap.size, 2, none⟩) (by simp only; omega) _).setCell (a := ⟨w.heap.size, 3, none⟩) (by simp only; omega) _).mono (by omega)
  have F2 := hst _ _ P2.out
  have F3 := hst _ _ P3.out
  have F4 := hst _ _ P4.out
  have hne : g ≠ w.heap.size := by omega
  have HKF := Lib.hid ((((Blk.far HK4.out (p := ⟨w.heap.size, 0, none⟩) hne (.int .i64 p)).far (p := ⟨w.heap.size, 1, none⟩) hne (.slice q2 o.length m2)).far (p := ⟨w.heap.size, 2, none⟩) hne (.slice q3 s.length m3)).far (p := ⟨w.heap.size, 3, none⟩) hne (.slice q4 d.length m4))
  have HGF : Hid (w.grownBy ((((w4.setCell ⟨w.heap.size, 0, none⟩ (.int .i64 p)).setCell ⟨w.heap.size, 1, none⟩ (.slice q2 o.length m2)).setCell ⟨w.heap.size, 2, none⟩ (.slice q3 s.length m3)).setCell ⟨w.heap.size, 3, none⟩ (.slice q4 d.length m4)) (some g)) := Lib.hid (by
    have hG := HG4.out
    refine ⟨hG.os, hG.tape, hG.output, by simpa [World.setCell] using hG.size, fun i hi hne => ?_⟩
    rw [Below.heap_setCell _ _ _ _ (by simp only; omega), Below.heap_setCell _ _ _ _ (by simp only; omega), Below.heap_setCell _ _ _ _ (by simp only; omega), Below.heap_setCell _ _ _ _ (by simp only; omega)]
    exact hG.block i hi hne)
  refine bodyPost_ret (results_cell_row rfl _ _ w.heap.size 44 #[.int .i64 p, .slice q2 o.length m2, .slice q3 s.length m3, .slice q4 d.length m4] (0, 0) _ rfl E4.out Try.underlying44 rfl (by kernel_rfl)) rfl ?_
  exact ⟨⟨_, _, _, _, rfl, rfl, F2, F3, F4, A23.out, A24.out, A34.out, fun k hk => (F2.block k hk).2, fun k hk => (F3.block k hk).2, fun k hk => (F4.block k hk).2⟩, HKF.out, HGF.out⟩

/-- Two results, the first of which lies in a cell. -/
theorem results_cell_row_tmp {fn : Func} {p u : Tmp} {ty : TypeId} (h : fn.results = #[.cell p ty, .tmp u]) (tmps : Array Value) (P : Program) (w : World) (g : Nat) (t : TypeId) (cs : Array Value) (fr : Nat × Nat) (fs : Array Field) (x : Value)
    (hp : tmps.getD p undef = .pointer (some ⟨g, 0, none⟩)) (hx : tmps.getD u undef = x) (hg : w.heap[g]? = some (.cells cs t fr))
    (hu : P.underlying ty = some (.struct fs)) (hi : (P.info? ty).map (·.size) = some cs.size) :
    (results fn tmps).run P w = .ok (.tuple #[.agg cs, x]) w := by
  rw [results_cell_tmp h, hp, hx]
  have e := run_loadVar_row w g t ty cs fr _ hg hu rfl hi
  simp [asAddr, Result.andThen]
  rw [e]

/-- No signature. -/
theorem OwnSig.zero (w : World) (B C : Nat) : OwnSig w B C (.agg #[.int .i64 0, .slice none 0 0, .slice none 0 0, .slice none 0 0]) 0 (.slice none 0 0) (.slice none 0 0) (.slice none 0 0) [] [] [] :=
  ⟨rfl, OwnS.nil _ _, OwnS.nil _ _, OwnS.nil _ _, .inl rfl, .inl rfl, .inl rfl, (fun k h => by cases h), (fun k h => by cases h), (fun k h => by cases h)⟩

set_option maxHeartbeats 4000000 in
set_option maxRecDepth 100000 in
theorem iReadSig_any (t : ByteArray) (ht : t.size ≤ 1048576) (p : Int) (o s d : List ByteArray) (b : Bool) (hr : readV t = (p, o, s, d, b)) (w : World) :
    Calls Try.prog 25 #[.string t] w fun e w' => (∃ v vo vs vd, e = .returned (.tuple #[v, .bool b]) ∧ OwnSig w' w.heap.size w'.heap.size v p vo vs vd o s d) ∧ Below w.heap.size w w' := by
  have hz1 := alloc_size w (.cells #[.int .i64 0, .slice none 0 0, .slice none 0 0, .slice none 0 0] 44)
  have hz2 := alloc_size (w.alloc (.cells #[.int .i64 0, .slice none 0 0, .slice none 0 0, .slice none 0 0] 44)) (.cells #[.string t, .int .i64 0, .bool false] 72)
  have hB := ((Below.refl w.heap.size w).alloc (Nat.le_refl _) (.cells #[.int .i64 0, .slice none 0 0, .slice none 0 0, .slice none 0 0] 44)).alloc (by omega) (.cells #[.string t, .int .i64 0, .bool false] 72)
  have b1 := (Blk.new w 44 [.int .i64 0, .slice none 0 0, .slice none 0 0, .slice none 0 0] _ rfl).alloc (.cells #[.string t, .int .i64 0, .bool false] 72)
  have b2 := Blk.new (w.alloc (.cells #[.int .i64 0, .slice none 0 0, .slice none 0 0, .slice none 0 0] 44)) 72 [.string t, .int .i64 0, .bool false] _ rfl
  rw [hz1] at b2
  have C := Lib.hid (fsig_any (w.heap.size + 1) t _ ht b2)
  have B1 := Lib.hid b1
  have HB := Lib.hid hB
  have HZ : Hid (((w.alloc (.cells #[.int .i64 0, .slice none 0 0, .slice none 0 0, .slice none 0 0] 44)).alloc (.cells #[.string t, .int .i64 0, .bool false] 72)).heap.size = w.heap.size + 2) := Lib.hid (by omega)
  have hT := read_test t
  have DN := Lib.hid (fun W h => done_any (w.heap.size + 1) t (readD t).2 W (readD_le t) h)
  have lo : (readO t).1.length = 8 := hashesF_len _ _ _ _
  have ls : (readS t).1.length = 8 := hashesF_len _ _ _ _
  have ld : (readD t).1.length = 4 := hashesF_len _ _ _ _
  have zo : ∀ x ∈ (readO t).1, x.size ≤ 16 := hashesF_size 8
  have zs : ∀ x ∈ (readS t).1, x.size ≤ 16 := hashesF_size 8
  have zd : ∀ x ∈ (readD t).1, x.size ≤ 16 := hashesF_size 4
  have CF := Lib.hid (fun v W h => iForm_any v (headB (readB t).1) (readO t).1 (readS t).1 (readD t).1 W (by omega) (by omega) (by omega) (fun x hx => by have := zo x hx; omega) (fun x hx => by have := zs x hx; omega) (fun x hx => by have := zd x hx; omega) h)
  by_cases hg : t.size = 321 ∧ headB t ≤ 15
  · have hv : readV t = (headB (readB t).1, (readO t).1, (readS t).1, (readD t).1, true) := by
      rw [readV_yes hg, readB_all hg.1, readO_all hg.1, readS_all hg.1, readD_all hg.1, ← head_extract (t := t) (by omega)]
    rw [hv] at hr
    injection hr with hr1 hr
    injection hr with hr2 hr
    injection hr with hr3 hr
    injection hr with hr4 hr5
    rw [hr1, hr2, hr3, hr4] at C CF
    obtain ⟨g1, g2, g3⟩ := hT.2 hg
    rw [hr1, hr2, hr3, hr4] at g3
    rw [decide_eq_true (show (readD t).2.2 = false ∧ (readD t).2.1 = t.size from ⟨g1, g2⟩)] at DN
    rw [decide_eq_true g3] at CF
    rw [hr2] at lo
    rw [hr3] at ls
    rw [hr4] at ld
    generalize (readD t).2 = qd at *
    subst hr5
    have LO := Lib.hid (And.intro lo (And.intro ls ld))
    clear hT hv hr1 hr2 hr3 hr4 g1 g2 g3 hg zo zs zd lo ls ld hz1 hz2 hB b1 b2
    go_enter Try.func25, Try.ntmps25
    go_wp2_with fail
    refine C.out.mono ?_
    rintro e w1 ⟨⟨v, vo, vs, vd, rfl, hs⟩, hk, hg1⟩
    obtain ⟨ao, co, rfl⟩ := Own.shape hs.o
    obtain ⟨as_, cs_, rfl⟩ := Own.shape hs.s
    obtain ⟨ad, cd, rfl⟩ := Own.shape hs.d
    obtain rfl := hs.eq
    have hz3 := alloc_size w1 (.cells #[.int .i64 p, .slice ao o.length co, .slice as_ s.length cs_, .slice ad d.length cd] 44)
    have hb1 := (Below.refl w1.heap.size w1).alloc (Nat.le_refl _) (.cells #[.int .i64 p, .slice ao o.length co, .slice as_ s.length cs_, .slice ad d.length cd] 44)
    have hbx : Below w.heap.size w w1 := HB.out.trans (below_only hg1 (by omega) (by rw [HZ.out]; omega))
    have hw1 : w.heap.size + 2 ≤ w1.heap.size := by have := hg1.size; rw [HZ.out] at this; exact this
    have S2 := Lib.hid (hs.below hb1 (Nat.le_refl _))
    have DX := Lib.hid (DN.out _ (Blk.alloc hk (.cells #[.int .i64 p, .slice ao o.length co, .slice as_ s.length cs_, .slice ad d.length cd] 44)))
    have B2 := Lib.hid ((Blk.kept B1.out hg1 (by simp)).alloc (.cells #[.int .i64 p, .slice ao o.length co, .slice as_ s.length cs_, .slice ad d.length cd] 44))
    have B3 := Lib.hid (Blk.new w1 44 [.int .i64 p, .slice ao o.length co, .slice as_ s.length cs_, .slice ad d.length cd] _ rfl)
    have HB2 := Lib.hid (hbx.trans (hb1.mono (by omega)))
    have HW1 := Lib.hid hw1
    have HZ3 := Lib.hid hz3
    clear hs hk hg1 hz3 hb1 hbx hw1 C
    go_wp2_with fail
    refine DX.out.mono ?_
    rintro e w2 ⟨rfl, hb2⟩
    have S3 := Lib.hid (S2.out.below hb2 (Nat.le_refl _))
    have B4 := B2.out.below hb2 (by rw [HZ3.out]; have := HW1.out; omega)
    have B5 := B3.out.below hb2 (by rw [HZ3.out]; omega)
    have HB3 := Lib.hid (HB2.out.trans (hb2.mono HB2.out.size))
    have HW2 : Hid (w1.heap.size + 1 ≤ w2.heap.size) := Lib.hid (by have := hb2.size; rw [HZ3.out] at this; exact this)
    have j0 : w2.cell? ⟨w1.heap.size, 0, none⟩ = some (.int .i64 p) := B5.cell 0
    have j1 : w2.cell? ⟨w1.heap.size, 1, none⟩ = some (.slice ao o.length co) := B5.cell 1
    have j2 : w2.cell? ⟨w1.heap.size, 2, none⟩ = some (.slice as_ s.length cs_) := B5.cell 2
    have j3 : w2.cell? ⟨w1.heap.size, 3, none⟩ = some (.slice ad d.length cd) := B5.cell 3
    have B6 := Lib.hid B4
    have B7 := Lib.hid B5
    clear B4 B5 hb2 DX
    go_wp2_with fail
    refine (CF.out _ w2 S3.out.rd).mono ?_
    rintro e w3 ⟨rfl, hb3⟩
    have S4 := S3.out.below hb3 (Nat.le_refl _)
    have B4 := B6.out.below hb3 (by have := HW1.out; have := HW2.out; omega)
    have B5 := B7.out.below hb3 (by have := HW2.out; omega)
    have HB4 := Lib.hid (HB3.out.trans (hb3.mono HB3.out.size))
    clear j0 j1 j2 j3
    have j0 : w3.cell? ⟨w1.heap.size, 0, none⟩ = some (.int .i64 p) := B5.cell 0
    have j1 : w3.cell? ⟨w1.heap.size, 1, none⟩ = some (.slice ao o.length co) := B5.cell 1
    have j2 : w3.cell? ⟨w1.heap.size, 2, none⟩ = some (.slice as_ s.length cs_) := B5.cell 2
    have j3 : w3.cell? ⟨w1.heap.size, 3, none⟩ = some (.slice ad d.length cd) := B5.cell 3
    have k0 : w3.cell? ⟨w.heap.size, 0, none⟩ = some (.int .i64 0) := B4.cell 0
    have k1 : w3.cell? ⟨w.heap.size, 1, none⟩ = some (.slice none 0 0) := B4.cell 1
    have k2 : w3.cell? ⟨w.heap.size, 2, none⟩ = some (.slice none 0 0) := B4.cell 2
    have k3 : w3.cell? ⟨w.heap.size, 3, none⟩ = some (.slice none 0 0) := B4.cell 3
    have k4 := B4.frozen 0
    have k5 := B4.frozen 1
    have k6 := B4.frozen 2
    have k7 := B4.frozen 3
    have E4 := Lib.hid ((((B4.set_ 0 (.int .i64 p)).set_ 1 (.slice ao o.length co)).set_ 2 (.slice as_ s.length cs_)).set_ 3 (.slice ad d.length cd))
    have S5 := Lib.hid S4
    have HB5 := Lib.hid ((((HB4.out.setCell (p := ⟨w.heap.size, 0, none⟩) (Nat.le_refl _) (.int .i64 p)).setCell (p := ⟨w.heap.size, 1, none⟩) (Nat.le_refl _) (.slice ao o.length co)).setCell (p := ⟨w.heap.size, 2, none⟩) (Nat.le_refl _) (.slice as_ s.length cs_)).setCell (p := ⟨w.heap.size, 3, none⟩) (Nat.le_refl _) (.slice ad d.length cd))
    clear B4 B5 S4 hb3
    go_wp2_with fail
    have hst : ∀ (v : Value) (l : List ByteArray), OwnS w3 ((w.alloc (.cells #[.int .i64 0, .slice none 0 0, .slice none 0 0, .slice none 0 0] 44)).alloc (.cells #[.string t, .int .i64 0, .bool false] 72)).heap.size v l → OwnS ((((w3.setCell ⟨w.heap.size, 0, none⟩ (.int .i64 p)).setCell ⟨w.heap.size, 1, none⟩ (.slice ao o.length co)).setCell ⟨w.heap.size, 2, none⟩ (.slice as_ s.length cs_)).setCell ⟨w.heap.size, 3, none⟩ (.slice ad d.length cd)) w.heap.size v l := fun v l h => by
      rw [HZ.out] at h
      exact ((((h.setCell (a := ⟨w.heap.size, 0, none⟩) (by simp only; omega) _).setCell (a := ⟨w.heap.size, 1, none⟩) (by simp only; omega) _).setCell (a := ⟨w.heap.size, 2, none⟩) (by simp only; omega) _).setCell (a := ⟨w.heap.size, 3, none⟩) (by simp only; omega) _).mono (by omega)
    have F2 := hst _ _ S5.out.o
    have F3 := hst _ _ S5.out.s
    have F4 := hst _ _ S5.out.d
    refine bodyPost_ret (results_cell_row_tmp rfl _ _ _ w.heap.size 44 #[.int .i64 p, .slice ao o.length co, .slice as_ s.length cs_, .slice ad d.length cd] (0, 0) _ _ rfl rfl E4.out Try.underlying44 (by kernel_rfl)) rfl ?_
    exact ⟨⟨_, _, _, _, rfl, ⟨rfl, F2, F3, F4, S5.out.os, S5.out.od, S5.out.sd, fun k hk => (F2.block k hk).2, fun k hk => (F3.block k hk).2, fun k hk => (F4.block k hk).2⟩⟩, HB5.out⟩
  · rw [readV_no hg] at hr
    injection hr with hr1 hr
    injection hr with hr2 hr
    injection hr with hr3 hr
    injection hr with hr4 hr5
    subst hr1
    subst hr2
    subst hr3
    subst hr4
    subst hr5
    by_cases hd : (readD t).2.2 = false ∧ (readD t).2.1 = t.size
    · have hnf : ¬ SigForm (headB (readB t).1) (readO t).1 (readS t).1 (readD t).1 := fun h => hg (hT.1 ⟨hd.1, hd.2, h⟩)
      rw [decide_eq_true hd] at DN
      rw [decide_eq_false hnf] at CF
      clear hT hg zo zs zd lo ls ld hz1 hz2 hB b1 b2 hd hnf
      generalize (readD t).2 = qd at *
      generalize (readD t).1 = ld at *
      generalize (readS t).1 = ls at *
      generalize (readO t).1 = lo at *
      generalize headB (readB t).1 = hp at *
      go_enter Try.func25, Try.ntmps25
      go_wp2_with fail
      refine C.out.mono ?_
      rintro e w1 ⟨⟨v, vo, vs, vd, rfl, hs⟩, hk, hg1⟩
      obtain ⟨ao, co, rfl⟩ := Own.shape hs.o
      obtain ⟨as_, cs_, rfl⟩ := Own.shape hs.s
      obtain ⟨ad, cd, rfl⟩ := Own.shape hs.d
      obtain rfl := hs.eq
      have hz3 := alloc_size w1 (.cells #[.int .i64 hp, .slice ao lo.length co, .slice as_ ls.length cs_, .slice ad ld.length cd] 44)
      have hb1 := (Below.refl w1.heap.size w1).alloc (Nat.le_refl _) (.cells #[.int .i64 hp, .slice ao lo.length co, .slice as_ ls.length cs_, .slice ad ld.length cd] 44)
      have hbx : Below w.heap.size w w1 := HB.out.trans (below_only hg1 (by omega) (by rw [HZ.out]; omega))
      have hw1 : w.heap.size + 2 ≤ w1.heap.size := by have := hg1.size; rw [HZ.out] at this; exact this
      have S2 := Lib.hid (hs.below hb1 (Nat.le_refl _))
      have DX := Lib.hid (DN.out _ (Blk.alloc hk (.cells #[.int .i64 hp, .slice ao lo.length co, .slice as_ ls.length cs_, .slice ad ld.length cd] 44)))
      have B2 := Lib.hid ((Blk.kept B1.out hg1 (by simp)).alloc (.cells #[.int .i64 hp, .slice ao lo.length co, .slice as_ ls.length cs_, .slice ad ld.length cd] 44))
      have B3 := Lib.hid (Blk.new w1 44 [.int .i64 hp, .slice ao lo.length co, .slice as_ ls.length cs_, .slice ad ld.length cd] _ rfl)
      have HB2 := Lib.hid (hbx.trans (hb1.mono (by omega)))
      have HW1 := Lib.hid hw1
      have HZ3 := Lib.hid hz3
      clear hs hk hg1 hz3 hb1 hbx hw1 C
      go_wp2_with fail
      refine DX.out.mono ?_
      rintro e w2 ⟨rfl, hb2⟩
      have S3 := Lib.hid (S2.out.below hb2 (Nat.le_refl _))
      have B4 := B2.out.below hb2 (by rw [HZ3.out]; have := HW1.out; omega)
      have B5 := B3.out.below hb2 (by rw [HZ3.out]; omega)
      have HB3 := Lib.hid (HB2.out.trans (hb2.mono HB2.out.size))
      have HW2 : Hid (w1.heap.size + 1 ≤ w2.heap.size) := Lib.hid (by have := hb2.size; rw [HZ3.out] at this; exact this)
      have j0 : w2.cell? ⟨w1.heap.size, 0, none⟩ = some (.int .i64 hp) := B5.cell 0
      have j1 : w2.cell? ⟨w1.heap.size, 1, none⟩ = some (.slice ao lo.length co) := B5.cell 1
      have j2 : w2.cell? ⟨w1.heap.size, 2, none⟩ = some (.slice as_ ls.length cs_) := B5.cell 2
      have j3 : w2.cell? ⟨w1.heap.size, 3, none⟩ = some (.slice ad ld.length cd) := B5.cell 3
      have B6 := Lib.hid B4
      clear B4 B5 hb2 DX
      go_wp2_with fail
      refine (CF.out _ w2 S3.out.rd).mono ?_
      rintro e w3 ⟨rfl, hb3⟩
      have B4 := B6.out.below hb3 (by have := HW1.out; have := HW2.out; omega)
      have HBF := Lib.hid (HB3.out.trans (hb3.mono HB3.out.size))
      clear j0 j1 j2 j3 hb3
      have k0 : w3.cell? ⟨w.heap.size, 0, none⟩ = some (.int .i64 0) := B4.cell 0
      have k1 : w3.cell? ⟨w.heap.size, 1, none⟩ = some (.slice none 0 0) := B4.cell 1
      have k2 : w3.cell? ⟨w.heap.size, 2, none⟩ = some (.slice none 0 0) := B4.cell 2
      have k3 : w3.cell? ⟨w.heap.size, 3, none⟩ = some (.slice none 0 0) := B4.cell 3
      have k4 := B4.frozen 0
      have k5 := B4.frozen 1
      have k6 := B4.frozen 2
      have k7 := B4.frozen 3
      have E4 := Lib.hid ((((B4.set_ 0 (.int .i64 0)).set_ 1 (.slice none 0 0)).set_ 2 (.slice none 0 0)).set_ 3 (.slice none 0 0))
      have HB5 := Lib.hid ((((HBF.out.setCell (p := ⟨w.heap.size, 0, none⟩) (Nat.le_refl _) (.int .i64 0)).setCell (p := ⟨w.heap.size, 1, none⟩) (Nat.le_refl _) (.slice none 0 0)).setCell (p := ⟨w.heap.size, 2, none⟩) (Nat.le_refl _) (.slice none 0 0)).setCell (p := ⟨w.heap.size, 3, none⟩) (Nat.le_refl _) (.slice none 0 0))
      clear B4
      go_wp2_with fail
      refine bodyPost_ret (results_cell_row_tmp rfl _ _ _ w.heap.size 44 #[.int .i64 0, .slice none 0 0, .slice none 0 0, .slice none 0 0] (0, 0) _ _ rfl rfl E4.out Try.underlying44 (by kernel_rfl)) rfl ?_
      exact ⟨⟨_, _, _, _, rfl, OwnSig.zero _ _ _⟩, HB5.out⟩
    · rw [decide_eq_false hd] at DN
      clear hT hg zo zs zd lo ls ld hz1 hz2 hB b1 b2 hd CF
      generalize (readD t).2 = qd at *
      generalize (readD t).1 = ld at *
      generalize (readS t).1 = ls at *
      generalize (readO t).1 = lo at *
      generalize headB (readB t).1 = hp at *
      go_enter Try.func25, Try.ntmps25
      go_wp2_with fail
      refine C.out.mono ?_
      rintro e w1 ⟨⟨v, vo, vs, vd, rfl, hs⟩, hk, hg1⟩
      obtain ⟨ao, co, rfl⟩ := Own.shape hs.o
      obtain ⟨as_, cs_, rfl⟩ := Own.shape hs.s
      obtain ⟨ad, cd, rfl⟩ := Own.shape hs.d
      obtain rfl := hs.eq
      have hz3 := alloc_size w1 (.cells #[.int .i64 hp, .slice ao lo.length co, .slice as_ ls.length cs_, .slice ad ld.length cd] 44)
      have hb1 := (Below.refl w1.heap.size w1).alloc (Nat.le_refl _) (.cells #[.int .i64 hp, .slice ao lo.length co, .slice as_ ls.length cs_, .slice ad ld.length cd] 44)
      have hbx : Below w.heap.size w w1 := HB.out.trans (below_only hg1 (by omega) (by rw [HZ.out]; omega))
      have hw1 : w.heap.size + 2 ≤ w1.heap.size := by have := hg1.size; rw [HZ.out] at this; exact this
      have S2 := Lib.hid (hs.below hb1 (Nat.le_refl _))
      have DX := Lib.hid (DN.out _ (Blk.alloc hk (.cells #[.int .i64 hp, .slice ao lo.length co, .slice as_ ls.length cs_, .slice ad ld.length cd] 44)))
      have B2 := Lib.hid ((Blk.kept B1.out hg1 (by simp)).alloc (.cells #[.int .i64 hp, .slice ao lo.length co, .slice as_ ls.length cs_, .slice ad ld.length cd] 44))
      have B3 := Lib.hid (Blk.new w1 44 [.int .i64 hp, .slice ao lo.length co, .slice as_ ls.length cs_, .slice ad ld.length cd] _ rfl)
      have HB2 := Lib.hid (hbx.trans (hb1.mono (by omega)))
      have HW1 := Lib.hid hw1
      have HZ3 := Lib.hid hz3
      clear hs hk hg1 hz3 hb1 hbx hw1 C
      go_wp2_with fail
      refine DX.out.mono ?_
      rintro e w2 ⟨rfl, hb2⟩
      have S3 := Lib.hid (S2.out.below hb2 (Nat.le_refl _))
      have B4 := B2.out.below hb2 (by rw [HZ3.out]; have := HW1.out; omega)
      have B5 := B3.out.below hb2 (by rw [HZ3.out]; omega)
      have HB3 := Lib.hid (HB2.out.trans (hb2.mono HB2.out.size))
      have HW2 : Hid (w1.heap.size + 1 ≤ w2.heap.size) := Lib.hid (by have := hb2.size; rw [HZ3.out] at this; exact this)
      have HBF := HB3
      clear B5 hb2 DX S3 S2
      have k0 : w2.cell? ⟨w.heap.size, 0, none⟩ = some (.int .i64 0) := B4.cell 0
      have k1 : w2.cell? ⟨w.heap.size, 1, none⟩ = some (.slice none 0 0) := B4.cell 1
      have k2 : w2.cell? ⟨w.heap.size, 2, none⟩ = some (.slice none 0 0) := B4.cell 2
      have k3 : w2.cell? ⟨w.heap.size, 3, none⟩ = some (.slice none 0 0) := B4.cell 3
      have k4 := B4.frozen 0
      have k5 := B4.frozen 1
      have k6 := B4.frozen 2
      have k7 := B4.frozen 3
      have E4 := Lib.hid ((((B4.set_ 0 (.int .i64 0)).set_ 1 (.slice none 0 0)).set_ 2 (.slice none 0 0)).set_ 3 (.slice none 0 0))
      have HB5 := Lib.hid ((((HBF.out.setCell (p := ⟨w.heap.size, 0, none⟩) (Nat.le_refl _) (.int .i64 0)).setCell (p := ⟨w.heap.size, 1, none⟩) (Nat.le_refl _) (.slice none 0 0)).setCell (p := ⟨w.heap.size, 2, none⟩) (Nat.le_refl _) (.slice none 0 0)).setCell (p := ⟨w.heap.size, 3, none⟩) (Nat.le_refl _) (.slice none 0 0))
      clear B4
      go_wp2_with fail
      refine bodyPost_ret (results_cell_row_tmp rfl _ _ _ w.heap.size 44 #[.int .i64 0, .slice none 0 0, .slice none 0 0, .slice none 0 0] (0, 0) _ _ rfl rfl E4.out Try.underlying44 (by kernel_rfl)) rfl ?_
      exact ⟨⟨_, _, _, _, rfl, OwnSig.zero _ _ _⟩, HB5.out⟩

end Go.Proofs.Ytnlddjlbioelnaa
