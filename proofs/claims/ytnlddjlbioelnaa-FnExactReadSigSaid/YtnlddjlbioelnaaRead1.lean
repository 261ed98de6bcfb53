/-
  The walks of a reader of pieces, and of a signature's reading on both sides.
-/
import Derived.Test.YtnlddjlbioelnaaSig4
import Derived.Test.YtnlddjlbioelnaaSig6
import Derived.Test.YtnlddjlbioelnaaPuSigX
import Derived.Test.YtnlddjlbioelnaaPuDraw2
namespace Go.Proofs.Ytnlddjlbioelnaa
open Go.RowKit

/-- The reader's block. -/
def YtnlddjlbioelnaaRdr (w : World) (g : Nat) (t : ByteArray) (q : Nat × Bool) : Prop := Blk w g 72 [.string t, .int .i64 q.1, .bool q.2]
set_option maxHeartbeats 1000000 in
set_option maxRecDepth 100000 in
theorem bytes_any (g : Nat) (t : ByteArray) (n : Nat) (q : Nat × Bool) (w : World) (hn : n ≤ 16) (ht : t.size ≤ 1048576) (hq : q.1 ≤ t.size) (h : YtnlddjlbioelnaaRdr w g t q) :
    Calls Try.prog 54 #[.pointer (some ⟨g, 0, none⟩), .int .i64 n] w fun e w' => e = .returned (.string (takeF t n q).1) ∧ YtnlddjlbioelnaaRdr w' g t (takeF t n q).2 ∧ w.grownBy w' (some g) := by
  obtain ⟨at', bad⟩ := q
  have H := Lib.hid h
  unfold YtnlddjlbioelnaaRdr at h
  simp only at h hq
  have c0 := h.cell 0
  have c1 := h.cell 1
  have c2 := h.cell 2
  simp only [List.getElem?_cons_zero, List.getElem?_cons_succ] at c0 c1 c2
  have f1 := h.frozen 1
  have f2 := h.frozen 2
  clear h
  have hneg : decide ((n : Int) < 0) = false := decide_eq_false (by omega)
  cases bad
  · by_cases hs : t.size - at' < n
    · have HE := Lib.hid (takeF_bad (t := t) (n := n) (q := (at', false)) (.inr hs))
      have e1 : decide ((t.size : Int) - at' < n) = true := decide_eq_true (by omega)
      go_enter Try.func54, Try.ntmps54
      go_wp2_with fail
      go_quiet (fail)
      go_wp2_with fail
      go_ret
      refine ⟨by rw [HE.out]; rfl, ?_, grownBy_set (grownBy_drewN (World.grownBy.refl _ _) _) _ _⟩
      rw [HE.out]
      exact Blk.set_ (Blk.drewN H.out _) 2 _
    · have HE := Lib.hid (takeF_good (t := t) (n := n) (q := (at', false)) (fun h2 => h2.elim (fun h3 => by cases h3) (fun h3 => hs h3)))
      have e1 : decide ((t.size : Int) - at' < n) = false := decide_eq_false (by omega)
      have e2 : IntKind.i64.wrap ((at' : Int) + n - n) = at' := by rw [show (at' : Int) + n - n = at' by omega]; exact IntWalk.i64_in _ ⟨by omega, by omega⟩
      have q1 := fun wx => cut_str (P := Try.prog) Try.underlying9 t (at' : Int) ((at' : Int) + n) at' (at' + n) (by omega) (by omega) (by omega) (by omega) wx
      have e3 : (at' : Int) + n - n = at' := by omega
      have i0 : (0 : Int) ≤ (at' : Int) + n := by omega
      have i1 : (at' : Int) + n ≤ 1048576 := by omega
      go_enter Try.func54, Try.ntmps54
      go_wp2_with fail
      go_quiet (fail)
      go_wp2_with fail
      go_quiet (fail)
      go_wp2_with fail
      go_ret
      refine ⟨by rw [HE.out]; rfl, ?_, grownBy_drewN (grownBy_set (grownBy_drewN (World.grownBy.refl _ _) _) _ _) _⟩
      rw [HE.out]
      have h3 := Blk.set_ (Blk.drewN H.out 1) 1 (.int .i64 ((at' : Int) + n))
      exact h3
  · have HE := Lib.hid (takeF_bad (t := t) (n := n) (q := (at', true)) (.inl rfl))
    go_enter Try.func54, Try.ntmps54
    go_wp2_with fail
    go_quiet (fail)
    go_wp2_with fail
    go_ret
    refine ⟨by rw [HE.out]; rfl, ?_, grownBy_set (grownBy_drewN (World.grownBy.refl _ _) _) _ _⟩
    rw [HE.out]
    exact Blk.set_ (Blk.drewN H.out _) 2 _

theorem one_any (g : Nat) (t : ByteArray) (w : World) (ht : t.size ≤ 1048576) (h : YtnlddjlbioelnaaRdr w g t (0, false)) :
    Calls Try.prog 51 #[.pointer (some ⟨g, 0, none⟩)] w fun e w' => e = .returned (.int .i64 (headB (readB t).1)) ∧ YtnlddjlbioelnaaRdr w' g t (readB t).2 ∧ w.grownBy w' (some g) := by
  have C := bytes_any g t 1 (0, false) w (by omega) ht (Nat.zero_le _) h
  change Calls Try.prog 54 _ w (fun e w' => e = .returned (.string (readB t).1) ∧ YtnlddjlbioelnaaRdr w' g t (readB t).2 ∧ w.grownBy w' (some g)) at C
  have hz : (readB t).1.size ≤ 1 := takeF_size
  generalize readB t = r at *
  obtain ⟨x, q⟩ := r
  simp only at C hz ⊢
  have C := Lib.hid C
  clear h
  by_cases hx : 0 < x.size
  · have e1 : x.toList.isEmpty = false := by
      rw [List.isEmpty_eq_false_iff]
      intro h2
      rw [ByteArray.toList_eq] at h2
      have : x.data.toList.length = x.size := by simp
      rw [h2] at this
      simp at this
      omega
    have e255 : (x[0].toNat : Int) ≤ 255 := by have := x[0].toNat_lt; omega
    have e0 : (0 : Int) ≤ (x[0].toNat : Int) := by omega
    have HH : Hid (headB x = (x[0].toNat : Int)) := Lib.hid (by unfold headB; rw [dif_pos hx])
    go_enter Try.func51, Try.ntmps51
    go_wp2_with fail
    refine C.out.mono ?_
    rintro e w1 ⟨rfl, hk, hg⟩
    have HK := Lib.hid hk
    have HG := Lib.hid hg
    clear hk hg
    go_wp2_with fail
    go_ret
    exact ⟨by rw [HH.out]; rfl, HK.out, HG.out⟩
  · have e1 : x.toList = [] := by
      rw [ByteArray.toList_eq]
      exact List.eq_nil_of_length_eq_zero (by have : x.data.toList.length = x.size := by simp
                                              omega)
    have HH : Hid (headB x = 0) := Lib.hid (by unfold headB; rw [dif_neg hx])
    clear hx
    go_enter Try.func51, Try.ntmps51
    go_wp2_with fail
    refine C.out.mono ?_
    rintro e w1 ⟨rfl, hk, hg⟩
    have HK := Lib.hid hk
    have HG := Lib.hid hg
    clear hk hg
    go_wp2_with fail
    go_ret
    exact ⟨by rw [HH.out]; rfl, HK.out, HG.out⟩

set_option maxHeartbeats 1000000 in
theorem hashes_any (g k : Nat) (t : ByteArray) (q : Nat × Bool) (w : World) (hk : k ≤ 8) (ht : t.size ≤ 1048576) (hq : q.1 ≤ t.size) (h : YtnlddjlbioelnaaRdr w g t q) :
    Calls Try.prog 52 #[.pointer (some ⟨g, 0, none⟩), .int .i64 k, .int .i64 16] w fun e w' =>
      (∃ v, e = .returned v ∧ OwnS w' w.heap.size v (hashesF t 16 q k).1) ∧ YtnlddjlbioelnaaRdr w' g t (hashesF t 16 q k).2 ∧ w.grownBy w' (some g) := by
  have hgl := Blk.lt h
  have HQ := Lib.hid hq
  go_enter Try.func52, Try.ntmps52
  go_wp2_with fail
  go_loopw [7, 9] (fun v i wr => ∃ j : Nat, j ≤ k ∧ i = .int .i64 j ∧ OwnS wr w.heap.size v (hashesF t 16 q j).1 ∧ YtnlddjlbioelnaaRdr wr g t (hashesF t 16 q j).2 ∧ w.grownBy wr (some g)) (fun _ i _ => k - (intOf i).toNat)
  case atStart => exact ⟨0, Nat.zero_le _, rfl, OwnS.nil _ _, h, World.grownBy.refl _ _⟩
  case round =>
    clear h
    obtain ⟨j, hj, rfl, hown, hrd, hg⟩ := hrel
    by_cases hlt : j < k
    · have C := Lib.hid (bytes_any g t 16 (hashesF t 16 q j).2 wr (by omega) ht (hashesF_le HQ.out j) hrd)
      have hl := hashesF_len t 16 q j
      have hl' : (hashesF t 16 q j).1.length ≤ 8 := by omega
      have HN : Hid (hashesF t 16 q (j + 1) = ((hashesF t 16 q j).1 ++ [(takeF t 16 (hashesF t 16 q j).2).1], (takeF t 16 (hashesF t 16 q j).2).2)) := Lib.hid rfl
      have Ho := Lib.hid hown
      have Hg := Lib.hid hg
      clear hown hrd hg hl hq
      generalize (hashesF t 16 q j).1 = l0 at *
      generalize takeF t 16 (hashesF t 16 q j).2 = r0 at *
      obtain ⟨x, q1⟩ := r0
      simp only at C HN
      go_wp2_with fail
      refine C.out.mono ?_
      rintro e w1 ⟨rfl, hk1, hg1⟩
      have own1 : OwnS w1 w.heap.size _ l0 := Own.kept_only Ho.out hg1 hgl
      have HK1 := Lib.hid hk1
      have HG1 := Lib.hid (grownBy_trans Hg.out hg1)
      have hs1 : w.heap.size ≤ w1.heap.size := HG1.out.size
      clear hk1 hg1
      go_wp2_with (at_builtin; refine wpList_push_strs _ _ rfl _ _ 39 rfl 9 Try.underlying39 Try.infoStr _ _ l0 rfl own1 _ [x] rfl 1 1 rfl _ rfl rfl (by omega) hs1 rfl ?_; intro v2 w2 own2 hg2 hb2)
      refine ⟨⟨j + 1, by omega, by go_num, by rw [HN.out]; exact own2, ?_, ?_⟩, by simp [intOf]; omega⟩
      · rw [HN.out]
        exact Blk.kept HK1.out hg2 (fun e => by have := (Own.block own1 _ e.symm).1; omega)
      · exact grownBy_only HG1.out hg2 (fun k e => (Own.block own1 _ e).1)
    · obtain rfl : j = k := by omega
      have Ho := Lib.hid hown
      have Hr := Lib.hid hrd
      have Hg := Lib.hid hg
      clear hown hrd hg
      go_wp2_with fail
      go_ret
      exact ⟨⟨_, rfl, Ho.out⟩, Hr.out, Hg.out⟩

theorem done_any (g : Nat) (t : ByteArray) (q : Nat × Bool) (w : World) (hq : q.1 ≤ t.size) (h : YtnlddjlbioelnaaRdr w g t q) :
    Calls Try.prog 44 #[.pointer (some ⟨g, 0, none⟩)] w fun e w' => e = .returned (.bool (decide (q.2 = false ∧ q.1 = t.size))) ∧ Below w.heap.size w w' := by
  obtain ⟨at', bad⟩ := q
  unfold YtnlddjlbioelnaaRdr at h
  simp only at h hq
  have c0 := h.cell 0
  have c1 := h.cell 1
  have c2 := h.cell 2
  simp only [List.getElem?_cons_zero, List.getElem?_cons_succ] at c0 c1 c2
  clear h
  cases bad
  · by_cases hs : at' = t.size
    · have HE : Hid (decide ((false = false) ∧ at' = t.size) = true) := Lib.hid (by simp [hs])
      have e1 : ((at' : Int) == t.size) = true := by rw [beq_iff_eq]; omega
      clear hs
      go_enter Try.func44, Try.ntmps44
      go_wp2_with fail
      go_quiet (fail)
      go_wp2_with fail
      go_ret
      exact ⟨by simp only; rw [HE.out]; rfl, ⟨rfl, rfl, rfl, Nat.le_refl _, fun _ _ => rfl⟩⟩
    · have HE : Hid (decide ((false = false) ∧ at' = t.size) = false) := Lib.hid (by simp [hs])
      have e1 : ((at' : Int) == t.size) = false := by rw [beq_eq_false_iff_ne]; omega
      clear hs
      go_enter Try.func44, Try.ntmps44
      go_wp2_with fail
      go_quiet (fail)
      go_wp2_with fail
      go_ret
      exact ⟨by simp only; rw [HE.out]; rfl, ⟨rfl, rfl, rfl, Nat.le_refl _, fun _ _ => rfl⟩⟩
  · have HE : Hid (decide ((true = false) ∧ at' = t.size) = false) := Lib.hid (by simp)
    go_enter Try.func44, Try.ntmps44
    go_wp2_with fail
    go_quiet (fail)
    go_wp2_with fail
    go_ret
    exact ⟨by simp only; rw [HE.out]; rfl, ⟨rfl, rfl, rfl, Nat.le_refl _, fun _ _ => rfl⟩⟩

end Go.Proofs.Ytnlddjlbioelnaa
