/-
  For every draw of at most 2^20 bytes (a longer one is passed by) encodings are as the reference's, and different parts have different ones: 'FnTags' returns true. No conditions.
-/
import Derived.Test.YtcehbmlibfalaaaDoorFrameT
import Derived.Test.YtcehbmlibfalaaaDoorFrameB
import Derived.Test.YtcehbmlibfalaaaDoorSha5
import Derived.Test.YtcehbmlibfalaaaDoorTagD
import Derived.Test.YtcehbmlibfalaaaDoorPuTagsI
namespace Go.Proofs.YtcehbmlibfalaaaDoor.fnTags
open Go.ChangeShapes Go.WideShapes Go.ChangeAt Go.RowKit
open Go.ChangeMaps (open_string shut_string)
set_option linter.unusedVariables false

theorem rdS_three (w : World) (s t u : ByteArray) (e : TypeId) : RdS (w.alloc (.cells #[.string s, .string t, .string u] e)) (some ⟨w.heap.size, 0, none⟩) [s, t, u] := by
  intro j x hx
  refine ⟨_, _, rfl, ?_⟩
  have e1 : (w.alloc (.cells #[.string s, .string t, .string u] e)).cell? ⟨w.heap.size, 0 + j, none⟩ = _ := World.cell?_alloc_new w _ _ (0 + j)
  rw [e1, Nat.zero_add]
  match j with
  | 0 => simp at hx; subst hx; rfl
  | 1 => simp at hx; subst hx; rfl
  | 2 => simp at hx; subst hx; rfl
  | j + 3 => simp at hx
theorem small3 {a : ByteArray} (h : a.size ≤ 200) : ∀ x ∈ [a, oneB], x.size ≤ 1048576 := by
  intro x hx
  simp only [List.mem_cons, List.not_mem_nil, or_false] at hx
  rcases hx with rfl | rfl
  · omega
  · decide
theorem bDrew0 (w : World) : Below w.heap.size w w.drew := bDrewN (Below.refl _ _) 1
theorem bAlloc0 {w W : World} (h : Below w.heap.size w W) (o : Obj) : Below w.heap.size w (W.alloc o) := h.alloc h.size o
theorem bTrans0 {w W W' : World} (h : Below w.heap.size w W) (h2 : Below W.heap.size W W') : Below w.heap.size w W' := h.trans (h2.mono h.size)
theorem small1 {a : ByteArray} (h : a.size ≤ 200) : ∀ x ∈ [a], x.size ≤ 1048576 := by
  intro x hx
  simp only [List.mem_cons, List.not_mem_nil, or_false] at hx
  subst hx; omega
theorem small4 {a : ByteArray} {k : Nat} (h : a.size ≤ 100) (hk : k ≤ a.size) : ∀ x ∈ [a.extract 0 k, a.extract k a.size ++ oneB], x.size ≤ 1048576 := by
  have h1 : oneB.size = 1 := rfl
  intro x hx
  simp only [List.mem_cons, List.not_mem_nil, or_false] at hx
  rcases hx with rfl | rfl
  · rw [ByteArray.size_extract]; omega
  · rw [ByteArray.size_append, ByteArray.size_extract]; omega
theorem small5 {a : ByteArray} (h : a.size ≤ 200) : ∀ x ∈ [a, oneB, ⟨#[]⟩], x.size ≤ 1048576 := by
  intro x hx
  simp only [List.mem_cons, List.not_mem_nil, or_false] at hx
  rcases hx with rfl | rfl | rfl
  · omega
  · decide
  · decide

set_option maxHeartbeats 4000000 in
set_option maxRecDepth 100000 in
theorem walk (a0 : Option Addr) (len0 cap0 : Nat) (z0 : List Int) (w : World) (w0 : IsRow .u8 w a0 len0 cap0 z0) (hL : laidMetH Tryd.prog Rows.fnTagsRow.laid w) :
    Calls Tryd.prog 6 #[.slice a0 len0 cap0] w fun e w' => e = .returned (.bool true) ∧ Below w.heap.size w w' := by
  have HT := Lib.hid (tabsMet hL)
  obtain ⟨hmax, hB⟩ := bytes_of_row w0
  unfold maxLen at hmax
  clear hL w0
  by_cases hs : len0 ≤ 1048576
  · have C := Lib.hid (drawTagText_any a0 cap0 len0 w hs hB)
    have D := Lib.hid (fun wx (hb : Below w.heap.size w wx) => drawPlaces_any a0 cap0 len0 wx hs (hB.below hb (Nat.le_refl _)))
    have F := Lib.hid (fun wx (hb : Below w.heap.size w wx) => drawTextOf_any a0 cap0 len0 wx hs (hB.below hb (Nat.le_refl _)))
    clear hB hmax
    go_enter Tryd.func6, Tryd.ntmps6
    go_wp2_with (go_at_call 22; refine (big_no _ _ _ _ hs).mono ?_; rintro e w' ⟨rfl, rfl⟩)
    refine C.out.mono ?_
    rintro e w1 ⟨⟨kind, v1, l, rfl, ho1, hll, hls⟩, hb1⟩
    obtain ⟨q1, k1, rfl, r1⟩ := ho1.rd
    have HB1 := Lib.hid hb1
    have A1 := Lib.hid (fun W h => iTagText_any kind q1 k1 l W (by omega) (fun x hx => by have := hls x hx; omega) h)
    have A2 := Lib.hid (fun W h => sTagText_any kind q1 k1 l W (by omega) (fun x hx => by have := hls x hx; omega) h)
    obtain ⟨tx, tb, hV⟩ : ∃ tx tb, optTxt (tagL kind l) = .tuple #[.string tx, .bool tb] := by unfold optTxt; split <;> exact ⟨_, _, rfl⟩
    rw [hV] at A1 A2
    have u1 : (tx.toList != tx.toList) = false := by simp
    have u2 : (tx.toList == tx.toList) = true := beq_self_eq_true _
    have u3 : (tb != tb) = false := by simp
    have R1 := Lib.hid r1
    clear hb1 ho1 hls C hV r1 hll
    go_wp2_with fail
    refine (A1.out _ R1.out).mono ?_
    rintro e w2 ⟨rfl, hb2⟩
    have HB2 := Lib.hid (HB1.out.trans (hb2.mono HB1.out.size))
    have R2 := Lib.hid (R1.out.below hb2 (Nat.le_refl _))
    clear hb2 HB1 R1
    go_wp2_with fail
    refine (A2.out _ R2.out).mono ?_
    rintro e w3 ⟨rfl, hb3⟩
    have HB3 := Lib.hid (HB2.out.trans (hb3.mono HB2.out.size))
    clear hb3 HB2 R2 A1 A2
    go_wp2_with fail
    refine (D.out _ HB3.out).mono ?_
    rintro e w4 ⟨⟨v4, lp, rfl, ho4, hlp, hxp⟩, hb4⟩
    obtain ⟨q4, k4, rfl, r4⟩ := ho4.rd
    have HB4 := Lib.hid (HB3.out.trans (hb4.mono HB3.out.size))
    obtain ⟨p, hp⟩ : ∃ p, lp[0]? = some p := ⟨_, List.getElem?_eq_getElem (by omega)⟩
    obtain ⟨r, hr⟩ : ∃ r, lp[1]? = some r := ⟨_, List.getElem?_eq_getElem (by omega)⟩
    obtain ⟨p0, p1⟩ := hxp p (List.mem_of_getElem? hp)
    obtain ⟨r0, r1⟩ := hxp r (List.mem_of_getElem? hr)
    obtain ⟨b, off, rfl, hc0⟩ := r4.at_ 0 p hp
    obtain ⟨b', off', e', hc1⟩ := r4.at_ 1 r hr
    cases e'
    rw [Nat.add_zero] at hc0
    have hbl := World.block_lt_of_cell? _ _ hc0
    simp only at hbl
    have hl0 : (0 : Int) < (lp.length : Int) := by omega
    have hl1 : (1 : Int) < (lp.length : Int) := by omega
    have HK : Hid (∀ W, Below w4.heap.size w4 W → W.cell? ⟨b, off, none⟩ = some (.int .i64 p) ∧ W.cell? ⟨b, off + 1, none⟩ = some (.int .i64 r)) := Lib.hid fun W hW => ⟨(hW.cell (p := ⟨b, off, none⟩) hbl).trans hc0, (hW.cell (p := ⟨b, off + 1, none⟩) hbl).trans hc1⟩
    clear hb4 ho4 r4 hp hr hxp hc0 hc1 HB3 D
    go_wp2_with fail
    refine (F.out _ HB4.out).mono ?_
    rintro e w5 ⟨⟨s, hss, rfl⟩, hb5⟩
    have hss' : s.size ≤ 200 := hss
    have K5 := Lib.hid hb5
    obtain ⟨c0, c1⟩ := HK.out _ K5.out
    clear hss hb5 F
    have hw1 : IntKind.i64.wrap ((s.size : Int) + 1) = (s.size : Int) + 1 := IntWalk.i64_in _ ⟨by omega, by omega⟩
    have m0 : 0 ≤ p % ((s.size : Int) + 1) := Int.emod_nonneg _ (by omega)
    have m1 : p % ((s.size : Int) + 1) < (s.size : Int) + 1 := Int.emod_lt_of_pos _ (by omega)
    have hne : ¬ ((s.size : Int) + 1 = 0) := by omega
    by_cases h100 : s.size ≤ 100
    · obtain ⟨kk, hk⟩ := Int.eq_ofNat_of_zero_le m0
      rw [hk] at m1
      have hkk : kk ≤ s.size := by omega
      have hka := h100
      obtain ⟨a, ha⟩ : ∃ a, a = s := ⟨_, rfl⟩
      subst ha
      obtain ⟨x, y, z, v, h1, h2, h3, h4, n1, n2, n3⟩ := tags_four (p := r) hka hkk
      have T1' := fun W => iTagText_any (1 + r % 8) (some ⟨W.heap.size, 0, none⟩) 2 [a, oneB] (W.alloc (.cells #[.string a, .string oneB] 9)) (by simp) (small3 (by omega)) (rdS_two W a oneB 9)
      have T2' := fun (W : World) => iTagText_any (1 + r % 8) (some ⟨W.heap.size, 0, none⟩) 2 [a.extract 0 kk, a.extract kk a.size ++ oneB] (W.alloc (.cells #[.string (a.extract 0 kk), .string (a.extract kk a.size ++ oneB)] 9)).drew (by simp) (small4 hka hkk) ((rdS_two W _ _ 9).below (bDrewN (Below.refl _ _) 1) (Nat.le_refl _))
      have T3' := fun W => iTagText_any (1 + (r + 1) % 8) (some ⟨W.heap.size, 0, none⟩) 2 [a, oneB] (W.alloc (.cells #[.string a, .string oneB] 9)) (by simp) (small3 (by omega)) (rdS_two W a oneB 9)
      have T4' := fun W => iTagText_any (1 + r % 8) (some ⟨W.heap.size, 0, none⟩) 3 [a, oneB, ⟨#[]⟩] (W.alloc (.cells #[.string a, .string oneB, .string ⟨#[]⟩] 9)) (by simp) (small5 (by omega)) (rdS_three W a oneB ⟨#[]⟩ 9)
      simp only [h1] at T1'
      simp only [oneB, List.length_cons, List.length_nil, Nat.zero_add, Nat.reduceAdd] at T1'
      simp only [h2] at T2'
      simp only [oneB, List.length_cons, List.length_nil, Nat.zero_add, Nat.reduceAdd] at T2'
      simp only [h3] at T3'
      simp only [oneB, List.length_cons, List.length_nil, Nat.zero_add, Nat.reduceAdd] at T3'
      simp only [h4] at T4'
      simp only [oneB, List.length_cons, List.length_nil, Nat.zero_add, Nat.reduceAdd] at T4'
      have T1 := Lib.hid T1'
      have T2 := Lib.hid T2'
      have T3 := Lib.hid T3'
      have T4 := Lib.hid T4'
      have T5 := Lib.hid (fun W hT => iTagHash_any 3 (some ⟨W.heap.size, 0, none⟩) 1 [a] 16 (W.alloc (.cells #[.string a] 9)) (by simp) (small1 (by omega)) (rdS_one W a 9) hT)
      have T6 := Lib.hid (fun W => sTagHash_any 3 (some ⟨W.heap.size, 0, none⟩) 1 [a] 16 (W.alloc (.cells #[.string a] 9)) (by simp) (small1 (by omega)) (rdS_one W a 9))
      have hth : ((txt (hashT 3 [a] 16)).toList == (txt (hashT 3 [a] 16)).toList) = true := beq_self_eq_true _
      generalize txt (hashT 3 [a] 16) = th at *
      clear T1' T2' T3' T4' h1 h2 h3 h4
      have hbx := fun (W : World) (A : Array Value) => (Below.refl W.heap.size W).alloc (Nat.le_refl _) (.cells A 9)
      have HBX := Lib.hid hbx
      clear hbx
      go_wp2_with fail
      refine (T1.out _).mono ?_
      rintro e w6 ⟨rfl, hb6⟩
      have K6 := Lib.hid (K5.out.trans (((HBX.out w5 _).trans (hb6.mono (HBX.out w5 _).size)).mono K5.out.size))
      obtain ⟨c0, c1⟩ := HK.out _ K6.out
      have hs6 := K6.out.size
      clear hb6 T1
      have hcl := fun wx => cut_to (P := Tryd.prog) Tryd.underlying9 a (kk : Int) kk rfl hkk wx
      have hcr := fun wx => cut_from (P := Tryd.prog) Tryd.underlying9 a (kk : Int) kk rfl hkk wx
      have i0 : (0 : Int) ≤ (kk : Int) := Int.natCast_nonneg _
      have i1 : (kk : Int) ≤ (a.size : Int) := by omega
      have ht8 : r.tmod 8 = r % 8 := Int.tmod_eq_emod_of_nonneg r0
      have hw8 : IntKind.i64.wrap (1 + r % 8) = 1 + r % 8 := IntWalk.i64_in _ ⟨by omega, by omega⟩
      have exs : (a.extract kk a.size).size ≤ 100 := by rw [ByteArray.size_extract]; omega
      have exn : ¬ (9223372036854775807 < (a.extract kk a.size).size + 1) := by omega
      have exn2 : ¬ (9223372036854775807 < (a.extract kk a.size).size + (⟨#[98]⟩ : ByteArray).size) := exn
      generalize a.extract 0 kk = al at *
      generalize a.extract kk a.size = ar at *
      go_wp2_with fail
      go_region_held3 (fun W => W.cell? ⟨b, off + 1, none⟩ = some (.int .i64 r))
        (first | exact (HK.out _ (K6.out.trans (bDrew0 w6 |>.mono hs6))).2 | exact (HK.out _ (K6.out.trans ((bDrewN (bAlloc0 (Below.refl w6.heap.size w6) _) 1).mono hs6))).2 | exact (HK.out _ K7.out).2 | go_keep)
        (first
          | (go_at_call 24; (with_reducible refine (T2.out w6).mono ?_); rintro e w7 ⟨rfl, hb7⟩; have K7 := Lib.hid (K6.out.trans ((bTrans0 (bDrewN (bAlloc0 (Below.refl w6.heap.size w6) _) 1) hb7).mono hs6))))
      obtain ⟨-, c1⟩ := HK.out _ K7.out
      have hs7 := K7.out.size
      have hw9 : IntKind.i64.wrap (r + 1) = r + 1 := IntWalk.i64_in _ ⟨by omega, by omega⟩
      clear hb7 T2
      go_wp2_with fail
      refine (T3.out _).mono ?_
      rintro e w8 ⟨rfl, hb8⟩
      have K8 := Lib.hid (K7.out.trans (((HBX.out w7 _).trans (hb8.mono (HBX.out w7 _).size)).mono hs7))
      obtain ⟨-, c1⟩ := HK.out _ K8.out
      have hs8 := K8.out.size
      clear hb8 T3
      go_wp2_with fail
      refine (T4.out _).mono ?_
      rintro e w9 ⟨rfl, hb9⟩
      have K9 := Lib.hid (K8.out.trans (((HBX.out w8 _).trans (hb9.mono (HBX.out w8 _).size)).mono hs8))
      have hs9 := K9.out.size
      have HF9 := Lib.hid (HB4.out.trans (K9.out.mono HB4.out.size))
      have hor : (x.toList == y.toList) = false ∨ ((x.toList == y.toList) = true ∧ kk = a.size) := by
        by_cases hh : kk = a.size
        · cases hv : (x.toList == y.toList)
          · exact .inl rfl
          · exact .inr ⟨rfl, hh⟩
        · exact .inl (n1 hh)
      have ekk : kk = a.size → ((kk : Int) == (a.size : Int)) = true := fun h => by rw [beq_iff_eq, h]
      clear hb9 T4 K8 K7 K6 K5 n1 c0 c1 HK
      have T5' := Lib.hid (T5.out w9 (HT.out.below (HF9.out.trans ((HBX.out w9 #[.string a]).mono HF9.out.size)) (Nat.le_refl _)))
      rcases hor with hxy | ⟨hxy, hka2⟩
      · go_wp2_with fail
        refine T5'.out.mono ?_
        rintro e w10 ⟨rfl, hb10⟩
        have HFa := Lib.hid (HF9.out.trans (((HBX.out w9 _).trans (hb10.mono (HBX.out w9 _).size)).mono HF9.out.size))
        clear hb10
        go_wp2_with fail
        refine (T6.out _).mono ?_
        rintro e w11 ⟨rfl, hb11⟩
        have HFb := Lib.hid (HFa.out.trans (((HBX.out w10 _).trans (hb11.mono (HBX.out w10 _).size)).mono HFa.out.size))
        clear hb11
        go_wp2_with fail
        go_ret
        exact ⟨rfl, HFb.out⟩
      · have ek := ekk hka2
        clear ekk hka2
        go_wp2_with fail
        refine T5'.out.mono ?_
        rintro e w10 ⟨rfl, hb10⟩
        have HFa := Lib.hid (HF9.out.trans (((HBX.out w9 _).trans (hb10.mono (HBX.out w9 _).size)).mono HF9.out.size))
        clear hb10
        go_wp2_with fail
        refine (T6.out _).mono ?_
        rintro e w11 ⟨rfl, hb11⟩
        have HFb := Lib.hid (HFa.out.trans (((HBX.out w10 _).trans (hb11.mono (HBX.out w10 _).size)).mono HFa.out.size))
        clear hb11
        go_wp2_with fail
        go_ret
        exact ⟨rfl, HFb.out⟩
    · have hcut := fun wx => cut_to (P := Tryd.prog) Tryd.underlying9 s 100 100 rfl (by omega) wx
      have hka0 : (s.extract 0 100).size = 100 := by rw [ByteArray.size_extract]; omega
      have g0 : 0 ≤ (p % ((s.size : Int) + 1)) % 101 := Int.emod_nonneg _ (by omega)
      have g1 : (p % ((s.size : Int) + 1)) % 101 < 101 := Int.emod_lt_of_pos _ (by omega)
      obtain ⟨kk, hk⟩ := Int.eq_ofNat_of_zero_le g0
      rw [hk] at g1
      generalize s.extract 0 100 = a at *
      have hkk : kk ≤ a.size := by omega
      have hka : a.size ≤ 100 := by omega
      clear hka0
      obtain ⟨x, y, z, v, h1, h2, h3, h4, n1, n2, n3⟩ := tags_four (p := r) hka hkk
      have T1' := fun W => iTagText_any (1 + r % 8) (some ⟨W.heap.size, 0, none⟩) 2 [a, oneB] (W.alloc (.cells #[.string a, .string oneB] 9)) (by simp) (small3 (by omega)) (rdS_two W a oneB 9)
      have T2' := fun (W : World) => iTagText_any (1 + r % 8) (some ⟨W.heap.size, 0, none⟩) 2 [a.extract 0 kk, a.extract kk a.size ++ oneB] (W.alloc (.cells #[.string (a.extract 0 kk), .string (a.extract kk a.size ++ oneB)] 9)).drew (by simp) (small4 hka hkk) ((rdS_two W _ _ 9).below (bDrewN (Below.refl _ _) 1) (Nat.le_refl _))
      have T3' := fun W => iTagText_any (1 + (r + 1) % 8) (some ⟨W.heap.size, 0, none⟩) 2 [a, oneB] (W.alloc (.cells #[.string a, .string oneB] 9)) (by simp) (small3 (by omega)) (rdS_two W a oneB 9)
      have T4' := fun W => iTagText_any (1 + r % 8) (some ⟨W.heap.size, 0, none⟩) 3 [a, oneB, ⟨#[]⟩] (W.alloc (.cells #[.string a, .string oneB, .string ⟨#[]⟩] 9)) (by simp) (small5 (by omega)) (rdS_three W a oneB ⟨#[]⟩ 9)
      simp only [h1] at T1'
      simp only [oneB, List.length_cons, List.length_nil, Nat.zero_add, Nat.reduceAdd] at T1'
      simp only [h2] at T2'
      simp only [oneB, List.length_cons, List.length_nil, Nat.zero_add, Nat.reduceAdd] at T2'
      simp only [h3] at T3'
      simp only [oneB, List.length_cons, List.length_nil, Nat.zero_add, Nat.reduceAdd] at T3'
      simp only [h4] at T4'
      simp only [oneB, List.length_cons, List.length_nil, Nat.zero_add, Nat.reduceAdd] at T4'
      have T1 := Lib.hid T1'
      have T2 := Lib.hid T2'
      have T3 := Lib.hid T3'
      have T4 := Lib.hid T4'
      have T5 := Lib.hid (fun W hT => iTagHash_any 3 (some ⟨W.heap.size, 0, none⟩) 1 [a] 16 (W.alloc (.cells #[.string a] 9)) (by simp) (small1 (by omega)) (rdS_one W a 9) hT)
      have T6 := Lib.hid (fun W => sTagHash_any 3 (some ⟨W.heap.size, 0, none⟩) 1 [a] 16 (W.alloc (.cells #[.string a] 9)) (by simp) (small1 (by omega)) (rdS_one W a 9))
      have hth : ((txt (hashT 3 [a] 16)).toList == (txt (hashT 3 [a] 16)).toList) = true := beq_self_eq_true _
      generalize txt (hashT 3 [a] 16) = th at *
      clear T1' T2' T3' T4' h1 h2 h3 h4
      have hbx := fun (W : World) (A : Array Value) => (Below.refl W.heap.size W).alloc (Nat.le_refl _) (.cells A 9)
      have HBX := Lib.hid hbx
      clear hbx
      go_wp2_with fail
      refine (T1.out _).mono ?_
      rintro e w6 ⟨rfl, hb6⟩
      have K6 := Lib.hid (K5.out.trans (((HBX.out w5 _).trans (hb6.mono (HBX.out w5 _).size)).mono K5.out.size))
      obtain ⟨c0, c1⟩ := HK.out _ K6.out
      have hs6 := K6.out.size
      clear hb6 T1
      have hcl := fun wx => cut_to (P := Tryd.prog) Tryd.underlying9 a (kk : Int) kk rfl hkk wx
      have hcr := fun wx => cut_from (P := Tryd.prog) Tryd.underlying9 a (kk : Int) kk rfl hkk wx
      have i0 : (0 : Int) ≤ (kk : Int) := Int.natCast_nonneg _
      have i1 : (kk : Int) ≤ (a.size : Int) := by omega
      have ht8 : r.tmod 8 = r % 8 := Int.tmod_eq_emod_of_nonneg r0
      have hw8 : IntKind.i64.wrap (1 + r % 8) = 1 + r % 8 := IntWalk.i64_in _ ⟨by omega, by omega⟩
      have exs : (a.extract kk a.size).size ≤ 100 := by rw [ByteArray.size_extract]; omega
      have exn : ¬ (9223372036854775807 < (a.extract kk a.size).size + 1) := by omega
      have exn2 : ¬ (9223372036854775807 < (a.extract kk a.size).size + (⟨#[98]⟩ : ByteArray).size) := exn
      generalize a.extract 0 kk = al at *
      generalize a.extract kk a.size = ar at *
      go_wp2_with fail
      go_region_held3 (fun W => W.cell? ⟨b, off + 1, none⟩ = some (.int .i64 r))
        (first | exact (HK.out _ (K6.out.trans (bDrew0 w6 |>.mono hs6))).2 | exact (HK.out _ (K6.out.trans ((bDrewN (bAlloc0 (Below.refl w6.heap.size w6) _) 1).mono hs6))).2 | exact (HK.out _ K7.out).2 | go_keep)
        (first
          | (go_at_call 24; (with_reducible refine (T2.out w6).mono ?_); rintro e w7 ⟨rfl, hb7⟩; have K7 := Lib.hid (K6.out.trans ((bTrans0 (bDrewN (bAlloc0 (Below.refl w6.heap.size w6) _) 1) hb7).mono hs6))))
      obtain ⟨-, c1⟩ := HK.out _ K7.out
      have hs7 := K7.out.size
      have hw9 : IntKind.i64.wrap (r + 1) = r + 1 := IntWalk.i64_in _ ⟨by omega, by omega⟩
      clear hb7 T2
      go_wp2_with fail
      refine (T3.out _).mono ?_
      rintro e w8 ⟨rfl, hb8⟩
      have K8 := Lib.hid (K7.out.trans (((HBX.out w7 _).trans (hb8.mono (HBX.out w7 _).size)).mono hs7))
      obtain ⟨-, c1⟩ := HK.out _ K8.out
      have hs8 := K8.out.size
      clear hb8 T3
      go_wp2_with fail
      refine (T4.out _).mono ?_
      rintro e w9 ⟨rfl, hb9⟩
      have K9 := Lib.hid (K8.out.trans (((HBX.out w8 _).trans (hb9.mono (HBX.out w8 _).size)).mono hs8))
      have hs9 := K9.out.size
      have HF9 := Lib.hid (HB4.out.trans (K9.out.mono HB4.out.size))
      have hor : (x.toList == y.toList) = false ∨ ((x.toList == y.toList) = true ∧ kk = a.size) := by
        by_cases hh : kk = a.size
        · cases hv : (x.toList == y.toList)
          · exact .inl rfl
          · exact .inr ⟨rfl, hh⟩
        · exact .inl (n1 hh)
      have ekk : kk = a.size → ((kk : Int) == (a.size : Int)) = true := fun h => by rw [beq_iff_eq, h]
      clear hb9 T4 K8 K7 K6 K5 n1 c0 c1 HK
      have T5' := Lib.hid (T5.out w9 (HT.out.below (HF9.out.trans ((HBX.out w9 #[.string a]).mono HF9.out.size)) (Nat.le_refl _)))
      rcases hor with hxy | ⟨hxy, hka2⟩
      · go_wp2_with fail
        refine T5'.out.mono ?_
        rintro e w10 ⟨rfl, hb10⟩
        have HFa := Lib.hid (HF9.out.trans (((HBX.out w9 _).trans (hb10.mono (HBX.out w9 _).size)).mono HF9.out.size))
        clear hb10
        go_wp2_with fail
        refine (T6.out _).mono ?_
        rintro e w11 ⟨rfl, hb11⟩
        have HFb := Lib.hid (HFa.out.trans (((HBX.out w10 _).trans (hb11.mono (HBX.out w10 _).size)).mono HFa.out.size))
        clear hb11
        go_wp2_with fail
        go_ret
        exact ⟨rfl, HFb.out⟩
      · have ek := ekk hka2
        clear ekk hka2
        go_wp2_with fail
        refine T5'.out.mono ?_
        rintro e w10 ⟨rfl, hb10⟩
        have HFa := Lib.hid (HF9.out.trans (((HBX.out w9 _).trans (hb10.mono (HBX.out w9 _).size)).mono HF9.out.size))
        clear hb10
        go_wp2_with fail
        refine (T6.out _).mono ?_
        rintro e w11 ⟨rfl, hb11⟩
        have HFb := Lib.hid (HFa.out.trans (((HBX.out w10 _).trans (hb11.mono (HBX.out w10 _).size)).mono HFa.out.size))
        clear hb11
        go_wp2_with fail
        go_ret
        exact ⟨rfl, HFb.out⟩
  · clear hB
    go_enter Tryd.func6, Tryd.ntmps6
    go_wp2_with (go_at_call 22; refine (big_yes _ _ _ _ (by omega) (by omega)).mono ?_; rintro e w' ⟨rfl, rfl⟩)
    go_ret
    exact ⟨rfl, Below.refl _ _⟩

theorem own : ownKnob Tryd.prog.godebug = none := by kernel_rfl
theorem laidOut : laidOutB Tryd.prog = true := by kernel_rfl
theorem fine : fineVars Tryd.prog Rows.fnTagsSpec.vars = true := by kernel_rfl

theorem contract (H : Type) (enc : TypeId × Value → H) (W : World) (base : Nat) (args : Array Value) (ds gs : List (DataW H)) (before : List MemPlace)
    (hval0 : ∀ (j : Nat) t v, Tryd.f6.params[j]? = some t → args[j]? = some v → Value.okWide Tryd.prog W .any base t v)
    (hW : DataW.Whole enc Tryd.prog Tryd.f6.params.toList Rows.fnTagsSpec.vars false W args.toList ds gs before) (hL : laidMetH Tryd.prog Rows.fnTagsRow.laid W) :
    Calls Tryd.prog 6 args W fun e W' => ∃ v, e = .returned v ∧ Rows.fnTagsSpec.post enc Tryd.prog Tryd.f6 false true false false W args v W' := by
  have hval : ∀ (j : Nat) t v, Tryd.f6.params[j]? = some t → args[j]? = some v → Value.okWide Tryd.prog W .any base t v := hval0
  have hW' := hW
  obtain ⟨p, q, hA0, hV, rfl, hfz, hnd⟩ := hW
  have hA : DataW.TrodAll enc Tryd.prog W 0 (fun _ => true) true Tryd.f6.params.toList args.toList ds p := hA0
  rw [Tryd.params6] at hA hval
  obtain ⟨v0, vs0, d0, ds0, p0, q0, hargs, rfl, rfl, h0, r0⟩ := trodAll_cons hA
  obtain ⟨rfl, rfl, rfl⟩ := trodAll_nil r0
  obtain rfl : args = #[v0] := by cases args; simp_all
  have hVlt : ∀ x ∈ q, x.block < W.heap.size := hV.lt
  have hV1 := hV
  obtain ⟨g0, gr0, gq0, rfl, hV2⟩ := trodVars_cons hV1
  obtain ⟨g1, gr1, gq1, rfl, hV3⟩ := trodVars_cons hV2
  obtain ⟨rfl, -⟩ := trodVars_none hV3
  have k0 := h0
  have lt0 : ∀ x ∈ p0, x.block < W.heap.size := by obtain ⟨m, hm⟩ := k0; exact DataW.trod_lt m _ _ _ hm
  obtain ⟨a0, len0, cap0, rfl⟩ := okWide_slice Tryd.underlying32 (hval 0 32 v0 rfl rfl)
  obtain ⟨z0, w0⟩ := isRow_of Tryd.underlying32 Tryd.underlying5 (by kernel_rfl) h0
  clear hA0 hval0
  refine (walk a0 len0 cap0 z0 W w0 hL).mono fun e W' ⟨he, bel⟩ => ?_
  subst he
  exact ⟨_, rfl, _, _, _, [], _, q, hW', trodAll_mk1 (shut_bool Tryd.underlying4 _), (trodAll_cons_mk (Below.trod laidOut (by kernel_rfl) (of_decide_eq_true (by kernel_rfl)) k0 bel lt0) trodAll_mk0), trodVars_stays laidOut bel fine hV hVlt, bel.frame _, fun h => by cases h⟩

noncomputable def laidWorld (os : Os) : World :=
  { World.holding Tryd.prog os ⟨#[], #[], []⟩ with heap := (((World.holding Tryd.prog os ⟨#[], #[], []⟩).heap.modify 1 fun
      | .cells _ t frozen => .cells #[.int .u32 1116352408, .int .u32 1899447441, .int .u32 3049323471, .int .u32 3921009573, .int .u32 961987163, .int .u32 1508970993, .int .u32 2453635748, .int .u32 2870763221, .int .u32 3624381080, .int .u32 310598401, .int .u32 607225278, .int .u32 1426881987, .int .u32 1925078388, .int .u32 2162078206, .int .u32 2614888103, .int .u32 3248222580, .int .u32 3835390401, .int .u32 4022224774, .int .u32 264347078, .int .u32 604807628, .int .u32 770255983, .int .u32 1249150122, .int .u32 1555081692, .int .u32 1996064986, .int .u32 2554220882, .int .u32 2821834349, .int .u32 2952996808, .int .u32 3210313671, .int .u32 3336571891, .int .u32 3584528711, .int .u32 113926993, .int .u32 338241895, .int .u32 666307205, .int .u32 773529912, .int .u32 1294757372, .int .u32 1396182291, .int .u32 1695183700, .int .u32 1986661051, .int .u32 2177026350, .int .u32 2456956037, .int .u32 2730485921, .int .u32 2820302411, .int .u32 3259730800, .int .u32 3345764771, .int .u32 3516065817, .int .u32 3600352804, .int .u32 4094571909, .int .u32 275423344, .int .u32 430227734, .int .u32 506948616, .int .u32 659060556, .int .u32 883997877, .int .u32 958139571, .int .u32 1322822218, .int .u32 1537002063, .int .u32 1747873779, .int .u32 1955562222, .int .u32 2024104815, .int .u32 2227730452, .int .u32 2361852424, .int .u32 2428436474, .int .u32 2756734187, .int .u32 3204031479, .int .u32 3329325298] t frozen
      | o => o).modify 0 fun
      | .cells _ t frozen => .cells #[.int .u32 1779033703, .int .u32 3144134277, .int .u32 1013904242, .int .u32 2773480762, .int .u32 1359893119, .int .u32 2600822924, .int .u32 528734635, .int .u32 1541459225] t frozen
      | o => o) }
theorem laid_met (os : Os) : laidMet Tryd.prog Rows.fnTagsRow.laid ((laidWorld os).forCall (fun _ _ => 0) ⟨#[], #[.slice none 0 0], []⟩).memory :=
  laidMet_of_run' 8 (by kernel_rfl) (by kernel_rfl)
set_option maxRecDepth 100000 in
theorem reads (os : Os) {H : Type} (enc : TypeId × Value → H) : ∃ places, DataW.whole enc Tryd.prog ((laidWorld os).forCall (fun _ _ => 0) ⟨#[], #[.slice none 0 0], []⟩).memory Tryd.f6.params.toList Rows.fnTagsSpec.vars false (#[.slice none 0 0] : Array Value).toList 8 = some ([.nil], [Rows.laid_loop_example_g00284_impl_startWords, Rows.laid_loop_example_g00284_impl_roundWords], places) :=
  ⟨MemPlace.row ⟨0, 0, none⟩ 8 ++ MemPlace.row ⟨1, 0, none⟩ 64, by kernel_rfl⟩

set_option maxRecDepth 100000 in
theorem lifted (os : Os) (started : os.Started) (H : Type) (enc : TypeId × Value → H) (F : Stop.Interp) :
    ReturnsInHanded {} Tryd.checked os 6 .any ((OpenSpec.ofChange Rows.fnTagsSpec).preRow enc Tryd.prog Tryd.f6 Rows.fnTagsRow.domain false Rows.fnTagsRow.laid) (((OpenSpec.ofChange Rows.fnTagsSpec).at F).post enc Tryd.prog Tryd.f6 false true false false) := by
  obtain ⟨places, hx⟩ := reads os enc
  refine returnsInHanded_of_row (C := Tryd.checked) (s := OpenSpec.ofChange Rows.fnTagsSpec) own started (by kernel_rfl) Tryd.func6
    (witness_row_at (enc := enc) (C := Tryd.checked) false (laidWorld os) #[.slice none 0 0] rfl (by kernel_rfl) (by kernel_rfl) (by kernel_rfl)
      (OpenSpec.preRow_of_cond 8 hx (by kernel_rfl) (fun k hk => by cases hk) (by kernel_rfl) (laid_met os))) ?_
  intro W base args ds gs before hval hW _ _ _ hL _ _
  exact contract H enc W base args ds gs before hval hW hL

theorem said : Rows.FnTagsSaid :=
  OpenClaim.holds_of_cond 6 Tryd.f6 rfl rfl rfl rfl rfl rfl rfl ⟨rfl, rfl, rfl, rfl, rfl⟩ rfl rfl rfl rfl rfl (by kernel_rfl) Tryd.func6 (by kernel_rfl)
    (of_decide_eq_true (by kernel_rfl)) (by unfold Func.isWrapper; first | (rw [if_pos (by decide +kernel)]; kernel_rfl) | (rw [if_neg (by decide +kernel)]; exact ⟨rfl, rfl⟩))
    (fun os started H enc _ F => by rw [OpenClaim.pre_eq_preRow]; exact lifted os started H enc F)

theorem plain (f : FuncId) (fn : Func) (hf : Tryd.pinned.checked.prog.funcNamed "loop.example/g00284/laws.FnTags" = some f) (hfn : Tryd.pinned.checked.prog.funcs[f]? = some fn) :
    false = Tryd.pinned.checked.prog.looks [] ∧ ∀ (j : Nat) t, fn.params[j]? = some t → Tryd.pinned.checked.prog.wantsStandIn t = false := by
  obtain rfl : f = 6 := Option.some.inj ((show Tryd.prog.funcNamed "loop.example/g00284/laws.FnTags" = some 6 by kernel_rfl).symm.trans hf) |>.symm
  obtain rfl : fn = Tryd.f6 := (Option.some.inj (Tryd.func6.symm.trans hfn)).symm
  refine ⟨by kernel_rfl, fun j t ht => ?_⟩
  rw [Tryd.params6] at ht
  obtain rfl : t = 32 := by simpa using Array.mem_of_getElem? ht
  all_goals first | exact (show Tryd.prog.wantsStandIn 32 = false by kernel_rfl)

/-- The statement: the card. -/
theorem proved : Rows.FnTagsCardSaid :=
  Claim7.holds_tied_plain_at .later [] _ _ _ _ said (fun _ h => by cases h) (by kernel_rfl) (fun _ h => by cases h) fnTags_row_tie rfl ⟨rfl, rfl⟩ (by kernel_rfl) rfl plain (by kernel_rfl)
#print axioms proved

end Go.Proofs.YtcehbmlibfalaaaDoor.fnTags
