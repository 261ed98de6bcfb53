/-
  The walk of the reference's strings that a signature hashes.
-/
import Derived.Test.YtcehbmlibfalaaaDoorJSig7
import Derived.Test.YtcehbmlibfalaaaDoorJInts2
import Derived.Test.YtcehbmlibfalaaaDoorJSig3
namespace Go.Proofs.YtcehbmlibfalaaaDoor
open Go.RowKit

theorem climbT_size {q : Nat} {d : List ByteArray} {t0 : ByteArray} (h : t0.size ≤ 12181) (n : Nat) : (climbT q d t0 n).size ≤ 12181 := by
  cases n with
  | zero => exact h
  | succ n => unfold climbT nodeT; split <;> exact tagT_size _ _

theorem last_ix (n j u : Nat) (h : n = 9 + j) (hu : u = 8 + j) (hj : j ≤ 4) : 0 ≤ (u : Int) ∧ (u : Int) < (n : Int) ∧ IntKind.i64.wrap ((n : Int) - 1) = (u : Int) ∧ (n : Int) - 1 = (u : Int) ∧ wrap64 (u : Int) = (u : Int) ∧ n ≤ 13 := by
  subst h
  subst hu
  have e : ((9 + j : Nat) : Int) - 1 = ((8 + j : Nat) : Int) := by omega
  refine ⟨by omega, by omega, ?_, e, ?_, by omega⟩
  · rw [e]; exact IntWalk.i64_in _ ⟨by omega, by omega⟩
  · exact IntWalk.wrap64_in _ ⟨by omega, by omega⟩

set_option maxHeartbeats 2000000 in
set_option maxRecDepth 100000 in
theorem sSigTexts_any (t : ByteArray) (ht : t.size ≤ 1048576) (v : Value) (p : Int) (o s d : List ByteArray) (w : World) (ho : o.length ≤ 1048576) (hs : s.length ≤ 1048576) (hd : d.length ≤ 1048576) (ho' : ∀ x ∈ o, x.size ≤ 1048576) (hs' : ∀ x ∈ s, x.size ≤ 1048576) (hd' : ∀ x ∈ d, x.size ≤ 1048576) (h : RdSig w v p o s d) :
    Calls Tryd.prog 35 #[.string t, v] w fun e w' => (∃ v', e = .returned v' ∧ OwnS w' w.heap.size v' (sigTexts t p o s d)) ∧ Below w.heap.size w w' := by
  obtain ⟨a1, c1, a2, c2, a3, c3, rfl, r1, r2, r3⟩ := h
  have hz := alloc_size w (.cells #[.int .i64 p, .slice a1 o.length c1, .slice a2 s.length c2, .slice a3 d.length c3] 46)
  have hB := (Below.refl w.heap.size w).alloc (Nat.le_refl _) (.cells #[.int .i64 p, .slice a1 o.length c1, .slice a2 s.length c2, .slice a3 d.length c3] 46)
  have hB2 := hB.alloc (by omega) (.cells #[] 9)
  have CF := sForm_any _ p o s d _ ho hs hd ho' hs' hd' ⟨a1, c1, a2, c2, a3, c3, rfl, r1.below hB2 (Nat.le_refl _), r2.below hB2 (Nat.le_refl _), r3.below hB2 (Nat.le_refl _)⟩
  have hE0 := OwnS.empty (w.alloc (.cells #[.int .i64 p, .slice a1 o.length c1, .slice a2 s.length c2, .slice a3 d.length c3] 46)) (w.heap.size + 1) 9 (by omega)
  have hG0 := (Below.refl (w.heap.size + 1) (w.alloc (.cells #[.int .i64 p, .slice a1 o.length c1, .slice a2 s.length c2, .slice a3 d.length c3] 46))).alloc (by omega) (.cells #[] 9)
  have hz2 := alloc_size (w.alloc (.cells #[.int .i64 p, .slice a1 o.length c1, .slice a2 s.length c2, .slice a3 d.length c3] 46)) (.cells #[] 9)
  rw [hz] at hE0 hz2
  have HB := Lib.hid hB
  have HB2 := Lib.hid hB2
  have HZ := Lib.hid hz
  have HZ2 := Lib.hid hz2
  have E0 := Lib.hid hE0
  have G0 := Lib.hid hG0
  by_cases hf : SigForm p o s d
  · rw [decide_eq_true hf] at CF
    have DF := Lib.hid CF
    by_cases hg : t.size ≤ 200
    · rw [sigTexts_yes ⟨hf, hg⟩]
      have CB := Lib.hid (fun wx => sSignBitsOf_any t ht wx)
      have k0 : ∀ W, Below (w.heap.size + 1) (w.alloc (.cells #[.int .i64 p, .slice a1 o.length c1, .slice a2 s.length c2, .slice a3 d.length c3] 46)) W →
          W.cell? ⟨w.heap.size, 0, none⟩ = some (.int .i64 p) ∧ W.cell? ⟨w.heap.size, 1, none⟩ = some (.slice a1 o.length c1) ∧ W.cell? ⟨w.heap.size, 2, none⟩ = some (.slice a2 s.length c2) ∧ W.cell? ⟨w.heap.size, 3, none⟩ = some (.slice a3 d.length c3) := by
        intro W hW
        refine ⟨?_, ?_, ?_, ?_⟩ <;> refine (hW.cell (by simp)).trans ?_ <;> simp
      have K0 := Lib.hid k0
      have R1 := Lib.hid (r1.below hB (Nat.le_refl _))
      have R2 := Lib.hid (r2.below hB (Nat.le_refl _))
      have R3 := Lib.hid (r3.below hB (Nat.le_refl _))
      obtain ⟨hp, ⟨ol, oz⟩, ⟨sl, sz⟩, dl, dz⟩ := hf
      have OZ : Hid (∀ k, k < 8 → ∃ x, o[k]? = some x ∧ x.size = 16) := Lib.hid fun k hk => ⟨_, List.getElem?_eq_getElem (by omega), oz _ (List.getElem_mem _)⟩
      have SZ : Hid (∀ k, k < 8 → ∃ x, s[k]? = some x ∧ x.size = 16) := Lib.hid fun k hk => ⟨_, List.getElem?_eq_getElem (by omega), sz _ (List.getElem_mem _)⟩
      have DZ : Hid (∀ k, k < 4 → ∃ x, d[k]? = some x ∧ x.size = 16) := Lib.hid fun k hk => ⟨_, List.getElem?_eq_getElem (by omega), dz _ (List.getElem_mem _)⟩
      have LZ := Lib.hid (sideTo_size (b := (signB t : Nat)) (o := o) sz 8 (by omega))
      generalize hkey : keyT t o s = key
      have HK : Hid (key = tagT 6 (sideTo (signB t : Nat) o s 8)) := Lib.hid hkey.symm
      have ST0 : sigTo t p o s d 0 = leafTo o 8 ++ [key] := by rw [← hkey]; exact List.append_nil _
      have STn := fun n => sigTo_next t p o s d n
      have STl := fun n => sigTo_last t p o s d n
      have STz := fun n => sigTo_len t p o s d n
      rw [hkey] at STn STl
      generalize hst : sigTo t p o s d = st at *
      generalize signB t = bb at *
      obtain ⟨q, rfl⟩ : ∃ q : Nat, p = (q : Int) := ⟨p.toNat, by omega⟩
      rw [Int.toNat_natCast] at STn STl
      have S0 := Lib.hid ST0
      have SN := Lib.hid STn
      have SL := Lib.hid STl
      have SS := Lib.hid STz
      clear r1 r2 r3 hB hB2 hkey k0 ho' hs' hd' oz sz dz CF hz hz2 hE0 hG0 ST0 STn STl STz hst
      generalize o.length = n1 at *
      generalize s.length = n2 at *
      generalize d.length = n3 at *
      subst ol
      subst sl
      subst dl
      go_enter Tryd.func35, Tryd.ntmps35
      go_wp2_with fail
      refine DF.out.mono ?_
      rintro e w1 ⟨rfl, hb1⟩
      have own1 := Lib.hid (E0.out.below hb1 (Nat.le_refl _))
      have G1 := Lib.hid (G0.out.trans (hb1.mono (by rw [HZ2.out]; omega)))
      have Z1 := Lib.hid hb1.size
      clear hb1
      go_wp2_with fail
      refine (CB.out w1).mono ?_
      rintro e w2 ⟨rfl, hb2⟩
      have hs1 := G1.out.size
      have Z2 := Z1.out
      rw [HZ2.out] at Z2
      have own2 := own1.out.below hb2 (Nat.le_refl _)
      have G2 := Lib.hid (G1.out.trans (hb2.mono (by rw [HZ.out] at hs1; exact hs1)))
      have hs2 := hb2.size
      clear hb2 hs1
      go_wp2_with fail
      have HT : Hid (t.size ≤ 200) := Lib.hid hg
      generalize w.alloc (.cells #[.int .i64 (q : Int), .slice a1 8 c1, .slice a2 8 c2, .slice a3 4 c3] 46) = W1 at *
      generalize Value.bool (decide ((200 : Int) < (t.size : Int))) = q26 at *
      have hs3 : w.heap.size + 1 ≤ w2.heap.size := by omega
      have hE := OwnS.empty w2 (w.heap.size + 1) 9 hs3
      have hE2 := Own.alloc own2 (.cells #[] 9)
      have hAp := apart_of (u := Value.slice (some ⟨w.heap.size + 1, 0, none⟩) 0 0) (v := Value.slice (some ⟨w2.heap.size, 0, none⟩) 0 0) (C := w2.heap.size) (fun k hk => (own2.block k hk).2) (fun k hk => by cases hk; exact Nat.le_refl _)
      have hG := G2.out.alloc hs3 (.cells #[] 9)
      have HAp := Lib.hid hAp
      clear hg ht DF CB G1 G2 own1 own2 hAp hs2 Z1 Z2 HZ2 HB2 E0 G0
      go_loopw [5, 7, 8] (fun vo vl i wr => ∃ k : Nat, k ≤ 8 ∧ i = .int .i64 k ∧ OwnS wr (w.heap.size + 1) vo (leafTo o k) ∧ OwnS wr (w.heap.size + 1) vl (sideTo bb o s k) ∧ Hid (vl.ownBlock = none ∨ vl.ownBlock ≠ vo.ownBlock) ∧ Below (w.heap.size + 1) W1 wr) (fun _ _ i _ => 8 - (intOf i).toNat)
      case atStart => exact ⟨0, by omega, rfl, hE2, hE, HAp, hG⟩
      case round =>
        obtain ⟨k, hk, rfl, howo, howl, hap, hb⟩ := hrel
        have hbs := hb.size
        rw [HZ.out] at hbs
        by_cases hlt : k < 8
        · obtain ⟨x, hx, hxz⟩ := OZ.out k hlt
          obtain ⟨y, hy, hyz⟩ := SZ.out k hlt
          have hnext := sideTo_next (b := (bb : Nat)) hx hy
          have hlnext := leafTo_next hx
          have CL0 := fun wx => sLockOf_any x (by omega) wx
          rw [lockS_eq (by omega)] at CL0
          have CT0 := sTagText_any 6 (some ⟨wr.heap.size, 0, none⟩) 1 [x] (wr.alloc (.cells #[.string x] 9)) (by simp) (by intro z hz; simp at hz; subst hz; omega) (rdS_one wr x 9)
          rw [tagT_opt (by decide) (by simp) (by intro z hz; simp at hz; subst hz; omega), alloc_size] at CT0
          have CB := Lib.hid (fun wx => sBitOf_any (bb : Nat) (k : Nat) wx)
          have hpl : (sideTo bb o s k).length ≤ 16 := by rw [sideTo_len]; omega
          have hll : (leafTo o k).length ≤ 8 := by rw [leafTo_len]; omega
          obtain ⟨b1, f1, rfl, hc1⟩ := R1.out k x hx
          obtain ⟨b2, f2, rfl, hc2⟩ := R2.out k y hy
          have hkeep : Hid (∀ W, Below (w.heap.size + 1) W1 W → W.cell? ⟨w.heap.size, 1, none⟩ = some (.slice (some ⟨b1, f1, none⟩) 8 c1) ∧ W.cell? ⟨w.heap.size, 2, none⟩ = some (.slice (some ⟨b2, f2, none⟩) 8 c2) ∧ W.cell? ⟨b1, f1 + k, none⟩ = some (.string x) ∧ W.cell? ⟨b2, f2 + k, none⟩ = some (.string y)) :=
            Lib.hid fun W hW => ⟨(K0.out W hW).2.1, (K0.out W hW).2.2.1, (hW.cell (p := ⟨b1, f1 + k, none⟩) (by rw [← HZ.out]; exact World.block_lt_of_cell? _ _ hc1)).trans hc1, (hW.cell (p := ⟨b2, f2 + k, none⟩) (by rw [← HZ.out]; exact World.block_lt_of_cell? _ _ hc2)).trans hc2⟩
          have i0 : (0 : Int) ≤ (k : Int) := Int.natCast_nonneg _
          have i1 : (k : Int) < 8 := by omega
          unfold pairAt at hnext
          generalize sideTo bb o s k = pl at *
          generalize leafTo o k = ll at *
          generalize lockS x = lx at *
          generalize tagT 6 [x] = tx at *
          have CL := Lib.hid CL0
          have CT := Lib.hid CT0
          have Ho := Lib.hid howo
          have Hl := Lib.hid howl
          have Hb := Lib.hid hb
          have Hbs := Lib.hid hbs
          have HLN := Lib.hid hlnext
          obtain ⟨h1, h2, h3, h4⟩ := hkeep.out wr hb
          clear CL0 CT0 howo howl hb hc1 hc2 hx hy hxz hyz hbs hlnext
          generalize bitOf (bb : Nat) (k : Nat) = z at *
          have HN := Lib.hid hnext
          clear hnext
          go_wp2_with fail
          refine CT.out.mono ?_
          rintro e w3 ⟨rfl, hb3⟩
          have hbw3 := ((Below.refl wr.heap.size wr).alloc (Nat.le_refl _) (.cells #[.string x] 9)).trans (hb3.mono (Nat.le_succ _))
          have hbs3 : w.heap.size + 1 ≤ w3.heap.size := Nat.le_trans Hbs.out hbw3.size
          have Hb3 := Lib.hid (Hb.out.trans (hbw3.mono Hbs.out))
          have owo3 := Ho.out.below hbw3 (Nat.le_refl _)
          have Hl3 := Lib.hid (Hl.out.below hbw3 (Nat.le_refl _))
          clear h1 h2 h3 h4 hb3 hbw3 Ho Hl Hb Hbs CT
          go_wp2_with (at_builtin; refine wpList_push_strs2 _ _ rfl _ _ 24 rfl 9 Tryd.underlying24 Tryd.infoStr _ _ ll rfl owo3 _ [tx] rfl 1 1 rfl _ rfl rfl (by omega) hbs3 rfl ?_; intro v4 w4 owo4 hg4 hb4 ha4)
          refine (CB.out _).mono ?_
          rintro e w' ⟨rfl, rfl⟩
          have Ho4 := Lib.hid owo4
          have Hl4 := Lib.hid (Own.kept Hl3.out hg4 hap.out)
          have hap4 := apart_grow hap.out (fun k hk => (Hl3.out.block k hk).2) ha4
          have Hb4 := Lib.hid (Hb3.out.trans hb4)
          have hbs4 : w.heap.size + 1 ≤ w4.heap.size := Nat.le_trans hbs3 hb4.size
          obtain ⟨h1, h2, h3, h4⟩ := hkeep.out w4 Hb4.out
          have Hap := Lib.hid hap4
          clear owo3 owo4 hg4 hb4 ha4 hap hap4 Hl3 Hb3
          by_cases hz : z = 0
          · subst hz
            have HN2 : Hid (sideTo bb o s (k + 1) = pl ++ [lx, y]) := Lib.hid (by rw [HN.out, if_pos rfl])
            go_wp2_with fail
            go_region_held3 (fun w' => w'.cell? ⟨w.heap.size, 1, none⟩ = some (.slice (some ⟨b1, f1, none⟩) 8 c1) ∧ w'.cell? ⟨w.heap.size, 2, none⟩ = some (.slice (some ⟨b2, f2, none⟩) 8 c2) ∧ w'.cell? ⟨b1, f1 + k, none⟩ = some (.string x) ∧ w'.cell? ⟨b2, f2 + k, none⟩ = some (.string y))
              (first | exact hkeep.out _ hb06 | exact hkeep.out _ hb05 | go_keep)
              (first
                | (go_at_call 48; refine (CL.out _).mono ?_; rintro e w5 ⟨rfl, hb5⟩; have hbw5 : Below w4.heap.size w4 w5 := ⟨hb5.os, hb5.tape, hb5.output, hb5.size, hb5.block⟩; have own5 := Hl4.out.below hbw5 (Nat.le_refl _); have owo5 := Lib.hid (Ho4.out.below hbw5 (Nat.le_refl _)); have hb05 := Hb4.out.trans (hbw5.mono hbs4); have hbs5 : w.heap.size + 1 ≤ w5.heap.size := Nat.le_trans hbs4 hbw5.size)
                | (refine step_push_strs2 _ _ (by rfl) _ _ 24 (by rfl) 9 Tryd.underlying24 Tryd.infoStr _ _ pl (by rfl) own5 _ [lx, y] (by rfl) 2 2 (by rfl) _ (by rfl) (by rfl) (by omega) hbs5 (by rfl) ?_; intro v6 w6 own6 hg6 hb6 ha6; have hb06 := hb05.trans hb6))
            have owo6 := Own.kept owo5.out hg6 (apart_symm Hap.out)
            have hap6 := Lib.hid (apart_symm (apart_grow (apart_symm Hap.out) (fun k hk => (owo5.out.block k hk).2) ha6))
            have Hb6 := Lib.hid hb06
            clear hg6 hb6 ha6 hb06
            go_wp2_with fail
            exact ⟨⟨k + 1, by omega, by go_num, by rw [HLN.out]; exact owo6, by rw [HN2.out]; exact own6, hap6, Hb6.out⟩, by simp [intOf]; omega⟩
          · have HN2 : Hid (sideTo bb o s (k + 1) = pl ++ [y, lx]) := Lib.hid (by rw [HN.out, if_neg hz])
            have e1 : (z == 0) = false := beq_eq_false_iff_ne.2 hz
            clear hz
            go_wp2_with fail
            go_region_held3 (fun w' => w'.cell? ⟨w.heap.size, 1, none⟩ = some (.slice (some ⟨b1, f1, none⟩) 8 c1) ∧ w'.cell? ⟨w.heap.size, 2, none⟩ = some (.slice (some ⟨b2, f2, none⟩) 8 c2) ∧ w'.cell? ⟨b1, f1 + k, none⟩ = some (.string x) ∧ w'.cell? ⟨b2, f2 + k, none⟩ = some (.string y))
              (first | exact hkeep.out _ hb06 | exact hkeep.out _ hb05 | go_keep)
              (first
                | (go_at_call 48; refine (CL.out _).mono ?_; rintro e w5 ⟨rfl, hb5⟩; have hbw5 : Below w4.heap.size w4 w5 := ⟨hb5.os, hb5.tape, hb5.output, hb5.size, hb5.block⟩; have own5 := Hl4.out.below hbw5 (Nat.le_refl _); have owo5 := Lib.hid (Ho4.out.below hbw5 (Nat.le_refl _)); have hb05 := Hb4.out.trans (hbw5.mono hbs4); have hbs5 : w.heap.size + 1 ≤ w5.heap.size := Nat.le_trans hbs4 hbw5.size)
                | (refine step_push_strs2 _ _ (by rfl) _ _ 24 (by rfl) 9 Tryd.underlying24 Tryd.infoStr _ _ pl (by rfl) own5 _ [y, lx] (by rfl) 2 2 (by rfl) _ (by rfl) (by rfl) (by omega) hbs5 (by rfl) ?_; intro v6 w6 own6 hg6 hb6 ha6; have hb06 := hb05.trans hb6))
            have owo6 := Own.kept owo5.out hg6 (apart_symm Hap.out)
            have hap6 := Lib.hid (apart_symm (apart_grow (apart_symm Hap.out) (fun k hk => (owo5.out.block k hk).2) ha6))
            have Hb6 := Lib.hid hb06
            clear hg6 hb6 ha6 hb06
            go_wp2_with fail
            exact ⟨⟨k + 1, by omega, by go_num, by rw [HLN.out]; exact owo6, by rw [HN2.out]; exact own6, hap6, Hb6.out⟩, by simp [intOf]; omega⟩
        · obtain rfl : k = 8 := by omega
          have hl16 := sideTo_len bb o s 8
          have hl8 := leafTo_len o 8
          obtain ⟨al, cl, rfl, rl⟩ := howl.rd
          have CT0 := sTagText_any 6 al cl (sideTo bb o s 8) wr (by omega) (fun z hz => by have := LZ.out z hz; omega) rl
          rw [tagT_opt (by decide) (by omega) (fun z hz => by have := LZ.out z hz; omega), ← HK.out] at CT0
          have KZ : key.size ≤ 12181 := by rw [HK.out]; exact tagT_size _ _
          have CZ := Lib.hid (climbT_size (q := q) (d := d) KZ)
          generalize sideTo bb o s 8 = pl at *
          have hS0 := S0.out
          generalize leafTo o 8 = ll at *
          have HS0 := Lib.hid hS0
          have HL8 : Hid (ll.length ≤ 8) := Lib.hid (by omega)
          have CT := Lib.hid CT0
          have Hb := Lib.hid hb
          have Ho := Lib.hid howo
          clear CT0 howl hb rl hl16 hl8 hap howo KZ hS0
          go_wp2_with fail
          refine CT.out.mono ?_
          rintro e w3 ⟨rfl, hb3⟩
          have hbs3 : w.heap.size + 1 ≤ w3.heap.size := Nat.le_trans hbs hb3.size
          have Hb3 := Lib.hid (Hb.out.trans (hb3.mono hbs))
          have owo3 := Ho.out.below hb3 (Nat.le_refl _)
          clear hb3 CT Hb Ho hbs
          go_wp2_with (at_builtin; refine wpList_push_strs _ _ rfl _ _ 24 rfl 9 Tryd.underlying24 Tryd.infoStr _ _ ll rfl owo3 _ [key] rfl 1 1 rfl _ rfl rfl (by have := HL8.out; omega) hbs3 rfl ?_; intro v4 w4 owo4 hg4 hb4; have hG4 := Hb3.out.trans hb4; obtain ⟨h0, _, _, _⟩ := K0.out w4 hG4)
          rw [← HS0.out] at owo4
          clear hg4 hb4 owo3 Hb3 hbs3 h0
          go_loopw [5, 13, 14] (fun vo vk i wr => ∃ j : Nat, j ≤ 4 ∧ i = .int .i64 j ∧ vk = .int .i64 (q / 2 ^ j : Nat) ∧ OwnS wr (w.heap.size + 1) vo (st j) ∧ Below (w.heap.size + 1) W1 wr) (fun _ _ i _ => 4 - (intOf i).toNat)
          case atStart => exact ⟨0, by omega, rfl, by simp, owo4, hG4⟩
          case round =>
            obtain ⟨j, hj, rfl, rfl, howo, hb⟩ := hrel
            have hbs := hb.size
            rw [HZ.out] at hbs
            obtain ⟨ao, co, rfl, ro⟩ := howo.rd
            by_cases hlt : j < 4
            · obtain ⟨x, hx, hxz⟩ := DZ.out j hlt
              have hnext := climbT_next (p := q) (t0 := key) hx
              have hstn := SN.out j
              have hcz := cutT_size (climbT q d key j)
              have CC0 := fun wx => sCutDigest_any (climbT q d key j) (by have := CZ.out j; omega) 16 wx
              have hcut : txt (cutL (climbT q d key j).data.toList 16) = cutT (climbT q d key j) := rfl
              rw [hcut] at CC0
              have hqj : q / 2 ^ j ≤ 15 := Nat.le_trans (Nat.div_le_self _ _) (by omega)
              have hph := pow_half q j
              have q1 := wrap_half (q / 2 ^ j) hqj
              obtain ⟨b3, f3, rfl, hc3⟩ := R3.out j x hx
              obtain ⟨u, hu⟩ : ∃ u, u = 8 + j := ⟨_, rfl⟩
              have hlast := SL.out j
              rw [← hu] at hlast
              obtain ⟨bo, fo, rfl, hco⟩ := ro u _ hlast
              have hsl := SS.out j
              obtain ⟨u0, u1, u2, u3, u4, hsl13⟩ := last_ix _ j u hsl hu hj
              obtain ⟨_, _, _, h3⟩ := K0.out wr hb
              have hkeep : Hid (∀ W, Below (w.heap.size + 1) W1 W → W.cell? ⟨w.heap.size, 3, none⟩ = some (.slice (some ⟨b3, f3, none⟩) 4 c3) ∧ W.cell? ⟨b3, f3 + j, none⟩ = some (.string x)) :=
                Lib.hid fun W hW => ⟨(K0.out W hW).2.2.2, (hW.cell (p := ⟨b3, f3 + j, none⟩) (by rw [← HZ.out]; exact World.block_lt_of_cell? _ _ hc3)).trans hc3⟩
              generalize cutT (climbT q d key j) = hh at *
              generalize climbT q d key j = tj at *
              generalize st j = sj at *
              generalize q / 2 ^ j = m at *
              have i0 : (0 : Int) ≤ (j : Int) := Int.natCast_nonneg _
              have i1 : (j : Int) < 4 := by omega
              have i2 : (0 : Int) ≤ (m : Int) := Int.natCast_nonneg _
              have D1 := Lib.hid (fun (W : World) => (show Calls Tryd.prog 25 #[.int .i64 3, .slice (some ⟨W.heap.size, 0, none⟩) 2 2] (W.alloc (.cells #[.string hh, .string x] 9)) (fun e w' => e = .returned (.tuple #[.string (tagT 3 [hh, x]), .bool true]) ∧ Below (W.heap.size + 1) (W.alloc (.cells #[.string hh, .string x] 9)) w') by
                have h := sTagText_any 3 (some ⟨W.heap.size, 0, none⟩) 2 [hh, x] (W.alloc (.cells #[.string hh, .string x] 9)) (by simp) (by intro z hz; simp at hz; rcases hz with rfl | rfl <;> omega) (rdS_two W hh x 9)
                rw [tagT_opt (by decide) (by simp) (by intro z hz; simp at hz; rcases hz with rfl | rfl <;> omega), alloc_size] at h
                exact h))
              have D2 := Lib.hid (fun (W : World) => (show Calls Tryd.prog 25 #[.int .i64 3, .slice (some ⟨W.heap.size, 0, none⟩) 2 2] (W.alloc (.cells #[.string x, .string hh] 9)) (fun e w' => e = .returned (.tuple #[.string (tagT 3 [x, hh]), .bool true]) ∧ Below (W.heap.size + 1) (W.alloc (.cells #[.string x, .string hh] 9)) w') by
                have h := sTagText_any 3 (some ⟨W.heap.size, 0, none⟩) 2 [x, hh] (W.alloc (.cells #[.string x, .string hh] 9)) (by simp) (by intro z hz; simp at hz; rcases hz with rfl | rfl <;> omega) (rdS_two W x hh 9)
                rw [tagT_opt (by decide) (by simp) (by intro z hz; simp at hz; rcases hz with rfl | rfl <;> omega), alloc_size] at h
                exact h))
              have CC := Lib.hid CC0
              have HN := Lib.hid hnext
              have HSN := Lib.hid hstn
              have HPH := Lib.hid hph
              have Hb := Lib.hid hb
              have Hbs := Lib.hid hbs
              have Ho := Lib.hid howo
              have HS13 := Lib.hid hsl13
              have HU := Lib.hid hu
              have hc3w := (hkeep.out wr hb).2
              clear CC0 hnext hstn hph hb hcz hxz hx hbs howo ro hlast hsl hsl13 hu hc3 hcut
              go_wp2_with fail
              refine (CC.out _).mono ?_
              rintro e w3 ⟨rfl, hb3⟩
              have hbs3 := Lib.hid (Nat.le_trans Hbs.out hb3.size)
              have Hb3 := Lib.hid (Hb.out.trans (hb3.mono Hbs.out))
              have Ho3 := Lib.hid (Ho.out.below hb3 (Nat.le_refl _))
              clear hco hc3w h3
              obtain ⟨h3, h4⟩ := hkeep.out w3 Hb3.out
              clear hb3 Hb Ho Hbs CC
              by_cases hm : m % 2 = 0
              · obtain ⟨_, _, e1, e2⟩ := int_even hm
                have HN2 : Hid (climbT q d key (j + 1) = tagT 3 [hh, x]) := Lib.hid (by rw [HN.out, nodeT, if_pos hm])
                clear hm
                go_wp2_with fail
                refine (D1.out _).mono ?_
                rintro e w4 ⟨rfl, hb4⟩
                have hbw4 := ((Below.refl w3.heap.size w3).alloc (Nat.le_refl _) (.cells #[.string hh, .string x] 9)).trans (hb4.mono (Nat.le_succ _))
                have hbs4 : w.heap.size + 1 ≤ w4.heap.size := Nat.le_trans hbs3.out hbw4.size
                have Hb4 := Lib.hid (Hb3.out.trans (hbw4.mono hbs3.out))
                have owo4 := Ho3.out.below hbw4 (Nat.le_refl _)
                generalize tagT 3 [hh, x] = tn at *
                clear hb4 hbw4 h3 h4 Hb3 Ho3
                go_wp2_with (at_builtin; refine wpList_push_strs _ _ rfl _ _ 24 rfl 9 Tryd.underlying24 Tryd.infoStr _ _ sj rfl owo4 _ [tn] rfl 1 1 rfl _ rfl rfl (by have := HS13.out; omega) hbs4 rfl ?_; intro v5 w5 owo5 hg5 hb5)
                have HG5 := Lib.hid (Hb4.out.trans hb5)
                clear hb5 hg5
                exact ⟨⟨j + 1, by omega, by go_num, by rw [← HPH.out]; rfl, by rw [HSN.out, HN2.out]; exact owo5, HG5.out⟩, by simp [intOf]; omega⟩
              · obtain ⟨_, _, e1, e2⟩ := int_odd hm
                have HN2 : Hid (climbT q d key (j + 1) = tagT 3 [x, hh]) := Lib.hid (by rw [HN.out, nodeT, if_neg hm])
                clear hm
                have hzz := alloc_size w3 (.cells #[.string hh, .string x] 9)
                have D3 := D2.out (w3.alloc (.cells #[.string hh, .string x] 9))
                rw [hzz] at D3
                have HD3 := Lib.hid D3
                obtain ⟨h5, h6⟩ := hkeep.out _ (Hb3.out.alloc hbs3.out (.cells #[.string hh, .string x] 9))
                clear hzz D3
                go_wp2_with fail
                refine HD3.out.mono ?_
                rintro e w4 ⟨rfl, hb4⟩
                have hbw4 := (((Below.refl w3.heap.size w3).alloc (Nat.le_refl _) (.cells #[.string hh, .string x] 9)).alloc (by rw [alloc_size]; omega) (.cells #[.string x, .string hh] 9)).trans (hb4.mono (by omega))
                have hbs4 : w.heap.size + 1 ≤ w4.heap.size := Nat.le_trans hbs3.out hbw4.size
                have Hb4 := Lib.hid (Hb3.out.trans (hbw4.mono hbs3.out))
                have owo4 := Ho3.out.below hbw4 (Nat.le_refl _)
                generalize tagT 3 [x, hh] = tn at *
                clear hb4 hbw4 h3 h4 h5 h6 Hb3 Ho3
                go_wp2_with (at_builtin; refine wpList_push_strs _ _ rfl _ _ 24 rfl 9 Tryd.underlying24 Tryd.infoStr _ _ sj rfl owo4 _ [tn] rfl 1 1 rfl _ rfl rfl (by have := HS13.out; omega) hbs4 rfl ?_; intro v5 w5 owo5 hg5 hb5)
                have HG5 := Lib.hid (Hb4.out.trans hb5)
                clear hb5 hg5
                exact ⟨⟨j + 1, by omega, by go_num, by rw [← HPH.out]; rfl, by rw [HSN.out, HN2.out]; exact owo5, HG5.out⟩, by simp [intOf]; omega⟩
            · obtain rfl : j = 4 := by omega
              obtain ⟨_, _, _, h3⟩ := K0.out wr hb
              have HG5 := Lib.hid (HB.out.trans (hb.mono (Nat.le_succ _)))
              have HO := Lib.hid (howo.mono (Nat.le_succ w.heap.size))
              clear howo ro
              go_wp2_with fail
              go_ret
              exact ⟨⟨_, rfl, HO.out⟩, HG5.out⟩
    · have HF := Lib.hid (sigTexts_no (fun h2 : SigGood t p o s d => hg h2.2))
      have hgt : (200 : Int) < (t.size : Int) := by omega
      clear r1 r2 r3 hB hB2 hg hf CF hz hz2 hE0 hG0
      go_enter Tryd.func35, Tryd.ntmps35
      go_wp2_with fail
      refine DF.out.mono ?_
      rintro e w1 ⟨rfl, hb1⟩
      have HG := Lib.hid (HB2.out.trans (hb1.mono HB2.out.size))
      have HO := Lib.hid ((E0.out.below hb1 (Nat.le_refl _)).mono (Nat.le_succ w.heap.size))
      clear hb1
      go_wp2_with fail
      go_ret
      exact ⟨⟨_, rfl, by rw [HF.out]; exact HO.out⟩, HG.out⟩
  · rw [decide_eq_false hf] at CF
    have DF := Lib.hid CF
    have HF := Lib.hid (sigTexts_no (fun h2 : SigGood t p o s d => hf h2.1))
    clear r1 r2 r3 hB hB2 hf CF hz hz2 hE0 hG0
    go_enter Tryd.func35, Tryd.ntmps35
    go_wp2_with fail
    refine DF.out.mono ?_
    rintro e w1 ⟨rfl, hb1⟩
    have HG := Lib.hid (HB2.out.trans (hb1.mono HB2.out.size))
    have HO := Lib.hid ((E0.out.below hb1 (Nat.le_refl _)).mono (Nat.le_succ w.heap.size))
    clear hb1
    go_wp2_with fail
    go_ret
    exact ⟨⟨_, rfl, by rw [HF.out]; exact HO.out⟩, HG.out⟩

end Go.Proofs.YtcehbmlibfalaaaDoor
