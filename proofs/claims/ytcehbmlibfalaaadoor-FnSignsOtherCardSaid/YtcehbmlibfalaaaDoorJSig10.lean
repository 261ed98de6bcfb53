/-
  The walks of the closure that hashes a string and keeps it, of the program's strings that a signature hashes, and of its test of a signature.
-/
import Derived.Test.YtcehbmlibfalaaaDoorJSig8
import Derived.Test.YtcehbmlibfalaaaDoorJSig4
namespace Go.Proofs.YtcehbmlibfalaaaDoor
open Go.RowKit

/-- All stands but block c and one row. -/
structure But (c : Nat) (row : Option Nat) (w w' : World) : Prop where
  os : w'.os = w.os
  tape : w'.tape = w.tape
  output : w'.output = w.output
  size : w.heap.size ≤ w'.heap.size
  block : ∀ j, j < w.heap.size → j ≠ c → some j ≠ row → w'.heap[j]? = w.heap[j]?
theorem But.below {c B : Nat} {row : Option Nat} {w0 w w' : World} (h : But c row w w') (hb : Below B w0 w) (hB : B ≤ w.heap.size) (hc : B ≤ c) (hr : ∀ k, row = some k → B ≤ k) : Below B w0 w' :=
  ⟨h.os.trans hb.os, h.tape.trans hb.tape, h.output.trans hb.output, Nat.le_trans hb.size h.size, fun k hk => (h.block k (by omega) (by omega) (fun e => by have := hr k e.symm; omega)).trans (hb.block k hk)⟩
theorem OwnS.but {c B : Nat} {row : Option Nat} {w w' : World} {v : Value} {l : List ByteArray} (h : OwnS w B v l) (hb : But c row w w') (hc : c < B) (hr : v.ownBlock = none ∨ v.ownBlock ≠ row) : OwnS w' B v l := by
  rcases h with h | ⟨g, cap, rfl, hB, r⟩
  · exact .inl h
  · exact .inr ⟨g, cap, rfl, hB, r.keep hb.size (hb.block g r.lt (by omega) (hr.resolve_left (by simp [Value.ownBlock])))⟩

set_option maxHeartbeats 1000000 in
theorem add_any (k : Int) (hk : 1 ≤ k ∧ k ≤ 8) (ao : Option Addr) (cap : Nat) (l : List ByteArray) (hl : l.length ≤ 60) (hs : ∀ x ∈ l, x.size ≤ 200) (B c : Nat) (vo : Value) (ol : List ByteArray) (hol : ol.length ≤ 100) (w0 w : World) (hB : B ≤ w.heap.size) (hc : c < B) (hc0 : w0.heap.size ≤ c) (hw0 : Below w0.heap.size w0 w)
    (h : RdS w ao l) (hcell : Blk w c 24 [vo]) (hown : OwnS w B vo ol) (hT : YtcehbmlibfalaaaDoorTabs w0) :
    Calls Tryd.prog 70 #[.int .i64 k, .slice ao l.length cap, .pointer (some ⟨c, 0, none⟩)] w fun e w' => e = .returned (.string (cutT (tagT k l))) ∧ ∃ vo', Blk w' c 24 [vo'] ∧ OwnS w' B vo' (ol ++ [tagT k l]) ∧ But c vo.ownBlock w w' ∧ (∀ j, vo'.ownBlock = some j → vo.ownBlock = some j ∨ w.heap.size ≤ j) := by
  have CT0 := iTagText_any k ao cap l w (by omega) (fun x hx => by have := hs x hx; omega) h
  rw [tagT_opt hk hl hs] at CT0
  have CC0 := fun wx hx => iCutDigest_any (tagT k l) (by have := tagT_size k l; omega) 16 wx hx
  have hcut : txt (cutL (tagT k l).data.toList 16) = cutT (tagT k l) := rfl
  rw [hcut] at CC0
  have CT := Lib.hid CT0
  have CC := Lib.hid CC0
  have HT := Lib.hid hT
  have HO := Lib.hid hown
  have HC := Lib.hid hcell
  have HW := Lib.hid hw0
  have HOL := Lib.hid hol
  clear CT0 CC0 hcut h hs hl hT hown hcell hw0 hol
  generalize tagT k l = tx at *
  go_enter Tryd.func70, Tryd.ntmps70
  go_wp2_with fail
  refine CT.out.mono ?_
  rintro e w1 ⟨rfl, hb1⟩
  have own1 := HO.out.below hb1 (Nat.le_refl _)
  have D1 := HC.out.below hb1 (by omega)
  have hB1 : B ≤ w1.heap.size := Nat.le_trans hB hb1.size
  have c1 : w1.cell? ⟨c, 0, none⟩ = some vo := D1.cell 0
  have hne : some c ≠ vo.ownBlock := fun e => by have := (own1.block c e.symm).1; omega
  have H1 := Lib.hid hb1
  have K1 := Lib.hid D1
  clear hb1 D1
  go_wp2_with (at_builtin; refine wpList_push_strs2 _ _ rfl _ _ 24 rfl 9 Tryd.underlying24 Tryd.infoStr _ _ ol rfl own1 _ [tx] rfl 1 1 rfl _ rfl rfl (by have := HOL.out; omega) hB1 rfl ?_; intro v2 w2 own2 hg2 hb2 ha2; obtain ⟨q2, m2, rfl⟩ := Own.shape own2; have D2 := K1.out.kept hg2 hne; have c2 : w2.cell? ⟨c, 0, none⟩ = some vo := D2.cell 0; have f2 := D2.frozen 0)
  have elen : (ol ++ [tx]).length = ol.length + 1 := by simp
  rw [elen] at own2 ha2
  have hg2' : w1.grownBy w2 vo.ownBlock := hg2
  have ha2' : ∀ j, (Value.slice q2 (ol.length + 1) m2).ownBlock = some j → vo.ownBlock = some j ∨ w1.heap.size ≤ j := ha2
  have D3 := Lib.hid (D2.set_ 0 (.slice q2 (ol.length + 1) m2))
  have own3 := Lib.hid (own2.setCell (a := ⟨c, 0, none⟩) hc (.slice q2 (ol.length + 1) m2))
  have hX : (w2.setCell ⟨c, 0, none⟩ (.slice q2 (ol.length + 1) m2)).heap.size = w2.heap.size := size_setC _ _ _
  have hz0 := HW.out.size
  have hz1 := H1.out.size
  have hz2 := hg2'.size
  have HBX := ((HW.out.trans (H1.out.mono hz0)).grown hg2' (by omega) (fun k hk => by have := (own1.block k hk).1; omega)).setCell (p := ⟨c, 0, none⟩) hc0 (.slice q2 (ol.length + 1) m2)
  have CCX := Lib.hid (CC.out _ (HT.out.below HBX (Nat.le_refl _)))
  have HA := Lib.hid ha2'
  have HG := Lib.hid hg2'
  have hb1 := H1.out
  have hcz := Lib.hid (World.block_lt_of_cell? _ _ c2)
  have HZ := Lib.hid (And.intro hX (And.intro hz1 hz2))
  clear hg2 ha2 own2 own1 D2 HBX CC CT hb2 c2 f2 hX hz0 hz1 hz2 hg2' ha2' hb1
  refine CCX.out.mono ?_
  rintro e w4 ⟨rfl, hb4⟩
  obtain ⟨hX, hz1, hz2⟩ := HZ.out
  have hz4 := hb4.size
  have HF : Hid (But c vo.ownBlock w w4) := Lib.hid ⟨hb4.os.trans (HG.out.os.trans H1.out.os), hb4.tape.trans (HG.out.tape.trans H1.out.tape), hb4.output.trans (HG.out.output.trans H1.out.output), by omega, fun j hj hjc hjr =>
    (hb4.block j (by omega)).trans ((Below.heap_setCell w2 _ _ j hjc).trans ((HG.out.block j (by omega) hjr).trans (H1.out.block j hj)))⟩
  have F1 := Lib.hid (D3.out.below hb4 (by have := hcz.out; simp only at this; omega))
  have F2 := Lib.hid (own3.out.below hb4 (Nat.le_refl _))
  clear hb4 hX hz4
  go_wp2_with fail
  go_ret
  exact ⟨rfl, _, F1.out, F2.out, HF.out, fun j hj => (HA.out j hj).imp id (fun h => by omega)⟩


theorem own_ne {w : World} {B c : Nat} {v : Value} {l : List ByteArray} (h : OwnS w B v l) (hc : c < B) : some c ≠ v.ownBlock := fun e => by have := (h.block c e.symm).1; omega

theorem shift_bit : ∀ (q j : Nat), q ≤ 15 → j < 4 → bits BinOp.and IntKind.i64 ((q : Int) / 2 ^ j) 1 = ((q / 2 ^ j % 2 : Nat) : Int) := by
  have h : ∀ x : Fin 16, ∀ k : Fin 4, bits BinOp.and IntKind.i64 ((x.val : Int) / 2 ^ k.val) 1 = ((x.val / 2 ^ k.val % 2 : Nat) : Int) := by decide +kernel
  intro q j hq hj
  exact h ⟨q, by omega⟩ ⟨j, hj⟩

set_option maxHeartbeats 2000000 in
set_option maxRecDepth 100000 in
theorem iSigTexts_any (t : ByteArray) (ht : t.size ≤ 1048576) (v : Value) (p : Int) (o s d : List ByteArray) (w : World) (ho : o.length ≤ 1048576) (hs : s.length ≤ 1048576) (hd : d.length ≤ 1048576) (ho' : ∀ x ∈ o, x.size ≤ 1048576) (hs' : ∀ x ∈ s, x.size ≤ 1048576) (hd' : ∀ x ∈ d, x.size ≤ 1048576) (h : RdSig w v p o s d) (hT : YtcehbmlibfalaaaDoorTabs w) :
    Calls Tryd.prog 36 #[.string t, v] w fun e w' => (∃ v', e = .returned v' ∧ OwnS w' w.heap.size v' (sigTexts t p o s d)) ∧ Below w.heap.size w w' := by
  obtain ⟨a1, c1, a2, c2, a3, c3, rfl, r1, r2, r3⟩ := h
  have hz := alloc_size w (.cells #[.int .i64 p, .slice a1 o.length c1, .slice a2 s.length c2, .slice a3 d.length c3] 46)
  have hB := (Below.refl w.heap.size w).alloc (Nat.le_refl _) (.cells #[.int .i64 p, .slice a1 o.length c1, .slice a2 s.length c2, .slice a3 d.length c3] 46)
  have CF := iForm_any _ p o s d _ ho hs hd ho' hs' hd' ⟨a1, c1, a2, c2, a3, c3, rfl, r1.below hB (Nat.le_refl _), r2.below hB (Nat.le_refl _), r3.below hB (Nat.le_refl _)⟩
  have HB := Lib.hid hB
  have HZ := Lib.hid hz
  have HTB := Lib.hid (hT.below hB (Nat.le_refl _))
  by_cases hf : SigForm p o s d
  · rw [decide_eq_true hf] at CF
    have DF := Lib.hid CF
    by_cases hg : t.size ≤ 200
    · rw [sigTexts_yes ⟨hf, hg⟩]
      have CB := Lib.hid (fun wx hx => iSignBitsOf_any t ht wx hx)
      have k0 : ∀ W, Below (w.heap.size + 1) (w.alloc (.cells #[.int .i64 p, .slice a1 o.length c1, .slice a2 s.length c2, .slice a3 d.length c3] 46)) W →
          W.cell? ⟨w.heap.size, 0, none⟩ = some (.int .i64 p) ∧ W.cell? ⟨w.heap.size, 1, none⟩ = some (.slice a1 o.length c1) ∧ W.cell? ⟨w.heap.size, 2, none⟩ = some (.slice a2 s.length c2) ∧ W.cell? ⟨w.heap.size, 3, none⟩ = some (.slice a3 d.length c3) := by
        intro W hW
        refine ⟨?_, ?_, ?_, ?_⟩ <;> refine (hW.cell (by simp)).trans ?_ <;> simp
      have K0 := Lib.hid k0
      have R1 := Lib.hid (r1.below hB (Nat.le_refl _))
      have R2 := Lib.hid (r2.below hB (Nat.le_refl _))
      have R3 := Lib.hid (r3.below hB (Nat.le_refl _))
      obtain ⟨hp, ⟨ol, oz⟩, ⟨sl, sz⟩, dl, dz⟩ := hf
      have OZ : Hid (∀ k, k < 8 → ∃ x, o[k]? = some x ∧ x.size = 16) := Lib.hid fun k hk => ⟨_, List.getElem?_eq_getElem (by omega), oz _ (List.getElem_mem _)⟩
      have SZ : Hid (∀ k, k < 8 → ∃ x, s[k]? = some x ∧ x.size = 16) := Lib.hid fun k hk => ⟨_, List.getElem?_eq_getElem (by omega), sz _ (List.getElem_mem _)⟩
      have DZ : Hid (∀ k, k < 4 → ∃ x, d[k]? = some x ∧ x.size = 16) := Lib.hid fun k hk => ⟨_, List.getElem?_eq_getElem (by omega), dz _ (List.getElem_mem _)⟩
      have LZ := Lib.hid (sideTo_size (b := (signB t : Nat)) (o := o) sz 8 (by omega))
      generalize hkey : keyT t o s = key
      have HK : Hid (key = tagT 6 (sideTo (signB t : Nat) o s 8)) := Lib.hid hkey.symm
      have ST0 : sigTo t p o s d 0 = leafTo o 8 ++ [key] := by rw [← hkey]; exact List.append_nil _
      have STn := fun n => sigTo_next t p o s d n
      have STl := fun n => sigTo_last t p o s d n
      have STz := fun n => sigTo_len t p o s d n
      rw [hkey] at STn STl
      generalize hst : sigTo t p o s d = st at *
      generalize signB t = bb at *
      obtain ⟨q, rfl⟩ : ∃ q : Nat, p = (q : Int) := ⟨p.toNat, by omega⟩
      rw [Int.toNat_natCast] at STn STl
      have S0 := Lib.hid ST0
      have SN := Lib.hid STn
      have SL := Lib.hid STl
      have SS := Lib.hid STz
      clear r1 r2 r3 hB hkey k0 ho' hs' hd' oz sz dz CF hz hT ST0 STn STl STz hst
      generalize o.length = n1 at *
      generalize s.length = n2 at *
      generalize d.length = n3 at *
      subst ol
      subst sl
      subst dl
      go_enter Tryd.func36, Tryd.ntmps36
      go_wp2_with fail
      refine DF.out.mono ?_
      rintro e w1 ⟨rfl, hb1⟩
      rw [HZ.out] at hb1
      have G1 := Lib.hid hb1
      clear hb1
      go_wp2_with fail
      have HT : Hid (t.size ≤ 200) := Lib.hid hg
      have hcs := G1.out.size
      rw [HZ.out] at hcs
      have D1 := Blk.new w1 24 [.slice none 0 0] _ rfl
      have G2 := G1.out.alloc hcs (.cells #[.slice none 0 0] 24)
      have hz1 := alloc_size w1 (.cells #[.slice none 0 0] 24)
      generalize w.alloc (.cells #[.int .i64 (q : Int), .slice a1 8 c1, .slice a2 8 c2, .slice a3 4 c3] 46) = W1 at *
      have toW : Hid (∀ W, Below (w.heap.size + 1) W1 W → Below W1.heap.size W1 W) := Lib.hid fun W h => by rw [HZ.out]; exact h
      refine (CB.out _ (HTB.out.below (toW.out _ G2) (Nat.le_refl _))).mono ?_
      rintro e w2 ⟨rfl, hb2⟩
      have hz2 := hb2.size
      rw [hz1] at hz2
      have hD2 := D1.below hb2 (by omega)
      have hG2 := G2.trans (hb2.mono (by omega))
      generalize w1.heap.size = c at *
      generalize Value.bool (decide ((200 : Int) < (t.size : Int))) = q26 at *
      have D2 := Lib.hid hD2
      clear hb2 hg ht DF CB G1 G2 hz1 D1 hD2
      go_wp2_with fail
      go_loopw [6, 25] (fun vl i wr => ∃ (k : Nat) (vo : Value), k ≤ 8 ∧ i = .int .i64 k ∧ Hid (Blk wr c 24 [vo]) ∧ OwnS wr (c + 1) vo (leafTo o k) ∧ OwnS wr (c + 1) vl (sideTo bb o s k) ∧ Hid (vl.ownBlock = none ∨ vl.ownBlock ≠ vo.ownBlock) ∧ Below (w.heap.size + 1) W1 wr) (fun _ i _ => 8 - (intOf i).toNat)
      case atStart => exact ⟨0, _, by omega, rfl, D2, OwnS.nil _ _, OwnS.nil _ _, Lib.hid (.inl rfl), hG2⟩
      case round =>
        obtain ⟨k, vo, hk, rfl, hD, howo, howl, hap, hb⟩ := hrel
        have hbs := hD.out.lt
        by_cases hlt : k < 8
        · obtain ⟨x, hx, hxz⟩ := OZ.out k hlt
          obtain ⟨y, hy, hyz⟩ := SZ.out k hlt
          have hnext := sideTo_next (b := (bb : Nat)) hx hy
          have hlnext := leafTo_next hx
          have CB := Lib.hid (fun wx => iBitOf_any (bb : Nat) (k : Nat) wx)
          have hpl : (sideTo bb o s k).length ≤ 16 := by rw [sideTo_len]; omega
          have hll : (leafTo o k).length ≤ 8 := by rw [leafTo_len]; omega
          obtain ⟨b1, f1, rfl, hc1⟩ := R1.out k x hx
          obtain ⟨b2, f2, rfl, hc2⟩ := R2.out k y hy
          have hkeep : Hid (∀ W, Below (w.heap.size + 1) W1 W → W.cell? ⟨w.heap.size, 1, none⟩ = some (.slice (some ⟨b1, f1, none⟩) 8 c1) ∧ W.cell? ⟨w.heap.size, 2, none⟩ = some (.slice (some ⟨b2, f2, none⟩) 8 c2) ∧ W.cell? ⟨b1, f1 + k, none⟩ = some (.string x) ∧ W.cell? ⟨b2, f2 + k, none⟩ = some (.string y)) :=
            Lib.hid fun W hW => ⟨(K0.out W hW).2.1, (K0.out W hW).2.2.1, (hW.cell (p := ⟨b1, f1 + k, none⟩) (by rw [← HZ.out]; exact World.block_lt_of_cell? _ _ hc1)).trans hc1, (hW.cell (p := ⟨b2, f2 + k, none⟩) (by rw [← HZ.out]; exact World.block_lt_of_cell? _ _ hc2)).trans hc2⟩
          have i0 : (0 : Int) ≤ (k : Int) := Int.natCast_nonneg _
          have i1 : (k : Int) < 8 := by omega
          have hza := alloc_size wr (.cells #[.string x] 9)
          have hbA := hb.alloc (by omega) (.cells #[.string x] 9)
          have CA0 := add_any 6 (by decide) (some ⟨wr.heap.size, 0, none⟩) 1 [x] (by simp) (by intro z hz; simp at hz; subst hz; omega) (c + 1) c vo (leafTo o k) (by omega) W1 (wr.alloc (.cells #[.string x] 9)) (by omega) (Nat.lt_succ_self c) (by rw [HZ.out]; exact hcs) (toW.out _ hbA) (rdS_one wr x 9) (hD.out.alloc _) (Own.alloc howo _) HTB.out
          have hlk : cutT (tagT 6 [x]) = lockS x := rfl
          rw [hlk] at CA0
          unfold pairAt at hnext
          generalize sideTo bb o s k = pl at *
          generalize leafTo o k = ll at *
          generalize lockS x = lx at *
          generalize tagT 6 [x] = tx at *
          have CA := Lib.hid CA0
          have HbA := Lib.hid hbA
          have HlA := Lib.hid (Own.alloc howl (.cells #[.string x] 9))
          have HoA := Lib.hid (Own.alloc howo (.cells #[.string x] 9))
          have HZA := Lib.hid (And.intro hza hbs)
          have HLN := Lib.hid hlnext
          obtain ⟨h1, h2, h3, h4⟩ := hkeep.out wr hb
          clear CA0 hbA hza howo howl hb hc1 hc2 hx hy hxz hyz hbs hlnext hlk hD
          generalize bitOf (bb : Nat) (k : Nat) = z at *
          have HN := Lib.hid hnext
          clear hnext
          go_wp2_with fail
          refine CA.out.mono ?_
          rintro e w3 ⟨rfl, vo3, hD3, howo3, hbut, ha3⟩
          obtain ⟨hza, hbs⟩ := HZA.out
          have hb3 := hbut.below HbA.out (by omega) hcs (fun k hk => by have := (HoA.out.block k hk).1; omega)
          have howl3 := OwnS.but HlA.out hbut (Nat.lt_succ_self c) hap.out
          have hap3 := Lib.hid (apart_grow hap.out (fun k hk => (HlA.out.block k hk).2) ha3)
          have D3 := Lib.hid hD3
          have Ho3 := Lib.hid howo3
          have Hb3 := Lib.hid hb3
          have hbs3 : c + 1 ≤ w3.heap.size := hD3.lt
          clear h1 h2 h3 h4
          obtain ⟨h1, h2, h3, h4⟩ := hkeep.out w3 hb3
          have hnc := own_ne howl3 (Nat.lt_succ_self c)
          have HNC := Lib.hid hnc
          clear hza hbs hbut ha3 hD3 howo3 hb3 HbA HlA HoA HZA CA hap hnc h1 h3
          by_cases hz : z = 0
          · subst hz
            have HN2 : Hid (sideTo bb o s (k + 1) = pl ++ [lx, y]) := Lib.hid (by rw [HN.out, if_pos rfl])
            go_wp2_with (first | (go_at_call 71; refine (CB.out _).mono ?_; rintro e w' ⟨rfl, rfl⟩) | (at_builtin; refine wpList_push_strs2 _ _ rfl _ _ 24 rfl 9 Tryd.underlying24 Tryd.infoStr _ _ pl rfl howl3 _ [lx, y] rfl 2 2 rfl _ rfl rfl (by omega) hbs3 rfl ?_; intro v4 w4 howl4 hg4 hb4 ha4))
            have F1 := Lib.hid (D3.out.kept hg4 HNC.out)
            have F2 := Own.kept Ho3.out hg4 (apart_symm hap3.out)
            have F3 := Lib.hid (apart_symm (apart_grow (apart_symm hap3.out) (fun k hk => (Ho3.out.block k hk).2) ha4))
            have F4 := Hb3.out.grown hg4 (by omega) (fun k hk => by have := (howl3.block k hk).1; omega)
            exact ⟨⟨k + 1, vo3, by omega, by go_num, F1, by rw [HLN.out]; exact F2, by rw [HN2.out]; exact howl4, F3, F4⟩, by simp [intOf]; omega⟩
          · have e1 : (z == 0) = false := beq_eq_false_iff_ne.2 hz
            have HN2 : Hid (sideTo bb o s (k + 1) = pl ++ [y, lx]) := Lib.hid (by rw [HN.out, if_neg hz])
            clear hz
            go_wp2_with (first | (go_at_call 71; refine (CB.out _).mono ?_; rintro e w' ⟨rfl, rfl⟩) | (at_builtin; refine wpList_push_strs2 _ _ rfl _ _ 24 rfl 9 Tryd.underlying24 Tryd.infoStr _ _ pl rfl howl3 _ [y, lx] rfl 2 2 rfl _ rfl rfl (by omega) hbs3 rfl ?_; intro v4 w4 howl4 hg4 hb4 ha4))
            have F1 := Lib.hid (D3.out.kept hg4 HNC.out)
            have F2 := Own.kept Ho3.out hg4 (apart_symm hap3.out)
            have F3 := Lib.hid (apart_symm (apart_grow (apart_symm hap3.out) (fun k hk => (Ho3.out.block k hk).2) ha4))
            have F4 := Hb3.out.grown hg4 (by omega) (fun k hk => by have := (howl3.block k hk).1; omega)
            exact ⟨⟨k + 1, vo3, by omega, by go_num, F1, by rw [HLN.out]; exact F2, by rw [HN2.out]; exact howl4, F3, F4⟩, by simp [intOf]; omega⟩
        · obtain rfl : k = 8 := by omega
          have hl16 := sideTo_len bb o s 8
          have hl8 := leafTo_len o 8
          obtain ⟨al, cl, rfl, rl⟩ := howl.rd
          have CA0 := add_any 6 (by decide) al cl (sideTo bb o s 8) (by omega) (fun z hz => by have := LZ.out z hz; omega) (c + 1) c vo (leafTo o 8) (by omega) W1 wr (by omega) (Nat.lt_succ_self c) (by rw [HZ.out]; exact hcs) (toW.out _ hb) rl hD.out howo HTB.out
          rw [← HK.out] at CA0
          have HOO := Lib.hid howo
          generalize sideTo bb o s 8 = pl at *
          have hS0 := S0.out
          generalize leafTo o 8 = ll at *
          rw [← hS0] at CA0
          have CA := Lib.hid CA0
          have Hb := Lib.hid hb
          clear CA0 howl hb rl hl16 hl8 hap howo hS0 hD
          go_wp2_with fail
          refine CA.out.mono ?_
          rintro e w3 ⟨rfl, vo3, hD3, howo3, hbut, ha3⟩
          have hb3 := hbut.below Hb.out (by omega) hcs (fun k hk => by have := (HOO.out.block k hk).1; omega)
          have D3 := Lib.hid hD3
          obtain ⟨_, _, _, h3⟩ := K0.out w3 hb3
          clear hbut ha3 hD3 Hb HOO CA
          go_wp2_with fail
          clear h3
          go_loopw [11, 65] (fun vh i wr => ∃ (j : Nat) (vo : Value), j ≤ 4 ∧ i = .int .i64 j ∧ vh = .string (cutT (climbT q d key j)) ∧ Hid (Blk wr c 24 [vo]) ∧ OwnS wr (c + 1) vo (st j) ∧ Below (w.heap.size + 1) W1 wr) (fun _ i _ => 4 - (intOf i).toNat)
          case atStart => exact ⟨0, _, by omega, rfl, rfl, D3, howo3, hb3⟩
          case round =>
            obtain ⟨j, vo4, hj, rfl, rfl, hD, howo, hb⟩ := hrel
            have hbs := hD.out.lt
            by_cases hlt : j < 4
            · obtain ⟨x, hx, hxz⟩ := DZ.out j hlt
              have hnext := climbT_next (p := q) (t0 := key) hx
              have hstn := SN.out j
              have hcz := cutT_size (climbT q d key j)
              have hsl := SS.out j
              have hsh := shift_bit q j (by omega) hlt
              obtain ⟨b3, f3, rfl, hc3⟩ := R3.out j x hx
              have hc3w : wr.cell? ⟨b3, f3 + j, none⟩ = some (.string x) := (hb.cell (p := ⟨b3, f3 + j, none⟩) (by rw [← HZ.out]; exact World.block_lt_of_cell? _ _ hc3)).trans hc3
              obtain ⟨h0, _, _, _⟩ := K0.out wr hb
              have i0 : (0 : Int) ≤ (j : Int) := Int.natCast_nonneg _
              have i1 : (j : Int) < 4 := by omega
              have hza1 := alloc_size wr (.cells #[.string (cutT (climbT q d key j)), .string x] 9)
              have hza2 := alloc_size wr (.cells #[.string x, .string (cutT (climbT q d key j))] 9)
              have hbA1 := hb.alloc (by omega) (.cells #[.string (cutT (climbT q d key j)), .string x] 9)
              have hbA2 := hb.alloc (by omega) (.cells #[.string x, .string (cutT (climbT q d key j))] 9)
              have C1 := add_any 3 (by decide) (some ⟨wr.heap.size, 0, none⟩) 2 [cutT (climbT q d key j), x] (by simp) (by intro z hz; simp at hz; rcases hz with rfl | rfl <;> omega) (c + 1) c vo4 (st j) (by omega) W1 (wr.alloc (.cells #[.string (cutT (climbT q d key j)), .string x] 9)) (by omega) (Nat.lt_succ_self c) (by rw [HZ.out]; exact hcs) (toW.out _ hbA1) (rdS_two wr _ x 9) (hD.out.alloc _) (Own.alloc howo _) HTB.out
              have C2 := add_any 3 (by decide) (some ⟨wr.heap.size, 0, none⟩) 2 [x, cutT (climbT q d key j)] (by simp) (by intro z hz; simp at hz; rcases hz with rfl | rfl <;> omega) (c + 1) c vo4 (st j) (by omega) W1 (wr.alloc (.cells #[.string x, .string (cutT (climbT q d key j))] 9)) (by omega) (Nat.lt_succ_self c) (by rw [HZ.out]; exact hcs) (toW.out _ hbA2) (rdS_two wr x _ 9) (hD.out.alloc _) (Own.alloc howo _) HTB.out
              generalize cutT (climbT q d key j) = hh at *
              generalize st j = sj at *
              generalize q / 2 ^ j = m at *
              have D1 := Lib.hid C1
              have D2 := Lib.hid C2
              have HN := Lib.hid hnext
              have HSN := Lib.hid hstn
              have HA1 := Lib.hid (And.intro hza1 hbA1)
              have HA2 := Lib.hid (And.intro hza2 hbA2)
              have HO1 := Lib.hid (Own.alloc howo (.cells #[.string hh, .string x] 9))
              have HO2 := Lib.hid (Own.alloc howo (.cells #[.string x, .string hh] 9))
              have HBS := Lib.hid hbs
              clear C1 C2 hnext hstn hza1 hza2 hbA1 hbA2 howo hb hcz hxz hx hbs hsl hc3 hD
              by_cases hm : m % 2 = 0
              · have hs0 : bits BinOp.and IntKind.i64 ((q : Int) / 2 ^ j) 1 = 0 := by rw [hsh, hm]; rfl
                have HN2 : Hid (climbT q d key (j + 1) = tagT 3 [hh, x]) := Lib.hid (by rw [HN.out, nodeT, if_pos hm])
                clear hm hsh
                go_wp2_with fail
                refine D1.out.mono ?_
                rintro e w5 ⟨rfl, vo5, hD5, howo5, hbut, ha5⟩
                obtain ⟨hza, hbA⟩ := HA1.out
                have hbs := HBS.out
                have F4 := Lib.hid (hbut.below hbA (by omega) hcs (fun k hk => by have := (HO1.out.block k hk).1; omega))
                have F1 := Lib.hid hD5
                have F2 := Lib.hid howo5
                clear hbut ha5 hD5 howo5 hza hbA hbs h0 hc3w
                go_wp2_with fail
                exact ⟨⟨j + 1, vo5, by omega, by go_num, by rw [HN2.out], F1, by rw [HSN.out, HN2.out]; exact F2.out, F4.out⟩, by simp [intOf]; omega⟩
              · have hs0 : bits BinOp.and IntKind.i64 ((q : Int) / 2 ^ j) 1 = 1 := by rw [hsh]; omega
                have HN2 : Hid (climbT q d key (j + 1) = tagT 3 [x, hh]) := Lib.hid (by rw [HN.out, nodeT, if_neg hm])
                clear hm hsh
                go_wp2_with fail
                refine D2.out.mono ?_
                rintro e w5 ⟨rfl, vo5, hD5, howo5, hbut, ha5⟩
                obtain ⟨hza, hbA⟩ := HA2.out
                have hbs := HBS.out
                have F4 := Lib.hid (hbut.below hbA (by omega) hcs (fun k hk => by have := (HO2.out.block k hk).1; omega))
                have F1 := Lib.hid hD5
                have F2 := Lib.hid howo5
                clear hbut ha5 hD5 howo5 hza hbA hbs h0 hc3w
                go_wp2_with fail
                exact ⟨⟨j + 1, vo5, by omega, by go_num, by rw [HN2.out], F1, by rw [HSN.out, HN2.out]; exact F2.out, F4.out⟩, by simp [intOf]; omega⟩
            · obtain rfl : j = 4 := by omega
              have h5 : wr.cell? ⟨c, 0, none⟩ = some vo4 := hD.out.cell 0
              have HG5 := Lib.hid (HB.out.trans (hb.mono (Nat.le_succ _)))
              have HO := Lib.hid (howo.mono (by omega : w.heap.size ≤ c + 1))
              obtain ⟨q5, m5, rfl⟩ := Own.shape howo
              clear howo
              go_wp2_with fail
              go_ret
              exact ⟨⟨_, rfl, HO.out⟩, HG5.out⟩
    · have HF := Lib.hid (sigTexts_no (fun h2 : SigGood t p o s d => hg h2.2))
      have hgt : (200 : Int) < (t.size : Int) := by omega
      clear r1 r2 r3 hB hg hf CF hz hT
      go_enter Tryd.func36, Tryd.ntmps36
      go_wp2_with fail
      refine DF.out.mono ?_
      rintro e w1 ⟨rfl, hb1⟩
      have HG := Lib.hid (HB.out.trans (hb1.mono HB.out.size))
      clear hb1
      go_wp2_with fail
      go_ret
      exact ⟨⟨_, rfl, by rw [HF.out]; exact OwnS.nil _ _⟩, HG.out⟩
  · rw [decide_eq_false hf] at CF
    have DF := Lib.hid CF
    have HF := Lib.hid (sigTexts_no (fun h2 : SigGood t p o s d => hf h2.1))
    clear r1 r2 r3 hB hf CF hz hT
    go_enter Tryd.func36, Tryd.ntmps36
    go_wp2_with fail
    refine DF.out.mono ?_
    rintro e w1 ⟨rfl, hb1⟩
    have HG := Lib.hid (HB.out.trans (hb1.mono HB.out.size))
    clear hb1
    go_wp2_with fail
    go_ret
    exact ⟨⟨_, rfl, by rw [HF.out]; exact OwnS.nil _ _⟩, HG.out⟩


set_option maxHeartbeats 1000000 in
set_option maxRecDepth 100000 in
theorem iSigOk_any (r t : ByteArray) (ht : t.size ≤ 1048576) (v : Value) (p : Int) (o s d : List ByteArray) (w : World) (ho : o.length ≤ 1048576) (hs : s.length ≤ 1048576) (hd : d.length ≤ 1048576) (ho' : ∀ x ∈ o, x.size ≤ 1048576) (hs' : ∀ x ∈ s, x.size ≤ 1048576) (hd' : ∀ x ∈ d, x.size ≤ 1048576) (h : RdSig w v p o s d) (hT : YtcehbmlibfalaaaDoorTabs w) :
    Calls Tryd.prog 33 #[.string r, .string t, v] w fun e w' => e = .returned (.bool (sigOk r t p o s d)) ∧ Below w.heap.size w w' := by
  obtain ⟨a1, c1, a2, c2, a3, c3, rfl, r1, r2, r3⟩ := h
  have hB := (Below.refl w.heap.size w).alloc (Nat.le_refl _) (.cells #[.int .i64 p, .slice a1 o.length c1, .slice a2 s.length c2, .slice a3 d.length c3] 46)
  have CS0 := iSigTexts_any t ht _ p o s d _ ho hs hd ho' hs' hd' ⟨a1, c1, a2, c2, a3, c3, rfl, r1.below hB (Nat.le_refl _), r2.below hB (Nat.le_refl _), r3.below hB (Nat.le_refl _)⟩ (hT.below hB (Nat.le_refl _))
  have HTB := Lib.hid hT
  have HB := Lib.hid hB
  by_cases hg : SigGood t p o s d
  · rw [sigOk_yes hg]
    rw [sigTexts_yes hg] at CS0
    have hlast := sigTo_last t p o s d 4
    have hlen := sigTo_len t p o s d 4
    have hsz := sigTo_size t p o s d 4
    have hroot : sigRoot t p o s d 4 = cutT (climbT p.toNat d (keyT t o s) 4) := rfl
    rw [hroot]
    obtain ⟨u, hu⟩ : ∃ u, u = 8 + 4 := ⟨_, rfl⟩
    rw [← hu] at hlast
    obtain ⟨u0, u1, u2, u3, u4, hsl13⟩ := last_ix _ 4 u hlen hu (Nat.le_refl _)
    have hl0 : (0 : Int) < ((sigTo t p o s d 4).length : Int) := by omega
    generalize climbT p.toNat d (keyT t o s) 4 = x at *
    have hx := hsz x (List.mem_of_getElem? hlast)
    have CC0 := fun wx hw => iCutDigest_any x (by omega) 16 wx hw
    have hcut : txt (cutL x.data.toList 16) = cutT x := rfl
    rw [hcut] at CC0
    generalize cutT x = rr at *
    have HS := Lib.hid (same_dec rr r)
    have CS := Lib.hid CS0
    have CC := Lib.hid CC0
    have HLast := Lib.hid hlast
    clear CS0 CC0 hcut hlen hsz hroot hsl13 hx hg hlast hu r1 r2 r3 hB ho hs hd ho' hs' hd' hT
    generalize sigTo t p o s d 4 = T at *
    go_enter Tryd.func33, Tryd.ntmps33
    go_wp2_with fail
    refine CS.out.mono ?_
    rintro e w1 ⟨⟨v1, rfl, ho1⟩, hb1⟩
    obtain ⟨al, cl, rfl, rl⟩ := ho1.rd
    obtain ⟨bl, fl, rfl, hc⟩ := rl u x HLast.out
    have HB1 := Lib.hid (HB.out.trans (hb1.mono HB.out.size))
    clear ho1 rl hb1
    go_wp2_with fail
    refine (CC.out w1 (HTB.out.below HB1.out (Nat.le_refl _))).mono ?_
    rintro e w2 ⟨rfl, hb2⟩
    have HB2 := Lib.hid (HB1.out.trans (hb2.mono HB1.out.size))
    clear hb2
    go_wp2_with fail
    go_ret
    exact ⟨by rw [← HS.out]; rfl, HB2.out⟩
  · have HF := Lib.hid (sigOk_no (r := r) hg)
    rw [sigTexts_no hg] at CS0
    have CS := Lib.hid CS0
    clear CS0 r1 r2 r3 hB ho hs hd ho' hs' hd' hg hT
    go_enter Tryd.func33, Tryd.ntmps33
    go_wp2_with fail
    refine CS.out.mono ?_
    rintro e w1 ⟨⟨v1, rfl, ho1⟩, hb1⟩
    obtain ⟨al, cl, rfl, rl⟩ := ho1.rd
    have HB1 := Lib.hid (HB.out.trans (hb1.mono HB.out.size))
    clear ho1 rl hb1
    go_wp2_with fail
    go_ret
    exact ⟨by rw [HF.out]; rfl, HB1.out⟩

end Go.Proofs.YtcehbmlibfalaaaDoor
