/-
  The walk of the reference's test of a signature.
-/
import Derived.Test.YtcehbmlibfalaaaDoorJSig6
import Derived.Test.YtcehbmlibfalaaaDoorJSha6
import Derived.Test.YtcehbmlibfalaaaDoorBase4
namespace Go.Proofs.YtcehbmlibfalaaaDoor
open Go.RowKit

theorem int_even {m : Nat} (h : m % 2 = 0) : ((m : Int).tmod 2 == 0) = true ∧ ((m : Int) % 2 == 0) = true ∧ ((m : Int).tmod 2 == 1) = false ∧ ((m : Int) % 2 == 1) = false := by
  have e : (m : Int).tmod 2 = (m : Int) % 2 := Int.tmod_eq_emod_of_nonneg (by omega)
  have e2 : (m : Int) % 2 = 0 := by omega
  rw [e, e2]; decide
theorem int_odd {m : Nat} (h : m % 2 ≠ 0) : ((m : Int).tmod 2 == 0) = false ∧ ((m : Int) % 2 == 0) = false ∧ ((m : Int).tmod 2 == 1) = true ∧ ((m : Int) % 2 == 1) = true := by
  have e : (m : Int).tmod 2 = (m : Int) % 2 := Int.tmod_eq_emod_of_nonneg (by omega)
  have e2 : (m : Int) % 2 = 1 := by omega
  rw [e, e2]; decide
theorem int_half (m : Nat) : (m : Int).tdiv 2 = ((m / 2 : Nat) : Int) ∧ (m : Int) / 2 = ((m / 2 : Nat) : Int) := by
  constructor
  · rw [Int.tdiv_eq_ediv_of_nonneg (by omega)]; omega
  · omega
theorem wrap_half (m : Nat) (h : m ≤ 15) : IntKind.i64.wrap ((m : Int).tdiv 2) = ((m / 2 : Nat) : Int) := by rw [(int_half m).1]; exact IntWalk.i64_in _ ⟨by omega, by omega⟩
theorem same_dec (x y : ByteArray) : (x.toList == y.toList) = decide (x = y) := by
  by_cases h : x = y
  · subst h; simp
  · rw [decide_eq_false h, same_bytes]; simp; exact fun h2 => h (ByteArray.ext h2)
theorem pow_half (q j : Nat) : q / 2 ^ j / 2 = q / 2 ^ (j + 1) := by rw [Nat.div_div_eq_div_mul, Nat.pow_succ]

set_option maxHeartbeats 1000000 in
set_option maxRecDepth 100000 in
theorem sSigOk_any (r t : ByteArray) (ht : t.size ≤ 1048576) (v : Value) (p : Int) (o s d : List ByteArray) (w : World) (ho : o.length ≤ 1048576) (hs : s.length ≤ 1048576) (hd : d.length ≤ 1048576) (ho' : ∀ x ∈ o, x.size ≤ 1048576) (hs' : ∀ x ∈ s, x.size ≤ 1048576) (hd' : ∀ x ∈ d, x.size ≤ 1048576) (h : RdSig w v p o s d) :
    Calls Tryd.prog 31 #[.string r, .string t, v] w fun e w' => e = .returned (.bool (sigOk r t p o s d)) ∧ Below w.heap.size w w' := by
  obtain ⟨a1, c1, a2, c2, a3, c3, rfl, r1, r2, r3⟩ := h
  have hz := alloc_size w (.cells #[.int .i64 p, .slice a1 o.length c1, .slice a2 s.length c2, .slice a3 d.length c3] 46)
  have hB := (Below.refl w.heap.size w).alloc (Nat.le_refl _) (.cells #[.int .i64 p, .slice a1 o.length c1, .slice a2 s.length c2, .slice a3 d.length c3] 46)
  have CF := sForm_any _ p o s d _ ho hs hd ho' hs' hd' ⟨a1, c1, a2, c2, a3, c3, rfl, r1.below hB (Nat.le_refl _), r2.below hB (Nat.le_refl _), r3.below hB (Nat.le_refl _)⟩
  have HB := Lib.hid hB
  have HZ := Lib.hid hz
  by_cases hf : SigForm p o s d
  · rw [decide_eq_true hf] at CF
    have DF := Lib.hid CF
    by_cases hg : t.size ≤ 200
    · rw [sigOk_yes ⟨hf, hg⟩]
      have CB := Lib.hid (fun wx => sSignBitsOf_any t ht wx)
      have k0 : ∀ W, Below (w.heap.size + 1) (w.alloc (.cells #[.int .i64 p, .slice a1 o.length c1, .slice a2 s.length c2, .slice a3 d.length c3] 46)) W →
          W.cell? ⟨w.heap.size, 0, none⟩ = some (.int .i64 p) ∧ W.cell? ⟨w.heap.size, 1, none⟩ = some (.slice a1 o.length c1) ∧ W.cell? ⟨w.heap.size, 2, none⟩ = some (.slice a2 s.length c2) ∧ W.cell? ⟨w.heap.size, 3, none⟩ = some (.slice a3 d.length c3) := by
        intro W hW
        refine ⟨?_, ?_, ?_, ?_⟩ <;> refine (hW.cell (by simp)).trans ?_ <;> simp
      have K0 := Lib.hid k0
      have R1 := Lib.hid (r1.below hB (Nat.le_refl _))
      have R2 := Lib.hid (r2.below hB (Nat.le_refl _))
      have R3 := Lib.hid (r3.below hB (Nat.le_refl _))
      obtain ⟨hp, ⟨ol, oz⟩, ⟨sl, sz⟩, dl, dz⟩ := hf
      have OZ : Hid (∀ k, k < 8 → ∃ x, o[k]? = some x ∧ x.size = 16) := Lib.hid fun k hk => ⟨_, List.getElem?_eq_getElem (by omega), oz _ (List.getElem_mem _)⟩
      have SZ : Hid (∀ k, k < 8 → ∃ x, s[k]? = some x ∧ x.size = 16) := Lib.hid fun k hk => ⟨_, List.getElem?_eq_getElem (by omega), sz _ (List.getElem_mem _)⟩
      have DZ : Hid (∀ k, k < 4 → ∃ x, d[k]? = some x ∧ x.size = 16) := Lib.hid fun k hk => ⟨_, List.getElem?_eq_getElem (by omega), dz _ (List.getElem_mem _)⟩
      have LZ := Lib.hid (sideTo_size (b := (signB t : Nat)) (o := o) sz 8 (by omega))
      generalize hkey : keyT t o s = key
      have HK : Hid (key = tagT 6 (sideTo (signB t : Nat) o s 8)) := Lib.hid hkey.symm
      have HR : Hid (sigRoot t p o s d 4 = cutT (climbT p.toNat d key 4)) := Lib.hid (by rw [← hkey]; rfl)
      generalize sigRoot t p o s d 4 = root at *
      generalize signB t = bb at *
      obtain ⟨q, rfl⟩ : ∃ q : Nat, p = (q : Int) := ⟨p.toNat, by omega⟩
      rw [Int.toNat_natCast] at HR
      clear r1 r2 r3 hB hkey k0 ho' hs' hd' oz sz dz CF hz
      generalize o.length = n1 at *
      generalize s.length = n2 at *
      generalize d.length = n3 at *
      subst ol
      subst sl
      subst dl
      go_enter Tryd.func31, Tryd.ntmps31
      go_wp2_with fail
      refine DF.out.mono ?_
      rintro e w1 ⟨rfl, hb1⟩
      rw [HZ.out] at hb1
      have G1 := Lib.hid hb1
      clear hb1
      go_wp2_with fail
      refine (CB.out w1).mono ?_
      rintro e w2 ⟨rfl, hb2⟩
      have hs1 := G1.out.size
      have G2 := Lib.hid (G1.out.trans (hb2.mono (by rw [HZ.out] at hs1; exact hs1)))
      clear hb2 hs1
      go_wp2_with fail
      have HT : Hid (t.size ≤ 200) := Lib.hid hg
      generalize w.alloc (.cells #[.int .i64 (q : Int), .slice a1 8 c1, .slice a2 8 c2, .slice a3 4 c3] 46) = W1 at *
      generalize Value.bool (decide ((200 : Int) < (t.size : Int))) = q26 at *
      have hs2 := G2.out.size
      rw [HZ.out] at hs2
      have hE := OwnS.empty w2 (w.heap.size + 1) 9 hs2
      have hG := G2.out.alloc hs2 (.cells #[] 9)
      clear hg ht DF CB G1 G2
      go_loopw [8, 9] (fun vl i wr => ∃ k : Nat, k ≤ 8 ∧ i = .int .i64 k ∧ OwnS wr (w.heap.size + 1) vl (sideTo bb o s k) ∧ Below (w.heap.size + 1) W1 wr) (fun _ i _ => 8 - (intOf i).toNat)
      case atStart => exact ⟨0, by omega, rfl, hE, hG⟩
      case round =>
        obtain ⟨k, hk, rfl, hown, hb⟩ := hrel
        have hbs := hb.size
        rw [HZ.out] at hbs
        by_cases hlt : k < 8
        · obtain ⟨x, hx, hxz⟩ := OZ.out k hlt
          obtain ⟨y, hy, hyz⟩ := SZ.out k hlt
          have hnext := sideTo_next (b := (bb : Nat)) hx hy
          have CL0 := sLockOf_any x (by omega) wr
          rw [lockS_eq (by omega)] at CL0
          have CB := Lib.hid (fun wx => sBitOf_any (bb : Nat) (k : Nat) wx)
          have hpl : (sideTo bb o s k).length ≤ 16 := by rw [sideTo_len]; omega
          obtain ⟨b1, f1, rfl, hc1⟩ := (R1.out.below hb (by rw [HZ.out]; exact Nat.le_refl _)) k x hx
          obtain ⟨b2, f2, rfl, hc2⟩ := (R2.out.below hb (by rw [HZ.out]; exact Nat.le_refl _)) k y hy
          obtain ⟨_, h1, h2, _⟩ := K0.out wr hb
          have i0 : (0 : Int) ≤ (k : Int) := Int.natCast_nonneg _
          have i1 : (k : Int) < 8 := by omega
          unfold pairAt at hnext
          generalize sideTo bb o s k = pl at *
          generalize lockS x = lx at *
          have CL := Lib.hid CL0
          have Ho := Lib.hid hown
          have Hb := Lib.hid hb
          have Hbs := Lib.hid hbs
          have HC2 := Lib.hid hc2
          have HXZ := Lib.hid (And.intro hxz hyz)
          have HX := Lib.hid (And.intro hx hy)
          clear CL0 hown hb hc2 hx hy hxz hyz hbs
          generalize bitOf (bb : Nat) (k : Nat) = z at *
          have HN := Lib.hid hnext
          clear hnext
          go_wp2_with fail
          refine CL.out.mono ?_
          rintro e w3 ⟨rfl, hb3⟩
          have hbs3 := hb3.size
          have Hb' := Lib.hid (Hb.out.trans (hb3.mono Hbs.out))
          have own3 := Ho.out.below hb3 (Nat.le_refl _)
          have hc3 : w3.cell? ⟨b2, f2 + k, none⟩ = some (.string y) := (hb3.cell (p := ⟨b2, f2 + k, none⟩) (World.block_lt_of_cell? _ _ HC2.out)).trans HC2.out
          have hB3 : w.heap.size + 1 ≤ w3.heap.size := Nat.le_trans Hbs.out hbs3
          clear h1 h2 hc1
          obtain ⟨_, h1, h2, _⟩ := K0.out w3 Hb'.out
          clear hb3 hbs3
          by_cases hz : z = 0
          · subst hz
            have HN2 : Hid (sideTo bb o s (k + 1) = pl ++ [lx, y]) := Lib.hid (by rw [HN.out, if_pos rfl])
            go_wp2_with (first | (go_at_call 68; refine (CB.out _).mono ?_; rintro e w' ⟨rfl, rfl⟩) | (at_builtin; refine wpList_push_strs _ _ rfl _ _ 24 rfl 9 Tryd.underlying24 Tryd.infoStr _ _ pl rfl own3 _ [lx, y] rfl 2 2 rfl _ rfl rfl (by omega) hB3 rfl ?_; intro v4 w4 hown4 hg4 hb4))
            exact ⟨⟨k + 1, by omega, by go_num, by rw [HN2.out]; exact hown4, Hb'.out.trans hb4⟩, by simp [intOf]; omega⟩
          · have e1 : (z == 0) = false := beq_eq_false_iff_ne.2 hz
            have HN2 : Hid (sideTo bb o s (k + 1) = pl ++ [y, lx]) := Lib.hid (by rw [HN.out, if_neg hz])
            clear hz
            go_wp2_with (first | (go_at_call 68; refine (CB.out _).mono ?_; rintro e w' ⟨rfl, rfl⟩) | (at_builtin; refine wpList_push_strs _ _ rfl _ _ 24 rfl 9 Tryd.underlying24 Tryd.infoStr _ _ pl rfl own3 _ [y, lx] rfl 2 2 rfl _ rfl rfl (by omega) hB3 rfl ?_; intro v4 w4 hown4 hg4 hb4))
            exact ⟨⟨k + 1, by omega, by go_num, by rw [HN2.out]; exact hown4, Hb'.out.trans hb4⟩, by simp [intOf]; omega⟩
        · obtain rfl : k = 8 := by omega
          have hl16 := sideTo_len bb o s 8
          obtain ⟨al, cl, rfl, rl⟩ := hown.rd
          have CT0 := sTagHash_any 6 al cl (sideTo bb o s 8) 16 wr (by omega) (fun z hz => by have := LZ.out z hz; omega) rl
          rw [hash_cutT (by decide) (by omega) (fun z hz => by have := LZ.out z hz; omega), ← HK.out] at CT0
          generalize sideTo bb o s 8 = pl at *
          have CT := Lib.hid CT0
          have Hb := Lib.hid hb
          clear CT0 hown hb rl hl16
          go_wp2_with fail
          refine CT.out.mono ?_
          rintro e w3 ⟨rfl, hb3⟩
          have hG3 := Hb.out.trans (hb3.mono hbs)
          obtain ⟨h0, _, _, _⟩ := K0.out w3 hG3
          clear hb3 CT Hb
          go_wp2_with fail
          clear h0 hbs
          go_loopw [11, 12, 13] (fun vn vk i wr => ∃ j : Nat, j ≤ 4 ∧ i = .int .i64 j ∧ vk = .int .i64 (q / 2 ^ j : Nat) ∧ vn = .string (cutT (climbT q d key j)) ∧ Below (w.heap.size + 1) W1 wr) (fun _ _ i _ => 4 - (intOf i).toNat)
          case atStart => exact ⟨0, by omega, rfl, by simp, rfl, hG3⟩
          case round =>
            obtain ⟨j, hj, rfl, rfl, rfl, hb⟩ := hrel
            have hbs := hb.size
            rw [HZ.out] at hbs
            by_cases hlt : j < 4
            · obtain ⟨x, hx, hxz⟩ := DZ.out j hlt
              have hnext := climbT_next (p := q) (t0 := key) hx
              have hcz := cutT_size (climbT q d key j)
              have hqj : q / 2 ^ j ≤ 15 := Nat.le_trans (Nat.div_le_self _ _) (by omega)
              have hph := pow_half q j
              obtain ⟨b3, f3, rfl, hc3⟩ := (R3.out.below hb (by rw [HZ.out]; exact Nat.le_refl _)) j x hx
              obtain ⟨_, _, _, h3⟩ := K0.out wr hb
              generalize cutT (climbT q d key j) = hh at *
              generalize q / 2 ^ j = m at *
              have i0 : (0 : Int) ≤ (j : Int) := Int.natCast_nonneg _
              have i1 : (j : Int) < 4 := by omega
              have i2 : (0 : Int) ≤ (m : Int) := Int.natCast_nonneg _
              have C1 := sTagHash_any 3 (some ⟨wr.heap.size, 0, none⟩) 2 [hh, x] 16 (wr.alloc (.cells #[.string hh, .string x] 9)) (by simp) (by intro z hz; simp at hz; rcases hz with rfl | rfl <;> omega) (rdS_two wr hh x 9)
              have C2 := sTagHash_any 3 (some ⟨wr.heap.size, 0, none⟩) 2 [x, hh] 16 (wr.alloc (.cells #[.string x, .string hh] 9)) (by simp) (by intro z hz; simp at hz; rcases hz with rfl | rfl <;> omega) (rdS_two wr x hh 9)
              rw [hash_cutT (by decide) (by simp) (by intro z hz; simp at hz; rcases hz with rfl | rfl <;> omega)] at C1 C2
              rw [alloc_size] at C1 C2
              have D1 := Lib.hid C1
              have D2 := Lib.hid C2
              have HN := Lib.hid hnext
              have HPH := Lib.hid hph
              have Hb := Lib.hid hb
              have Hbs := Lib.hid hbs
              have q1 := wrap_half m hqj
              clear C1 C2 hnext hph hb hcz hxz hx hbs
              by_cases hm : m % 2 = 0
              · obtain ⟨e1, e2, _, _⟩ := int_even hm
                have HN2 : Hid (climbT q d key (j + 1) = tagT 3 [hh, x]) := Lib.hid (by rw [HN.out, nodeT, if_pos hm])
                have HM := Lib.hid hm
                clear hm
                go_wp2_with fail
                refine D1.out.mono ?_
                rintro e w4 ⟨rfl, hb4⟩
                have hG4 := Hb.out.trans (((Below.refl wr.heap.size wr).alloc (Nat.le_refl _) (.cells #[.string hh, .string x] 9)).trans (hb4.mono (Nat.le_succ _)) |>.mono Hbs.out)
                go_wp2_with fail
                exact ⟨⟨j + 1, by omega, by go_num, by rw [← HPH.out]; rfl, by rw [HN2.out], hG4⟩, by simp [intOf]; omega⟩
              · obtain ⟨e1, e2, _, _⟩ := int_odd hm
                have HN2 : Hid (climbT q d key (j + 1) = tagT 3 [x, hh]) := Lib.hid (by rw [HN.out, nodeT, if_neg hm])
                have HM := Lib.hid hm
                clear hm
                go_wp2_with fail
                refine D2.out.mono ?_
                rintro e w4 ⟨rfl, hb4⟩
                have hG4 := Hb.out.trans (((Below.refl wr.heap.size wr).alloc (Nat.le_refl _) (.cells #[.string x, .string hh] 9)).trans (hb4.mono (Nat.le_succ _)) |>.mono Hbs.out)
                go_wp2_with fail
                exact ⟨⟨j + 1, by omega, by go_num, by rw [← HPH.out]; rfl, by rw [HN2.out], hG4⟩, by simp [intOf]; omega⟩
            · obtain rfl : j = 4 := by omega
              obtain ⟨_, _, _, h3⟩ := K0.out wr hb
              rw [← HR.out]
              have HG5 := Lib.hid (HB.out.trans (hb.mono (Nat.le_succ _)))
              go_wp2_with fail
              go_ret
              have HS := Lib.hid (same_dec root r)
              exact ⟨by rw [← HS.out]; rfl, HG5.out⟩
    · have HF := Lib.hid (sigOk_no (r := r) (fun h2 : SigGood t p o s d => hg h2.2))
      have hgt : (200 : Int) < (t.size : Int) := by omega
      clear r1 r2 r3 hB hg hf CF hz
      go_enter Tryd.func31, Tryd.ntmps31
      go_wp2_with fail
      refine DF.out.mono ?_
      rintro e w1 ⟨rfl, hb1⟩
      have HG := Lib.hid (HB.out.trans (hb1.mono HB.out.size))
      clear hb1
      go_wp2_with fail
      go_ret
      exact ⟨by rw [HF.out]; rfl, HG.out⟩
  · rw [decide_eq_false hf] at CF
    have DF := Lib.hid CF
    have HF := Lib.hid (sigOk_no (r := r) (fun h2 : SigGood t p o s d => hf h2.1))
    clear r1 r2 r3 hB hf CF hz
    go_enter Tryd.func31, Tryd.ntmps31
    go_wp2_with fail
    refine DF.out.mono ?_
    rintro e w1 ⟨rfl, hb1⟩
    have HG := Lib.hid (HB.out.trans (hb1.mono HB.out.size))
    clear hb1
    go_wp2_with fail
    go_ret
    exact ⟨by rw [HF.out]; rfl, HG.out⟩

end Go.Proofs.YtcehbmlibfalaaaDoor
