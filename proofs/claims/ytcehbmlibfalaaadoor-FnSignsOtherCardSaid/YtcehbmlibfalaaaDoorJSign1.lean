/-
  The walks of signing a text, on both sides.
-/
import Derived.Test.YtcehbmlibfalaaaDoorJPool3
import Derived.Test.YtcehbmlibfalaaaDoorBase7
import Derived.Test.YtcehbmlibfalaaaDoorBase4
import Derived.Test.YtcehbmlibfalaaaDoorJBits
namespace Go.Proofs.YtcehbmlibfalaaaDoor
open Go.RowKit

set_option maxHeartbeats 8000000 in
set_option maxRecDepth 100000 in
theorem sSignText_any (s : ByteArray) (ap : Option Addr) (cp : Nat) (l : List ByteArray) (a : Int) (t : ByteArray) (w : World) (hs : s.size ≤ 1048576) (ht : t.size ≤ 1048576) (hz : ∀ x ∈ l, x.size ≤ 1048576) (hr : RdS w ap l) :
    Calls Tryd.prog 38 #[.string s, .slice ap l.length cp, .int .i64 a, .string t] w fun e w' => GivesSig2 w.heap.size (signR s l a t) e w' ∧ Below w.heap.size w w' := by
  have hz1 := alloc_size w (.cells #[.int .i64 0, .slice none 0 0, .slice none 0 0, .slice none 0 0] 46)
  have hB := (Below.refl w.heap.size w).alloc (Nat.le_refl _) (.cells #[.int .i64 0, .slice none 0 0, .slice none 0 0, .slice none 0 0] 46)
  have b1 := Blk.new w 46 [.int .i64 0, .slice none 0 0, .slice none 0 0, .slice none 0 0] _ rfl
  have R := Lib.hid (fun W (hW : Below w.heap.size w W) => hr.below hW (Nat.le_refl _))
  have CN := Lib.hid (fun wx => l01In_any a 0 15 wx)
  have HB := Lib.hid hB
  have HZ := Lib.hid hz1
  have B1 := Lib.hid b1
  have HS := Lib.hid hz
  clear hr hB b1 hz1 hz
  by_cases hf : l.length = 16 ∧ (0 ≤ a ∧ a ≤ 15) ∧ t.size ≤ 200
  · obtain ⟨hl16, ⟨a0, a1⟩, ht2⟩ := hf
    obtain ⟨m, rfl⟩ := Int.eq_ofNat_of_zero_le a0
    have hm : m < 16 := by omega
    have hwn : within (m : Int) 0 15 = true := within_yes ⟨a0, a1⟩
    simp only [hwn] at CN
    obtain ⟨x, hx⟩ : ∃ x, l[m]? = some x := ⟨_, List.getElem?_eq_getElem (by omega)⟩
    have CP := Lib.hid (sPublicOf_any s hs (m : Nat) (w.alloc (.cells #[.int .i64 0, .slice none 0 0, .slice none 0 0, .slice none 0 0] 46)))
    have HP16 : Hid (s.size ≤ 100 → (pubL s (m : Nat)).length = 16) := Lib.hid (fun h => by
      rw [pubL_yes ⟨h, by omega, by omega⟩]
      obtain ⟨r, hr⟩ := tagL_few (k := 6) (by decide) (ps := pubLocks s (m : Nat) 16) (by rw [pubLocks_len]; decide) (fun p hp => by have := pubLocks_size s (m : Nat) 16 p hp; omega)
      unfold hashT; rw [hr]; exact cutL_length (by decide))
    have i0 : (0 : Int) ≤ (m : Int) := Int.natCast_nonneg _
    have i1 : (m : Int) < (l.length : Int) := by omega
    have hne16 : ((l.length : Int) != 16) = false := by rw [hl16]; rfl
    have hgt : ¬ (200 : Int) < (t.size : Int) := by omega
    go_enter Tryd.func38, Tryd.ntmps38
    go_wp2_with fail
    refine (CN.out _).mono ?_
    rintro e w' ⟨rfl, rfl⟩
    go_wp2_with fail
    generalize w.alloc (.cells #[.int .i64 0, .slice none 0 0, .slice none 0 0, .slice none 0 0] 46) = W0 at *
    refine CP.out.mono ?_
    rintro e w1 ⟨rfl, hb1⟩
    have hz0 := HZ.out
    have B1' := Lib.hid (B1.out.below hb1 B1.out.lt)
    have HB1 := Lib.hid (HB.out.trans (hb1.mono HB.out.size))
    have hs1 := hb1.size
    obtain ⟨b, o, rfl, hc⟩ := (R.out _ HB1.out) m x hx
    clear hb1 CP
    by_cases hok : s.size ≤ 100 ∧ x = txt (pubL s (m : Nat))
    · obtain ⟨h100, rfl⟩ := hok
      have hgood : SignGood s l (m : Nat) t := ⟨⟨hl16, ⟨a0, a1⟩, ht2⟩, h100, by rw [Int.toNat_natCast]; exact hx⟩
      have HV := Lib.hid (signR_yes hgood)
      obtain ⟨f1, f2⟩ := full_text (HP16.out h100)
      have f3 : ((txt (pubL s (m : Nat))).toList == (txt (pubL s (m : Nat))).toList) = true := beq_self_eq_true _
      obtain ⟨bb, hbb⟩ : ∃ bb : Nat, bb = signB t := ⟨_, rfl⟩
      have SB0 := fun wx => sSignBitsOf_any t ht wx
      rw [← hbb] at SB0 HV
      have SB := Lib.hid SB0
      have LW : Hid (∀ j, j ≤ 4 → (upN j l).length = 2 ^ (4 - j)) := Lib.hid (fun j hj => upN_len hl16 j hj)
      have US : Hid (∀ j, ∀ x ∈ upN j l, x.size ≤ 1048576) := Lib.hid (fun j => upN_size (by omega) HS.out j)
      generalize hpk : txt (pubL s (m : Nat)) = pk at *
      clear hpk hgood hbb HP16 hx SB0
      have st0 : SignSt w 46 w.heap.size w1.heap.size (w1.heap.size + 1) (m : Nat) (.slice none 0 0) (.slice none 0 0) (.slice none 0 0) [] [] [] (w1.alloc (.cells #[.int .i64 (m : Nat), .slice none 0 0, .slice none 0 0, .slice none 0 0] 46)) :=
        ⟨OwnSig.none_yet _ _ _ _, Blk.new w1 _ _ _ rfl, B1'.out.alloc _, by rw [alloc_size]; exact Nat.le_refl _, HB1.out.alloc HB1.out.size _, by omega, by omega, by omega, by omega, Nat.le_refl _⟩
      have St0 := Lib.hid st0
      clear st0
      go_wp2_with fail
      generalize w1.alloc (.cells #[.int .i64 (m : Nat), .slice none 0 0, .slice none 0 0, .slice none 0 0] 46) = w2 at *
      refine (SB.out _).mono ?_
      rintro e w3 ⟨rfl, hb3⟩
      have st3 := St0.out.below hb3
      clear hb3 St0 SB f1 f2 f3 hc
      go_wp2_with fail
      go_loopw [13] (fun i wr => ∃ (k : Nat) (vo vs : Value), k ≤ 8 ∧ i = .int .i64 k ∧ SignSt w 46 w.heap.size w1.heap.size (w1.heap.size + 1) (m : Nat) vo vs (.slice none 0 0) (opnTo s (m : Nat) (bb : Nat) k) (shtTo s (m : Nat) (bb : Nat) k) [] wr) (fun i _ => 8 - (intOf i).toNat)
      case atStart => exact ⟨0, _, _, Nat.zero_le _, rfl, st3⟩
      case round =>
        clear st3
        obtain ⟨k, vo, vs, hk, rfl, st⟩ := hrel
        by_cases hlt : k < 8
        · have CB := Lib.hid (fun wx => sBitOf_any (bb : Nat) (k : Nat) wx)
          have hbr := bit_range (bb : Nat) k
          have HN1 := Lib.hid (opnTo_next s (m : Nat) (bb : Nat) k)
          have HN2 := Lib.hid (shtTo_next s (m : Nat) (bb : Nat) k)
          have hlo := opnTo_len s (m : Nat) (bb : Nat) k
          have hls := shtTo_len s (m : Nat) (bb : Nat) k
          generalize opnTo s (m : Nat) (bb : Nat) k = lo at *
          generalize shtTo s (m : Nat) (bb : Nat) k = lsh at *
          generalize hbit : bitOf (bb : Nat) (k : Nat) = bt at *
          obtain ⟨bt0, bt1⟩ := hbr
          have hsub : IntKind.i64.wrap (1 - bt) = 1 - bt := IntWalk.i64_in _ ⟨by omega, by omega⟩
          have St := Lib.hid st
          have X1 := Lib.hid (sSecretOf_any s hs (m : Nat) (k : Nat) bt wr.drew)
          clear st hbit
          obtain ⟨c0, c1, c2, c3⟩ := St.out.cells
          go_wp2_with fail
          refine (CB.out _).mono ?_
          rintro e w' ⟨rfl, rfl⟩
          go_wp2_with fail
          generalize hsx : txt (secretL s (m : Nat) (k : Nat) bt) = sx at *
          generalize hsy : txt (lockL (txt (secretL s (m : Nat) (k : Nat) (1 - bt)))) = sy at *
          have HSY := Lib.hid hsy
          clear hsx hsy
          apply region_join1 (Post := fun u W => SignSt w 46 w.heap.size w1.heap.size (w1.heap.size + 1) (m : Nat) u vs (.slice none 0 0) (lo ++ [sx]) lsh [] W)
          · refine wp_region_noPanic ?_
            go_region_law (first
              | (go_simp; go_at_call 47; (with_reducible refine X1.out.mono ?_); rintro e w4 ⟨rfl, hb4⟩; have St4 := Lib.hid ((St.out.below (bDrewN (Below.refl _ _) 1)).below hb4); have e4 := St4.out.cells.2.1; have e4' : ∀ x, (w4.alloc x).cell? ⟨w1.heap.size, 1, none⟩ = some vo := fun x => (St4.out.below ((Below.refl _ _).alloc (Nat.le_refl _) x)).cells.2.1; dsimp only)
              | (refine step_push_strs2 w4 _ (by rfl) _ _ 24 (by rfl) 9 Tryd.underlying24 Tryd.infoStr (w1.heap.size + 1) _ lo (by rfl) St4.out.sig.o [.string sx] [sx] (by rfl) 1 1 (by rfl) _ (by rfl) (by rfl) (by omega) St4.out.size (by rfl) ?_; intro v5 w5 ho5 hg5 hb5 hp5; obtain ⟨q5, k5, hv5⟩ := Own.shape ho5; obtain ⟨N5, hN5⟩ : ∃ N, (lo ++ [sx]).length = N := ⟨_, rfl⟩; rw [hN5] at hv5; subst hv5; have D5 := Blk.kept St4.out.box hg5 (fun e => by have := (Own.block St4.out.sig.o _ e.symm).1; omega); have e5 := Blk.cell D5 1; have f5 := Blk.frozen D5 1; simp only [List.getElem?_cons_zero, List.getElem?_cons_succ] at e5))
            all_goals (refine NoPanic.normal ?_; obtain ⟨n, hn⟩ : ∃ n, w4.heap.size = n := ⟨_, rfl⟩; obtain ⟨u5, hu5⟩ : ∃ u, Value.slice q5 N5 k5 = u := ⟨_, rfl⟩; refine ⟨rfl, u5, n, ?_, ?_⟩; (· rw [hn, hu5]); (· rw [← hu5]; exact St4.out.pushO ho5 hg5 hp5))
          · intro u1 n1 w6 st6
            have St6 := Lib.hid st6
            have X2 := Lib.hid (sSecretOf_any s hs (m : Nat) (k : Nat) (1 - bt) w6.drew)
            clear st6 St X1 c0 c1 c2 c3
            obtain ⟨c0, c1, c2, c3⟩ := St6.out.cells
            go_wp2_with fail
            apply region_join1 (Post := fun u W => SignSt w 46 w.heap.size w1.heap.size (w1.heap.size + 1) (m : Nat) u1 u (.slice none 0 0) (lo ++ [sx]) (lsh ++ [sy]) [] W)
            · refine wp_region_noPanic ?_
              go_region_law (first
                | (go_simp; go_at_call 47; (with_reducible refine X2.out.mono ?_); rintro e w7 ⟨rfl, hb7⟩; have St7 := Lib.hid ((St6.out.below (bDrewN (Below.refl _ _) 1)).below hb7); have e7 := St7.out.cells.2.2.1; have X3 := Lib.hid (sLockOf_any (txt (secretL s (m : Nat) (k : Nat) (1 - bt))) (by rw [txt_size]; have := secret_le s (m : Nat) (k : Nat) (1 - bt); omega) w7); dsimp only)
                | (go_simp; go_at_call 48; (with_reducible refine X3.out.mono ?_); rintro e w8 ⟨rfl, hb8⟩; rw [HSY.out]; have St8 := Lib.hid (St7.out.below hb8); have e8 := St8.out.cells.2.2.1; have e8' : ∀ x, (w8.alloc x).cell? ⟨w1.heap.size, 2, none⟩ = some vs := fun x => (St8.out.below ((Below.refl _ _).alloc (Nat.le_refl _) x)).cells.2.2.1; dsimp only)
                | (refine step_push_strs2 w8 _ (by rfl) _ _ 24 (by rfl) 9 Tryd.underlying24 Tryd.infoStr (w1.heap.size + 1) _ lsh (by rfl) St8.out.sig.s [.string sy] [sy] (by rfl) 1 1 (by rfl) _ (by rfl) (by rfl) (by omega) St8.out.size (by rfl) ?_; intro v9 w9 ho9 hg9 hb9 hp9; obtain ⟨q9, k9, hv9⟩ := Own.shape ho9; obtain ⟨N9, hN9⟩ : ∃ N, (lsh ++ [sy]).length = N := ⟨_, rfl⟩; rw [hN9] at hv9; subst hv9; have D9 := Blk.kept St8.out.box hg9 (fun e => by have := (Own.block St8.out.sig.s _ e.symm).1; omega); have e9 := Blk.cell D9 2; have f9 := Blk.frozen D9 2; simp only [List.getElem?_cons_zero, List.getElem?_cons_succ] at e9))
              all_goals (refine NoPanic.normal ?_; obtain ⟨n, hn⟩ : ∃ n, w8.heap.size = n := ⟨_, rfl⟩; obtain ⟨u9, hu9⟩ : ∃ u, Value.slice q9 N9 k9 = u := ⟨_, rfl⟩; refine ⟨rfl, u9, n, ?_, ?_⟩; (· rw [hn, hu9]); (· rw [← hu9]; exact St8.out.pushS ho9 hg9 hp9))
            · intro u2 n2 w10 st10
              have St10 := Lib.hid st10
              clear st10 St6 X2 c0 c1 c2 c3
              go_wp2_with fail
              exact ⟨⟨k + 1, u1, u2, by omega, by go_num, by rw [HN1.out, HN2.out]; exact St10.out⟩, by simp [intOf]; omega⟩
        · obtain rfl : k = 8 := by omega
          have hLO := opnTo_len s (m : Nat) (bb : Nat) 8
          have hLS := shtTo_len s (m : Nat) (bb : Nat) 8
          generalize opnTo s (m : Nat) (bb : Nat) 8 = LO at *
          generalize shtTo s (m : Nat) (bb : Nat) 8 = LSH at *
          have St := Lib.hid st
          clear st
          have LWH := Lib.hid LW.out
          clear hlt hk
          have Hsrc := Lib.hid (RdS.src (P := Tryd.prog) Tryd.underlying24 ((R.out _ St.out.low).below ((Below.refl _ _).alloc (Nat.le_refl _) (.cells #[] 9)) (Nat.le_refl _)) cp)
          rw [hl16] at Hsrc
          go_wp2_with (at_builtin; go_loud (refine wpList_append_Own _ rfl _ _ 24 24 rfl wr.heap.size 9 _ 1 16 Tryd.underlying24 Tryd.infoStr rfl _ 0 [] rfl (OwnS.empty wr wr.heap.size 9 (Nat.le_refl _)) _ rfl 16 (strC l) Hsrc.out (by unfold maxLen; omega) (by omega) (by simp) ?_; intro vp wp hownp hgp _; simp only [Nat.zero_add, List.nil_append] at hownp; have hown2 : OwnS wp wr.heap.size vp l := (by unfold OwnS; rw [hl16]; exact hownp); have hb2 : Below wr.heap.size wr wp := (((Below.refl _ _).alloc (Nat.le_refl _) _).grown hgp (by simp) (fun k hk => by cases hk; exact Nat.le_refl _)); obtain ⟨ao2, cap2, rfl, H2⟩ := hown2.rd; have st2 := St.out.below hb2; have hbk := Own.block hown2; clear hownp hgp hown2 hb2))
          go_loopw [15, 16] (fun v kk wr => ∃ (j : Nat) (r : List ByteArray) (am : Option Addr) (cm : Nat) (vd : Value), j ≤ 4 ∧ v = .slice am r.length cm ∧ kk = .int .i64 ((m / 2 ^ j : Nat) : Int) ∧ Hid (r = upN j l) ∧ RdS wr am r ∧ Hid (ApartA am vd w1.heap.size) ∧ SignSt w 46 w.heap.size w1.heap.size (w1.heap.size + 1) (m : Nat) vo vs vd LO LSH (sidTo l m j) wr) (fun v _ _ => lenV v)
          case atStart => exact ⟨0, l, ao2, cap2, _, Nat.zero_le _, by rw [hl16], by simp, Lib.hid rfl, H2, Lib.hid (fun b2 o2 e => by subst e; have h1 := hbk b2 rfl; have h3 := St.out.size; exact ⟨by simp [Value.ownBlock], by omega⟩), st2⟩
          case round =>
            clear H2 st2 hbk
            obtain ⟨j, r, am, cm, vd, hj, rfl, rfl, hrr, hrd, hap, st⟩ := hrel
            have hrl := LW.out j hj
            have hrs := US.out j
            rw [← hrr.out] at hrl hrs
            by_cases hlj : j < 4
            · obtain ⟨hq1, hq2⟩ := beside_lt hm hlj
              have hxo := beside_xor (k := m / 2 ^ j) (by have : 2 ^ (4 - j) ≤ 2 ^ 4 := Nat.pow_le_pow_right (by decide) (by omega); omega)
              have hr2 : 1 < r.length := by rw [hrl]; exact Nat.one_lt_two_pow (by omega)
              have hr16 : r.length ≤ 16 := by rw [hrl]; exact (Nat.pow_le_pow_right (by decide) (by omega) : 2 ^ (4 - j) ≤ 2 ^ 4)
              obtain ⟨x, hx⟩ : ∃ x, r[(m / 2 ^ j) ^^^ 1]? = some x := ⟨_, List.getElem?_eq_getElem (by omega)⟩
              have hN := sidTo_next (l := l) (a := m) (n := j) (by rw [← hrr.out]; exact hx)
              have hdv : m / 2 ^ (j + 1) = m / 2 ^ j / 2 := by rw [Nat.pow_succ, Nat.div_div_eq_div_mul]
              have HRR : Hid (upL r = upN (j + 1) l) := Lib.hid (by rw [hrr.out]; rfl)
              obtain ⟨b', o', rfl, hcx⟩ := hrd _ x hx
              have hbl := World.block_lt_of_cell? _ _ hcx
              simp only at hbl
              have hix0 : (0 : Int) ≤ (((m / 2 ^ j) ^^^ 1 : Nat) : Int) := Int.natCast_nonneg _
              have hix1 : (((m / 2 ^ j) ^^^ 1 : Nat) : Int) < (r.length : Int) := by omega
              have hls := sidTo_len l m j
              generalize sidTo l m j = ls at *
              generalize hkx : (m / 2 ^ j) ^^^ 1 = kx at *
              have HDV := Lib.hid hdv
              have hkq : m / 2 ^ j ≤ m := Nat.div_le_self _ _
              generalize m / 2 ^ j = kq at *
              have HNX := Lib.hid hN
              have hq0 : (0 : Int) ≤ (kq : Int) := Int.natCast_nonneg _
              have hul := upL_len r
              have HAP := Lib.hid hap.out
              have RD := Lib.hid hrd
              have St2 := Lib.hid st
              clear hx hN hdv hkx hrd hap st hrr hq2 hrl
              obtain ⟨c0, c1, c2, c3⟩ := St2.out.cells
              have g3 : ∀ x, (wr.alloc x).cell? ⟨w1.heap.size, 3, none⟩ = some vd := fun x => (St2.out.below ((Below.refl _ _).alloc (Nat.le_refl _) x)).cells.2.2.2
              have gx : ∀ y, (wr.alloc y).cell? ⟨b', o' + kx, none⟩ = some (.string x) := fun y => (((Below.refl wr.heap.size wr).alloc (Nat.le_refl _) y).cell (p := ⟨b', o' + kx, none⟩) hbl).trans hcx
              go_wp2_with fail
              apply region_join1 (Post := fun u W => SignSt w 46 w.heap.size w1.heap.size (w1.heap.size + 1) (m : Nat) vo vs u LO LSH (ls ++ [x]) W ∧ RdS W (some ⟨b', o', none⟩) r)
              · refine wp_region_noPanic ?_
                go_region_law (first
                  | (refine step_push_strs2 wr.drew _ (by rfl) _ _ 24 (by rfl) 9 Tryd.underlying24 Tryd.infoStr (w1.heap.size + 1) _ ls (by rfl) (St2.out.below (bDrewN (Below.refl _ _) 1)).sig.d [.string x] [x] (by rfl) 1 1 (by rfl) _ (by rfl) (by rfl) (by omega) St2.out.size (by rfl) ?_; intro v5 w5 ho5 hg5 hb5 hp5; obtain ⟨q5, k5, hv5⟩ := Own.shape ho5; obtain ⟨N5, hN5⟩ : ∃ N, (ls ++ [x]).length = N := ⟨_, rfl⟩; rw [hN5] at hv5; subst hv5; have D5 := Blk.kept (St2.out.below (bDrewN (Below.refl _ _) 1)).box hg5 (fun e => by have := (Own.block St2.out.sig.d _ e.symm).1; omega); have e5 := Blk.cell D5 3; have f5 := Blk.frozen D5 3; simp only [List.getElem?_cons_zero, List.getElem?_cons_succ] at e5))
                all_goals (refine NoPanic.normal ?_; obtain ⟨n, hn⟩ : ∃ n, wr.heap.size = n := ⟨_, rfl⟩; obtain ⟨u5, hu5⟩ : ∃ u, Value.slice q5 N5 k5 = u := ⟨_, rfl⟩; refine ⟨rfl, u5, n, ?_, ?_⟩; (· rw [hn, hu5]); (· rw [← hu5]; exact ⟨(St2.out.below (bDrewN (Below.refl _ _) 1)).pushD ho5 hg5 hp5, rdS_far (RD.out.below (bDrewN (Below.refl _ _) 1) (Nat.le_refl _)) hg5 (fun b2 o2 e => HAP.out b2 o2 e)⟩))
              · intro u1 n1 w6 ⟨st6, rd6⟩
                have St6 := Lib.hid st6
                have C := Lib.hid (sUp_any _ cm r w6 (by omega) hrs rd6)
                generalize upL r = ur at *
                clear st6 rd6 St2 c0 c1 c2 c3 g3 gx RD HAP hcx hbl hix0 hix1 hxo
                go_wp2_with fail
                refine C.out.mono ?_
                rintro e w7 ⟨⟨v7, rfl, ho7⟩, hb7⟩
                have St7 := Lib.hid (St6.out.below hb7)
                have hbk := Own.block ho7
                obtain ⟨ao7, c7, rfl, r7⟩ := ho7.rd
                have R7 := Lib.hid r7
                have AP7 : Hid (ApartA ao7 u1 w1.heap.size) := Lib.hid (fun b2 o2 e => by
                  subst e
                  have h1 := hbk b2 rfl
                  have h2 := St6.out.sig.ld
                  have h3 := St6.out.size
                  exact ⟨fun e' => by have := h2 _ e'; omega, by omega⟩)
                clear ho7 hb7 r7 hbk C St6
                go_wp2_with fail
                refine ⟨⟨j + 1, ur, ao7, c7, u1, by omega, by rw [hul], ?_, HRR, R7.out, AP7, by rw [HNX.out]; exact St7.out⟩, by simp [lenV]; omega⟩
                have hfin : (kq : Int) / 2 = ((m / 2 ^ (j + 1) : Nat) : Int) := by rw [HDV.out]; omega
                exact congrArg (Value.int IntKind.i64) hfin
            · obtain rfl : j = 4 := by omega
              have hr1 : r.length = 1 := hrl
              obtain ⟨c0, c1, c2, c3⟩ := st.cells
              have d0 := Blk.cell st.res 0
              have d1 := Blk.cell st.res 1
              have d2 := Blk.cell st.res 2
              have d3 := Blk.cell st.res 3
              have g0 := Blk.frozen st.res 0
              have g1 := Blk.frozen st.res 1
              have g2 := Blk.frozen st.res 2
              have g3 := Blk.frozen st.res 3
              simp only [List.getElem?_cons_zero, List.getElem?_cons_succ] at d0 d1 d2 d3
              obtain ⟨q1, k1, ev1⟩ := Own.shape st.sig.o
              obtain ⟨q2, k2, ev2⟩ := Own.shape st.sig.s
              obtain ⟨q3, k3, ev3⟩ := Own.shape st.sig.d
              rw [hLO] at ev1
              rw [hLS] at ev2
              rw [sidTo_len] at ev3
              subst ev1 ev2 ev3
              have Done := Lib.hid st.done
              have HV2 : Hid (signR s l (m : Nat) t = ((↑m, LO, LSH, sidTo l m 4), true)) := Lib.hid (by rw [HV.out, Int.toNat_natCast])
              clear st hrd hap hrr hrl hrs
              rw [hr1]
              go_wp2_with fail
              refine bodyPost_ret (results_cell_row_tmpS rfl _ _ _ w.heap.size 46 #[.int .i64 (m : Nat), .slice q1 8 k1, .slice q2 8 k2, .slice q3 4 k3] (0, 0) _ _ rfl rfl Done.out.1 Tryd.underlying46 (by kernel_rfl)) rfl ?_
              rw [HV2.out]
              exact ⟨⟨_, _, _, _, rfl, Done.out.2.1⟩, Done.out.2.2⟩
    · have hgood : ¬ SignGood s l (m : Nat) t := fun h => hok ⟨h.2.1, by have h2 := h.2.2; rw [Int.toNat_natCast, hx] at h2; exact Option.some.inj h2⟩
      have HV := Lib.hid (signR_no hgood)
      have d0 := Blk.cell B1'.out 0
      have d1 := Blk.cell B1'.out 1
      have d2 := Blk.cell B1'.out 2
      have d3 := Blk.cell B1'.out 3
      have g0 := Blk.frozen B1'.out 0
      have g1 := Blk.frozen B1'.out 1
      have g2 := Blk.frozen B1'.out 2
      have g3 := Blk.frozen B1'.out 3
      simp only [List.getElem?_cons_zero, List.getElem?_cons_succ] at d0 d1 d2 d3
      have E4 := Lib.hid ((((B1'.out.set_ 0 (.int .i64 0)).set_ 1 (.slice none 0 0)).set_ 2 (.slice none 0 0)).set_ 3 (.slice none 0 0))
      have HF := Lib.hid ((((HB1.out.setCell (p := ⟨w.heap.size, 0, none⟩) (Nat.le_refl _) (.int .i64 0)).setCell (p := ⟨w.heap.size, 1, none⟩) (Nat.le_refl _) (.slice none 0 0)).setCell (p := ⟨w.heap.size, 2, none⟩) (Nat.le_refl _) (.slice none 0 0)).setCell (p := ⟨w.heap.size, 3, none⟩) (Nat.le_refl _) (.slice none 0 0))
      by_cases h100 : s.size ≤ 100
      · obtain ⟨f1, f2⟩ := full_text (HP16.out h100)
        have f3 : ((txt (pubL s (m : Nat))).toList == x.toList) = false := by
          rw [beq_eq_false_iff_ne]
          intro e
          rw [ByteArray.toList_eq, ByteArray.toList_eq] at e
          exact hok ⟨h100, (ByteArray.ext (Array.ext' e)).symm⟩
        generalize txt (pubL s (m : Nat)) = pk at *
        clear hgood hok hx HP16
        go_wp2_with fail
        refine bodyPost_ret (results_cell_row_tmpS rfl _ _ _ w.heap.size 46 #[.int .i64 0, .slice none 0 0, .slice none 0 0, .slice none 0 0] (0, 0) _ _ rfl rfl E4.out Tryd.underlying46 (by kernel_rfl)) rfl ?_
        rw [HV.out]
        exact ⟨⟨_, _, _, _, rfl, OwnSig.none_yet _ _ _ _⟩, HF.out⟩
      · have hp : pubL s (m : Nat) = [] := pubL_no (fun h => h100 h.1)
        rw [hp]
        have f1 : (txt []).toList.isEmpty = true := by rw [ByteArray.toList_eq, txt_data]; rfl
        have f2 : ((txt []).toList == []) = true := by rw [ByteArray.toList_eq, txt_data]; rfl
        generalize txt [] = pk at *
        clear hgood hok hx HP16 hp
        go_wp2_with fail
        refine bodyPost_ret (results_cell_row_tmpS rfl _ _ _ w.heap.size 46 #[.int .i64 0, .slice none 0 0, .slice none 0 0, .slice none 0 0] (0, 0) _ _ rfl rfl E4.out Tryd.underlying46 (by kernel_rfl)) rfl ?_
        rw [HV.out]
        exact ⟨⟨_, _, _, _, rfl, OwnSig.none_yet _ _ _ _⟩, HF.out⟩
  · have hgood : ¬ SignGood s l a t := fun h => hf h.1
    have HV := Lib.hid (signR_no hgood)
    clear HS R
    by_cases h16 : l.length = 16
    · have hne16 : ((l.length : Int) != 16) = false := by rw [h16]; rfl
      by_cases hin : 0 ≤ a ∧ a ≤ 15
      · have hgt : (200 : Int) < (t.size : Int) := by
          have : ¬ t.size ≤ 200 := fun h => hf ⟨h16, hin, h⟩
          omega
        have hwn : within a 0 15 = true := within_yes hin
        simp only [hwn] at CN
        clear hf hgood
        go_enter Tryd.func38, Tryd.ntmps38
        go_wp2_with fail
        refine (CN.out _).mono ?_
        rintro e w' ⟨rfl, rfl⟩
        go_wp2_with fail
        refine bodyPost_ret (results_cell_row_tmpS rfl _ _ _ w.heap.size 46 #[.int .i64 0, .slice none 0 0, .slice none 0 0, .slice none 0 0] (0, 0) _ _ rfl rfl B1.out Tryd.underlying46 (by kernel_rfl)) rfl ?_
        rw [HV.out]
        exact ⟨⟨_, _, _, _, rfl, OwnSig.none_yet _ _ _ _⟩, HB.out⟩
      · have hwn : within a 0 15 = false := within_not hin
        simp only [hwn] at CN
        clear hf hgood
        go_enter Tryd.func38, Tryd.ntmps38
        go_wp2_with fail
        refine (CN.out _).mono ?_
        rintro e w' ⟨rfl, rfl⟩
        go_wp2_with fail
        refine bodyPost_ret (results_cell_row_tmpS rfl _ _ _ w.heap.size 46 #[.int .i64 0, .slice none 0 0, .slice none 0 0, .slice none 0 0] (0, 0) _ _ rfl rfl B1.out Tryd.underlying46 (by kernel_rfl)) rfl ?_
        rw [HV.out]
        exact ⟨⟨_, _, _, _, rfl, OwnSig.none_yet _ _ _ _⟩, HB.out⟩
    · have hne16 : ((l.length : Int) != 16) = true := by rw [bne_iff_ne]; omega
      clear hf hgood CN
      go_enter Tryd.func38, Tryd.ntmps38
      go_wp2_with fail
      refine bodyPost_ret (results_cell_row_tmpS rfl _ _ _ w.heap.size 46 #[.int .i64 0, .slice none 0 0, .slice none 0 0, .slice none 0 0] (0, 0) _ _ rfl rfl B1.out Tryd.underlying46 (by kernel_rfl)) rfl ?_
      rw [HV.out]
      exact ⟨⟨_, _, _, _, rfl, OwnSig.none_yet _ _ _ _⟩, HB.out⟩

set_option maxHeartbeats 8000000 in
set_option maxRecDepth 100000 in
theorem iSignText_any (s : ByteArray) (ap : Option Addr) (cp : Nat) (l : List ByteArray) (a : Int) (t : ByteArray) (w : World) (hs : s.size ≤ 1048576) (ht : t.size ≤ 1048576) (hz : ∀ x ∈ l, x.size ≤ 1048576) (hr : RdS w ap l) (hT : YtcehbmlibfalaaaDoorTabs w) :
    Calls Tryd.prog 39 #[.string s, .slice ap l.length cp, .int .i64 a, .string t] w fun e w' => GivesSig2 w.heap.size (signR s l a t) e w' ∧ Below w.heap.size w w' := by
  have hz1 := alloc_size w (.cells #[.int .i64 0, .slice none 0 0, .slice none 0 0, .slice none 0 0] 46)
  have hB := (Below.refl w.heap.size w).alloc (Nat.le_refl _) (.cells #[.int .i64 0, .slice none 0 0, .slice none 0 0, .slice none 0 0] 46)
  have b1 := Blk.new w 46 [.int .i64 0, .slice none 0 0, .slice none 0 0, .slice none 0 0] _ rfl
  have R := Lib.hid (fun W (hW : Below w.heap.size w W) => hr.below hW (Nat.le_refl _))
  have CN := Lib.hid (fun wx => in_any a 0 15 wx)
  have HB := Lib.hid hB
  have HZ := Lib.hid hz1
  have B1 := Lib.hid b1
  have HS := Lib.hid hz
  have HT := Lib.hid hT
  clear hr hB b1 hz1 hz
  by_cases hf : l.length = 16 ∧ (0 ≤ a ∧ a ≤ 15) ∧ t.size ≤ 200
  · obtain ⟨hl16, ⟨a0, a1⟩, ht2⟩ := hf
    obtain ⟨m, rfl⟩ := Int.eq_ofNat_of_zero_le a0
    have hm : m < 16 := by omega
    have hwn : within (m : Int) 0 15 = true := within_yes ⟨a0, a1⟩
    simp only [hwn] at CN
    obtain ⟨x, hx⟩ : ∃ x, l[m]? = some x := ⟨_, List.getElem?_eq_getElem (by omega)⟩
    have CP := Lib.hid (iPublicOf_any s hs (m : Nat) _ (HT.out.below HB.out (Nat.le_refl _)))
    have HP16 : Hid (s.size ≤ 100 → (pubL s (m : Nat)).length = 16) := Lib.hid (fun h => by
      rw [pubL_yes ⟨h, by omega, by omega⟩]
      obtain ⟨r, hr⟩ := tagL_few (k := 6) (by decide) (ps := pubLocks s (m : Nat) 16) (by rw [pubLocks_len]; decide) (fun p hp => by have := pubLocks_size s (m : Nat) 16 p hp; omega)
      unfold hashT; rw [hr]; exact cutL_length (by decide))
    have i0 : (0 : Int) ≤ (m : Int) := Int.natCast_nonneg _
    have i1 : (m : Int) < (l.length : Int) := by omega
    have hne16 : ((l.length : Int) != 16) = false := by rw [hl16]; rfl
    have hgt : ¬ (200 : Int) < (t.size : Int) := by omega
    go_enter Tryd.func39, Tryd.ntmps39
    go_wp2_with fail
    refine (CN.out _).mono ?_
    rintro e w' ⟨rfl, rfl⟩
    go_wp2_with fail
    generalize w.alloc (.cells #[.int .i64 0, .slice none 0 0, .slice none 0 0, .slice none 0 0] 46) = W0 at *
    refine CP.out.mono ?_
    rintro e w1 ⟨rfl, hb1⟩
    have hz0 := HZ.out
    have B1' := Lib.hid (B1.out.below hb1 B1.out.lt)
    have HB1 := Lib.hid (HB.out.trans (hb1.mono HB.out.size))
    have hs1 := hb1.size
    obtain ⟨b, o, rfl, hc⟩ := (R.out _ HB1.out) m x hx
    have hblt : b < w.heap.size := by
      obtain ⟨b2, o2, e2, hc2⟩ := (R.out w (Below.refl _ _)) m x hx
      cases e2
      exact World.block_lt_of_cell? _ _ hc2
    clear hb1 CP
    by_cases hok : s.size ≤ 100 ∧ x = txt (pubL s (m : Nat))
    · obtain ⟨h100, rfl⟩ := hok
      have hgood : SignGood s l (m : Nat) t := ⟨⟨hl16, ⟨a0, a1⟩, ht2⟩, h100, by rw [Int.toNat_natCast]; exact hx⟩
      have HV := Lib.hid (signR_yes hgood)
      obtain ⟨f1, f2⟩ := full_text (HP16.out h100)
      have f3 : ((txt (pubL s (m : Nat))).toList == (txt (pubL s (m : Nat))).toList) = true := beq_self_eq_true _
      obtain ⟨bb, hbb⟩ : ∃ bb : Nat, bb = signB t := ⟨_, rfl⟩
      have SB0 := fun wx hx => iSignBitsOf_any t ht wx hx
      rw [← hbb] at SB0 HV
      have SB := Lib.hid SB0
      have LW : Hid (∀ j, j ≤ 4 → (upN j l).length = 2 ^ (4 - j)) := Lib.hid (fun j hj => upN_len hl16 j hj)
      have US : Hid (∀ j, ∀ x ∈ upN j l, x.size ≤ 1048576) := Lib.hid (fun j => upN_size (by omega) HS.out j)
      generalize hpk : txt (pubL s (m : Nat)) = pk at *
      clear hpk hgood hbb HP16 hx SB0
      have st0 : SignSt w 46 w.heap.size w1.heap.size (w1.heap.size + 1) (m : Nat) (.slice none 0 0) (.slice none 0 0) (.slice none 0 0) [] [] [] (w1.alloc (.cells #[.int .i64 (m : Nat), .slice none 0 0, .slice none 0 0, .slice none 0 0] 46)) :=
        ⟨OwnSig.none_yet _ _ _ _, Blk.new w1 _ _ _ rfl, B1'.out.alloc _, by rw [alloc_size]; exact Nat.le_refl _, HB1.out.alloc HB1.out.size _, by omega, by omega, by omega, by omega, Nat.le_refl _⟩
      have St0 := Lib.hid st0
      clear st0
      go_wp2_with fail
      generalize w1.alloc (.cells #[.int .i64 (m : Nat), .slice none 0 0, .slice none 0 0, .slice none 0 0] 46) = w2 at *
      refine (SB.out _ (HT.out.below St0.out.low (Nat.le_refl _))).mono ?_
      rintro e w3 ⟨rfl, hb3⟩
      have st3 := St0.out.below hb3
      clear hb3 St0 SB f1 f2 f3 hc
      go_wp2_with fail
      go_loopw [49] (fun i wr => ∃ (k : Nat) (vo vs : Value), k ≤ 8 ∧ i = .int .i64 k ∧ SignSt w 46 w.heap.size w1.heap.size (w1.heap.size + 1) (m : Nat) vo vs (.slice none 0 0) (opnTo s (m : Nat) (bb : Nat) k) (shtTo s (m : Nat) (bb : Nat) k) [] wr) (fun i _ => 8 - (intOf i).toNat)
      case atStart => exact ⟨0, _, _, Nat.zero_le _, rfl, st3⟩
      case round =>
        clear st3
        obtain ⟨k, vo, vs, hk, rfl, st⟩ := hrel
        by_cases hlt : k < 8
        · have CB := Lib.hid (fun wx => iBitOf_any (bb : Nat) (k : Nat) wx)
          have hbr := bit_range (bb : Nat) k
          have HN1 := Lib.hid (opnTo_next s (m : Nat) (bb : Nat) k)
          have HN2 := Lib.hid (shtTo_next s (m : Nat) (bb : Nat) k)
          have hlo := opnTo_len s (m : Nat) (bb : Nat) k
          have hls := shtTo_len s (m : Nat) (bb : Nat) k
          generalize opnTo s (m : Nat) (bb : Nat) k = lo at *
          generalize shtTo s (m : Nat) (bb : Nat) k = lsh at *
          generalize hbit : bitOf (bb : Nat) (k : Nat) = bt at *
          obtain ⟨bt0, bt1⟩ := hbr
          have hsub : IntKind.i64.wrap (1 - bt) = 1 - bt := IntWalk.i64_in _ ⟨by omega, by omega⟩
          have St := Lib.hid st
          have X1 := Lib.hid (iSecretOf_any s hs (m : Nat) (k : Nat) bt wr.drew (HT.out.below (bDrewN st.low 1) (Nat.le_refl _)))
          clear st hbit
          obtain ⟨c0, c1, c2, c3⟩ := St.out.cells
          go_wp2_with fail
          refine (CB.out _).mono ?_
          rintro e w' ⟨rfl, rfl⟩
          go_wp2_with fail
          generalize hsx : txt (secretL s (m : Nat) (k : Nat) bt) = sx at *
          generalize hsy : txt (lockL (txt (secretL s (m : Nat) (k : Nat) (1 - bt)))) = sy at *
          have HSY := Lib.hid hsy
          clear hsx hsy
          apply region_join1 (Post := fun u W => SignSt w 46 w.heap.size w1.heap.size (w1.heap.size + 1) (m : Nat) u vs (.slice none 0 0) (lo ++ [sx]) lsh [] W)
          · refine wp_region_noPanic ?_
            go_region_law (first
              | (go_simp; go_at_call 49; (with_reducible refine X1.out.mono ?_); rintro e w4 ⟨rfl, hb4⟩; have St4 := Lib.hid ((St.out.below (bDrewN (Below.refl _ _) 1)).below hb4); have e4 := St4.out.cells.2.1; have e4' : ∀ x, (w4.alloc x).cell? ⟨w1.heap.size, 1, none⟩ = some vo := fun x => (St4.out.below ((Below.refl _ _).alloc (Nat.le_refl _) x)).cells.2.1; dsimp only)
              | (refine step_push_strs2 w4 _ (by rfl) _ _ 24 (by rfl) 9 Tryd.underlying24 Tryd.infoStr (w1.heap.size + 1) _ lo (by rfl) St4.out.sig.o [.string sx] [sx] (by rfl) 1 1 (by rfl) _ (by rfl) (by rfl) (by omega) St4.out.size (by rfl) ?_; intro v5 w5 ho5 hg5 hb5 hp5; obtain ⟨q5, k5, hv5⟩ := Own.shape ho5; obtain ⟨N5, hN5⟩ : ∃ N, (lo ++ [sx]).length = N := ⟨_, rfl⟩; rw [hN5] at hv5; subst hv5; have D5 := Blk.kept St4.out.box hg5 (fun e => by have := (Own.block St4.out.sig.o _ e.symm).1; omega); have e5 := Blk.cell D5 1; have f5 := Blk.frozen D5 1; simp only [List.getElem?_cons_zero, List.getElem?_cons_succ] at e5))
            all_goals (refine NoPanic.normal ?_; obtain ⟨n, hn⟩ : ∃ n, w4.heap.size = n := ⟨_, rfl⟩; obtain ⟨u5, hu5⟩ : ∃ u, Value.slice q5 N5 k5 = u := ⟨_, rfl⟩; refine ⟨rfl, u5, n, ?_, ?_⟩; (· rw [hn, hu5]); (· rw [← hu5]; exact St4.out.pushO ho5 hg5 hp5))
          · intro u1 n1 w6 st6
            have St6 := Lib.hid st6
            have X2 := Lib.hid (iSecretOf_any s hs (m : Nat) (k : Nat) (1 - bt) w6.drew (HT.out.below (bDrewN St6.out.low 1) (Nat.le_refl _)))
            clear st6 St X1 c0 c1 c2 c3
            obtain ⟨c0, c1, c2, c3⟩ := St6.out.cells
            go_wp2_with fail
            apply region_join1 (Post := fun u W => SignSt w 46 w.heap.size w1.heap.size (w1.heap.size + 1) (m : Nat) u1 u (.slice none 0 0) (lo ++ [sx]) (lsh ++ [sy]) [] W)
            · refine wp_region_noPanic ?_
              go_region_law (first
                | (go_simp; go_at_call 49; (with_reducible refine X2.out.mono ?_); rintro e w7 ⟨rfl, hb7⟩; have St7 := Lib.hid ((St6.out.below (bDrewN (Below.refl _ _) 1)).below hb7); have e7 := St7.out.cells.2.2.1; have X3 := Lib.hid (iLockOf_any (txt (secretL s (m : Nat) (k : Nat) (1 - bt))) (by rw [txt_size]; have := secret_le s (m : Nat) (k : Nat) (1 - bt); omega) w7 (HT.out.below St7.out.low (Nat.le_refl _))); dsimp only)
                | (go_simp; go_at_call 50; (with_reducible refine X3.out.mono ?_); rintro e w8 ⟨rfl, hb8⟩; rw [HSY.out]; have St8 := Lib.hid (St7.out.below hb8); have e8 := St8.out.cells.2.2.1; have e8' : ∀ x, (w8.alloc x).cell? ⟨w1.heap.size, 2, none⟩ = some vs := fun x => (St8.out.below ((Below.refl _ _).alloc (Nat.le_refl _) x)).cells.2.2.1; dsimp only)
                | (refine step_push_strs2 w8 _ (by rfl) _ _ 24 (by rfl) 9 Tryd.underlying24 Tryd.infoStr (w1.heap.size + 1) _ lsh (by rfl) St8.out.sig.s [.string sy] [sy] (by rfl) 1 1 (by rfl) _ (by rfl) (by rfl) (by omega) St8.out.size (by rfl) ?_; intro v9 w9 ho9 hg9 hb9 hp9; obtain ⟨q9, k9, hv9⟩ := Own.shape ho9; obtain ⟨N9, hN9⟩ : ∃ N, (lsh ++ [sy]).length = N := ⟨_, rfl⟩; rw [hN9] at hv9; subst hv9; have D9 := Blk.kept St8.out.box hg9 (fun e => by have := (Own.block St8.out.sig.s _ e.symm).1; omega); have e9 := Blk.cell D9 2; have f9 := Blk.frozen D9 2; simp only [List.getElem?_cons_zero, List.getElem?_cons_succ] at e9))
              all_goals (refine NoPanic.normal ?_; obtain ⟨n, hn⟩ : ∃ n, w8.heap.size = n := ⟨_, rfl⟩; obtain ⟨u9, hu9⟩ : ∃ u, Value.slice q9 N9 k9 = u := ⟨_, rfl⟩; refine ⟨rfl, u9, n, ?_, ?_⟩; (· rw [hn, hu9]); (· rw [← hu9]; exact St8.out.pushS ho9 hg9 hp9))
            · intro u2 n2 w10 st10
              have St10 := Lib.hid st10
              clear st10 St6 X2 c0 c1 c2 c3
              go_wp2_with fail
              exact ⟨⟨k + 1, u1, u2, by omega, by go_num, by rw [HN1.out, HN2.out]; exact St10.out⟩, by simp [intOf]; omega⟩
        · obtain rfl : k = 8 := by omega
          have hLO := opnTo_len s (m : Nat) (bb : Nat) 8
          have hLS := shtTo_len s (m : Nat) (bb : Nat) 8
          generalize opnTo s (m : Nat) (bb : Nat) 8 = LO at *
          generalize shtTo s (m : Nat) (bb : Nat) 8 = LSH at *
          have St := Lib.hid st
          clear st
          have LWH := Lib.hid LW.out
          clear hlt hk
          have hrp := R.out _ St.out.low
          go_wp2_with fail
          have e8 : ((8 : Nat) : Int) = 8 := rfl
          simp only [e8]
          go_loopw [15, 16] (fun v kk wr => ∃ (j : Nat) (r : List ByteArray) (am : Option Addr) (cm : Nat) (vd : Value), j ≤ 4 ∧ v = .slice am r.length cm ∧ kk = .int .i64 ((m / 2 ^ j : Nat) : Int) ∧ Hid (r = upN j l) ∧ RdS wr am r ∧ Hid (ApartA am vd w1.heap.size) ∧ SignSt w 46 w.heap.size w1.heap.size (w1.heap.size + 1) (m : Nat) vo vs vd LO LSH (sidTo l m j) wr) (fun v _ _ => lenV v)
          case atStart => exact ⟨0, l, _, _, _, Nat.zero_le _, by rw [hl16], by simp, Lib.hid rfl, hrp, Lib.hid (fun b2 o2 e => by cases e; exact ⟨by simp [Value.ownBlock], by have := hblt; omega⟩), St.out⟩
          case round =>
            clear hrp
            obtain ⟨j, r, am, cm, vd, hj, rfl, rfl, hrr, hrd, hap, st⟩ := hrel
            have hrl := LW.out j hj
            have hrs := US.out j
            rw [← hrr.out] at hrl hrs
            by_cases hlj : j < 4
            · obtain ⟨hq1, hq2⟩ := beside_lt hm hlj
              have hxo := beside_xor (k := m / 2 ^ j) (by have : 2 ^ (4 - j) ≤ 2 ^ 4 := Nat.pow_le_pow_right (by decide) (by omega); omega)
              have hr2 : 1 < r.length := by rw [hrl]; exact Nat.one_lt_two_pow (by omega)
              have hr16 : r.length ≤ 16 := by rw [hrl]; exact (Nat.pow_le_pow_right (by decide) (by omega) : 2 ^ (4 - j) ≤ 2 ^ 4)
              obtain ⟨x, hx⟩ : ∃ x, r[(m / 2 ^ j) ^^^ 1]? = some x := ⟨_, List.getElem?_eq_getElem (by omega)⟩
              have hN := sidTo_next (l := l) (a := m) (n := j) (by rw [← hrr.out]; exact hx)
              have hdv : m / 2 ^ (j + 1) = m / 2 ^ j / 2 := by rw [Nat.pow_succ, Nat.div_div_eq_div_mul]
              have HRR : Hid (upL r = upN (j + 1) l) := Lib.hid (by rw [hrr.out]; rfl)
              obtain ⟨b', o', rfl, hcx⟩ := hrd _ x hx
              have hbl := World.block_lt_of_cell? _ _ hcx
              simp only at hbl
              have hix0 : (0 : Int) ≤ (((m / 2 ^ j) ^^^ 1 : Nat) : Int) := Int.natCast_nonneg _
              have hix1 : (((m / 2 ^ j) ^^^ 1 : Nat) : Int) < (r.length : Int) := by omega
              have hls := sidTo_len l m j
              generalize sidTo l m j = ls at *
              generalize hkx : (m / 2 ^ j) ^^^ 1 = kx at *
              have HDV := Lib.hid hdv
              have hkq : m / 2 ^ j ≤ m := Nat.div_le_self _ _
              generalize m / 2 ^ j = kq at *
              have HNX := Lib.hid hN
              have hq0 : (0 : Int) ≤ (kq : Int) := Int.natCast_nonneg _
              have hul := upL_len r
              have HAP := Lib.hid hap.out
              have RD := Lib.hid hrd
              have St2 := Lib.hid st
              clear hx hN hdv hkx hrd hap st hrr hq2 hrl
              obtain ⟨c0, c1, c2, c3⟩ := St2.out.cells
              have g3 : ∀ x, (wr.alloc x).cell? ⟨w1.heap.size, 3, none⟩ = some vd := fun x => (St2.out.below ((Below.refl _ _).alloc (Nat.le_refl _) x)).cells.2.2.2
              have gx : ∀ y, (wr.alloc y).cell? ⟨b', o' + kx, none⟩ = some (.string x) := fun y => (((Below.refl wr.heap.size wr).alloc (Nat.le_refl _) y).cell (p := ⟨b', o' + kx, none⟩) hbl).trans hcx
              go_wp2_with fail
              apply region_join1 (Post := fun u W => SignSt w 46 w.heap.size w1.heap.size (w1.heap.size + 1) (m : Nat) vo vs u LO LSH (ls ++ [x]) W ∧ RdS W (some ⟨b', o', none⟩) r)
              · refine wp_region_noPanic ?_
                go_region_law (first
                  | (refine step_push_strs2 wr.drew _ (by rfl) _ _ 24 (by rfl) 9 Tryd.underlying24 Tryd.infoStr (w1.heap.size + 1) _ ls (by rfl) (St2.out.below (bDrewN (Below.refl _ _) 1)).sig.d [.string x] [x] (by rfl) 1 1 (by rfl) _ (by rfl) (by rfl) (by omega) St2.out.size (by rfl) ?_; intro v5 w5 ho5 hg5 hb5 hp5; obtain ⟨q5, k5, hv5⟩ := Own.shape ho5; obtain ⟨N5, hN5⟩ : ∃ N, (ls ++ [x]).length = N := ⟨_, rfl⟩; rw [hN5] at hv5; subst hv5; have D5 := Blk.kept (St2.out.below (bDrewN (Below.refl _ _) 1)).box hg5 (fun e => by have := (Own.block St2.out.sig.d _ e.symm).1; omega); have e5 := Blk.cell D5 3; have f5 := Blk.frozen D5 3; simp only [List.getElem?_cons_zero, List.getElem?_cons_succ] at e5))
                all_goals (refine NoPanic.normal ?_; obtain ⟨n, hn⟩ : ∃ n, wr.heap.size = n := ⟨_, rfl⟩; obtain ⟨u5, hu5⟩ : ∃ u, Value.slice q5 N5 k5 = u := ⟨_, rfl⟩; refine ⟨rfl, u5, n, ?_, ?_⟩; (· rw [hn, hu5]); (· rw [← hu5]; exact ⟨(St2.out.below (bDrewN (Below.refl _ _) 1)).pushD ho5 hg5 hp5, rdS_far (RD.out.below (bDrewN (Below.refl _ _) 1) (Nat.le_refl _)) hg5 (fun b2 o2 e => HAP.out b2 o2 e)⟩))
              · intro u1 n1 w6 ⟨st6, rd6⟩
                have St6 := Lib.hid st6
                have C := Lib.hid (above_any _ cm r w6 (by omega) hrs rd6 (HT.out.below St6.out.low (Nat.le_refl _)))
                generalize upL r = ur at *
                clear st6 rd6 St2 c0 c1 c2 c3 g3 gx RD HAP hcx hbl hix0 hix1 hxo
                go_wp2_with fail
                refine C.out.mono ?_
                rintro e w7 ⟨⟨v7, rfl, ho7⟩, hb7⟩
                have St7 := Lib.hid (St6.out.below hb7)
                have hbk := Own.block ho7
                obtain ⟨ao7, c7, rfl, r7⟩ := ho7.rd
                have R7 := Lib.hid r7
                have AP7 : Hid (ApartA ao7 u1 w1.heap.size) := Lib.hid (fun b2 o2 e => by
                  subst e
                  have h1 := hbk b2 rfl
                  have h2 := St6.out.sig.ld
                  have h3 := St6.out.size
                  exact ⟨fun e' => by have := h2 _ e'; omega, by omega⟩)
                clear ho7 hb7 r7 hbk C St6
                go_wp2_with fail
                refine ⟨⟨j + 1, ur, ao7, c7, u1, by omega, by rw [hul], ?_, HRR, R7.out, AP7, by rw [HNX.out]; exact St7.out⟩, by simp [lenV]; omega⟩
                have hfin : (kq : Int) / 2 = ((m / 2 ^ (j + 1) : Nat) : Int) := by rw [HDV.out]; omega
                exact congrArg (Value.int IntKind.i64) hfin
            · obtain rfl : j = 4 := by omega
              have hr1 : r.length = 1 := hrl
              obtain ⟨c0, c1, c2, c3⟩ := st.cells
              have d0 := Blk.cell st.res 0
              have d1 := Blk.cell st.res 1
              have d2 := Blk.cell st.res 2
              have d3 := Blk.cell st.res 3
              have g0 := Blk.frozen st.res 0
              have g1 := Blk.frozen st.res 1
              have g2 := Blk.frozen st.res 2
              have g3 := Blk.frozen st.res 3
              simp only [List.getElem?_cons_zero, List.getElem?_cons_succ] at d0 d1 d2 d3
              obtain ⟨q1, k1, ev1⟩ := Own.shape st.sig.o
              obtain ⟨q2, k2, ev2⟩ := Own.shape st.sig.s
              obtain ⟨q3, k3, ev3⟩ := Own.shape st.sig.d
              rw [hLO] at ev1
              rw [hLS] at ev2
              rw [sidTo_len] at ev3
              subst ev1 ev2 ev3
              have Done := Lib.hid st.done
              have HV2 : Hid (signR s l (m : Nat) t = ((↑m, LO, LSH, sidTo l m 4), true)) := Lib.hid (by rw [HV.out, Int.toNat_natCast])
              clear st hrd hap hrr hrl hrs
              rw [hr1]
              go_wp2_with fail
              refine bodyPost_ret (results_cell_row_tmpS rfl _ _ _ w.heap.size 46 #[.int .i64 (m : Nat), .slice q1 8 k1, .slice q2 8 k2, .slice q3 4 k3] (0, 0) _ _ rfl rfl Done.out.1 Tryd.underlying46 (by kernel_rfl)) rfl ?_
              rw [HV2.out]
              exact ⟨⟨_, _, _, _, rfl, Done.out.2.1⟩, Done.out.2.2⟩
    · have hgood : ¬ SignGood s l (m : Nat) t := fun h => hok ⟨h.2.1, by have h2 := h.2.2; rw [Int.toNat_natCast, hx] at h2; exact Option.some.inj h2⟩
      have HV := Lib.hid (signR_no hgood)
      have d0 := Blk.cell B1'.out 0
      have d1 := Blk.cell B1'.out 1
      have d2 := Blk.cell B1'.out 2
      have d3 := Blk.cell B1'.out 3
      have g0 := Blk.frozen B1'.out 0
      have g1 := Blk.frozen B1'.out 1
      have g2 := Blk.frozen B1'.out 2
      have g3 := Blk.frozen B1'.out 3
      simp only [List.getElem?_cons_zero, List.getElem?_cons_succ] at d0 d1 d2 d3
      have E4 := Lib.hid ((((B1'.out.set_ 0 (.int .i64 0)).set_ 1 (.slice none 0 0)).set_ 2 (.slice none 0 0)).set_ 3 (.slice none 0 0))
      have HF := Lib.hid ((((HB1.out.setCell (p := ⟨w.heap.size, 0, none⟩) (Nat.le_refl _) (.int .i64 0)).setCell (p := ⟨w.heap.size, 1, none⟩) (Nat.le_refl _) (.slice none 0 0)).setCell (p := ⟨w.heap.size, 2, none⟩) (Nat.le_refl _) (.slice none 0 0)).setCell (p := ⟨w.heap.size, 3, none⟩) (Nat.le_refl _) (.slice none 0 0))
      by_cases h100 : s.size ≤ 100
      · obtain ⟨f1, f2⟩ := full_text (HP16.out h100)
        have f3 : ((txt (pubL s (m : Nat))).toList == x.toList) = false := by
          rw [beq_eq_false_iff_ne]
          intro e
          rw [ByteArray.toList_eq, ByteArray.toList_eq] at e
          exact hok ⟨h100, (ByteArray.ext (Array.ext' e)).symm⟩
        generalize txt (pubL s (m : Nat)) = pk at *
        clear hgood hok hx HP16
        go_wp2_with fail
        refine bodyPost_ret (results_cell_row_tmpS rfl _ _ _ w.heap.size 46 #[.int .i64 0, .slice none 0 0, .slice none 0 0, .slice none 0 0] (0, 0) _ _ rfl rfl E4.out Tryd.underlying46 (by kernel_rfl)) rfl ?_
        rw [HV.out]
        exact ⟨⟨_, _, _, _, rfl, OwnSig.none_yet _ _ _ _⟩, HF.out⟩
      · have hp : pubL s (m : Nat) = [] := pubL_no (fun h => h100 h.1)
        rw [hp]
        have f1 : (txt []).toList.isEmpty = true := by rw [ByteArray.toList_eq, txt_data]; rfl
        have f2 : ((txt []).toList == []) = true := by rw [ByteArray.toList_eq, txt_data]; rfl
        generalize txt [] = pk at *
        clear hgood hok hx HP16 hp
        go_wp2_with fail
        refine bodyPost_ret (results_cell_row_tmpS rfl _ _ _ w.heap.size 46 #[.int .i64 0, .slice none 0 0, .slice none 0 0, .slice none 0 0] (0, 0) _ _ rfl rfl E4.out Tryd.underlying46 (by kernel_rfl)) rfl ?_
        rw [HV.out]
        exact ⟨⟨_, _, _, _, rfl, OwnSig.none_yet _ _ _ _⟩, HF.out⟩
  · have hgood : ¬ SignGood s l a t := fun h => hf h.1
    have HV := Lib.hid (signR_no hgood)
    clear HS R
    by_cases h16 : l.length = 16
    · have hne16 : ((l.length : Int) != 16) = false := by rw [h16]; rfl
      by_cases hin : 0 ≤ a ∧ a ≤ 15
      · have hgt : (200 : Int) < (t.size : Int) := by
          have : ¬ t.size ≤ 200 := fun h => hf ⟨h16, hin, h⟩
          omega
        have hwn : within a 0 15 = true := within_yes hin
        simp only [hwn] at CN
        clear hf hgood
        go_enter Tryd.func39, Tryd.ntmps39
        go_wp2_with fail
        refine (CN.out _).mono ?_
        rintro e w' ⟨rfl, rfl⟩
        go_wp2_with fail
        refine bodyPost_ret (results_cell_row_tmpS rfl _ _ _ w.heap.size 46 #[.int .i64 0, .slice none 0 0, .slice none 0 0, .slice none 0 0] (0, 0) _ _ rfl rfl B1.out Tryd.underlying46 (by kernel_rfl)) rfl ?_
        rw [HV.out]
        exact ⟨⟨_, _, _, _, rfl, OwnSig.none_yet _ _ _ _⟩, HB.out⟩
      · have hwn : within a 0 15 = false := within_not hin
        simp only [hwn] at CN
        clear hf hgood
        go_enter Tryd.func39, Tryd.ntmps39
        go_wp2_with fail
        refine (CN.out _).mono ?_
        rintro e w' ⟨rfl, rfl⟩
        go_wp2_with fail
        refine bodyPost_ret (results_cell_row_tmpS rfl _ _ _ w.heap.size 46 #[.int .i64 0, .slice none 0 0, .slice none 0 0, .slice none 0 0] (0, 0) _ _ rfl rfl B1.out Tryd.underlying46 (by kernel_rfl)) rfl ?_
        rw [HV.out]
        exact ⟨⟨_, _, _, _, rfl, OwnSig.none_yet _ _ _ _⟩, HB.out⟩
    · have hne16 : ((l.length : Int) != 16) = true := by rw [bne_iff_ne]; omega
      clear hf hgood CN
      go_enter Tryd.func39, Tryd.ntmps39
      go_wp2_with fail
      refine bodyPost_ret (results_cell_row_tmpS rfl _ _ _ w.heap.size 46 #[.int .i64 0, .slice none 0 0, .slice none 0 0, .slice none 0 0] (0, 0) _ _ rfl rfl B1.out Tryd.underlying46 (by kernel_rfl)) rfl ?_
      rw [HV.out]
      exact ⟨⟨_, _, _, _, rfl, OwnSig.none_yet _ _ _ _⟩, HB.out⟩

end Go.Proofs.YtcehbmlibfalaaaDoor
