/-
  The walks of the draw of a signature of a text.
-/
import Derived.Test.YtcehbmlibfalaaaDoorBase7
import Derived.Test.YtcehbmlibfalaaaDoorJDraw2
import Derived.Test.YtcehbmlibfalaaaDoorJPool2
import Derived.Test.YtcehbmlibfalaaaDoorJPool4
import Derived.Test.YtcehbmlibfalaaaDoorJSign1
namespace Go.Proofs.YtcehbmlibfalaaaDoor
open Go.RowKit

def seedL : List ByteArray := [⟨#[111, 110, 101]⟩, ⟨#[116, 119, 111]⟩, ⟨#[116, 104, 114, 101, 101]⟩]
theorem seedL_ok : ∀ s ∈ seedL, s.size ≤ 100 := by decide +kernel

theorem results_tmp2_cell {fn : Func} {p u v : Tmp} {ty : TypeId} (h : fn.results = #[.tmp u, .tmp v, .cell p ty]) (tmps : Array Value) (P : Program) (w : World) :
    (results fn tmps).run P w =
      ((asAddr (tmps.getD p undef)).run P w).andThen fun a w₁ => ((loadVar ty a).run P w₁).andThen fun y w₂ => .ok (.tuple #[tmps.getD u undef, tmps.getD v undef, y]) w₂ := by
  simp only [results, h]
  simp [Sem.run_bind, Result.andThen]
theorem results_tmp2_cell_row {fn : Func} {p u v : Tmp} {ty : TypeId} (h : fn.results = #[.tmp u, .tmp v, .cell p ty]) (tmps : Array Value) (P : Program) (w : World) (g : Nat) (t : TypeId) (cs : Array Value) (fr : Nat × Nat) (fs : Array Field) (xu xv : Value)
    (hp : tmps.getD p undef = .pointer (some ⟨g, 0, none⟩)) (hu : tmps.getD u undef = xu) (hv : tmps.getD v undef = xv) (hg : w.heap[g]? = some (.cells cs t fr))
    (hf : P.underlying ty = some (.struct fs)) (hi : (P.info? ty).map (·.size) = some cs.size) :
    (results fn tmps).run P w = .ok (.tuple #[xu, xv, .agg cs]) w := by
  rw [results_tmp2_cell h, hp, hu, hv]
  have e := run_loadVar_row w g t ty cs fr _ hg hf rfl hi
  simp [asAddr, Result.andThen]
  rw [e]

/-- A root, a text, and a signature of it that is right. -/
def SignedDrawn (B : Nat) (e : Ending) (w' : World) : Prop :=
  ∃ r t v p o s d, e = .returned (.tuple #[.string r, .string t, v]) ∧ (∃ vo vs vd C, OwnSig w' B C v p vo vs vd o s d) ∧ SigGood t p o s d ∧ sigRoot t p o s d 4 = r ∧ t.size ≤ 9

set_option maxHeartbeats 1000000 in
theorem l05Seed_any (w0 : World) (n g : Nat) (w : World) (h : Cur 81 w0 n w g) :
    Calls Tryd.prog 81 #[.pointer (some ⟨g, 0, none⟩)] w (DrawnS 81 (· ∈ seedL) w0 n g w) := by
  have hgl := h.lt
  have C := Lib.hid (l01Pick_any w0 n g (some ⟨w.heap.size, 0, none⟩) 3 seedL (by decide) (by decide) _ (Cur.alloc h _) (rdC_new w (strC seedL) _ rfl 9) (fun b off e => by cases e; omega))
  clear h
  go_enter Tryd.func81, Tryd.ntmps81
  go_wp2_with fail
  refine C.out.mono ?_
  rintro e w1 ⟨⟨s, hs, rfl⟩, hc, hg⟩
  have Hs := Lib.hid hs
  have Hc := Lib.hid hc
  have Hg := Lib.hid (grownBy_trans (grownBy_alloc' (World.grownBy.refl w (some g)) _) hg)
  clear hc hg hs
  go_wp2_with fail
  go_ret
  exact ⟨⟨_, Hs.out, rfl⟩, Hc.out, Hg.out⟩

set_option maxHeartbeats 4000000 in
set_option maxRecDepth 100000 in
theorem l05Signed_any (w0 : World) (n g : Nat) (w : World) (h : Cur 81 w0 n w g) :
    Calls Tryd.prog 72 #[.pointer (some ⟨g, 0, none⟩)] w fun e w' => SignedDrawn w.heap.size e w' ∧ Below w0.heap.size w0 w' := by
  have hge := h.ge
  have hgl := h.lt
  have b2 := Blk.new w 46 [.int .i64 0, .slice none 0 0, .slice none 0 0, .slice none 0 0] _ rfl
  have hz := alloc_size w (.cells #[.int .i64 0, .slice none 0 0, .slice none 0 0, .slice none 0 0] 46)
  have C := Lib.hid (l05Seed_any w0 n g _ (Cur.alloc h (.cells #[.int .i64 0, .slice none 0 0, .slice none 0 0, .slice none 0 0] 46)))
  have B0 := Lib.hid b2
  have HW := Lib.hid h.below.size
  clear h b2
  go_enter Tryd.func72, Tryd.ntmps72
  go_wp2_with fail
  generalize w.alloc (.cells #[.int .i64 0, .slice none 0 0, .slice none 0 0, .slice none 0 0] 46) = wA at *
  refine C.out.mono ?_
  rintro e w1 ⟨⟨s, hs, rfl⟩, hc, hg⟩
  have Hs := Lib.hid (seedL_ok s hs)
  have B1 := Lib.hid (B0.out.kept hg (fun e => by have := Option.some.inj e; omega))
  have C1 := Lib.hid (l01Below_any w0 n g 16 (by omega) (by omega) w1 hc)
  clear hs hc hg C B0
  go_wp2_with fail
  refine C1.out.mono ?_
  rintro e w2 ⟨⟨a, a0, a1, rfl⟩, hc, hg⟩
  have B2 := Lib.hid (B1.out.kept hg (fun e => by have := Option.some.inj e; omega))
  have C2 := Lib.hid (l01Below_any w0 n g 9 (by omega) (by omega) w2 hc)
  obtain ⟨m, rfl⟩ := Int.eq_ofNat_of_zero_le a0
  have hm : m < 16 := by omega
  clear hc hg C1 B1 a0 a1
  go_wp2_with fail
  refine C2.out.mono ?_
  rintro e w3 ⟨⟨k, k0, k1, rfl⟩, hc, hg⟩
  have B3 := Lib.hid (B2.out.kept hg (fun e => by have := Option.some.inj e; omega))
  obtain ⟨k', rfl⟩ := Int.eq_ofNat_of_zero_le k0
  have C3 := l01Text_any w0 n g (1 + k') (by omega) w3 hc
  rw [show ((1 + k' : Nat) : Int) = 1 + (k' : Int) by omega] at C3
  have C4 := Lib.hid C3
  clear hc hg C2 B2 C3
  go_wp2_with fail
  refine C4.out.mono ?_
  rintro e w4 ⟨⟨t, ht, rfl⟩, hc, hg⟩
  have ht9 : t.size ≤ 9 := by have h9 : t.size = 1 + k' := ht; omega
  have B4 := Lib.hid (B3.out.kept hg (fun e => by have := Option.some.inj e; omega))
  have HB4 := Lib.hid hc.below
  have hs100 : s.size ≤ 100 := Hs.out
  have C5 := Lib.hid (sPoolOf_any s (by omega) w4)
  clear hc hg C4 B3 ht
  have SM := Lib.hid (sig_made hs100 hm (show t.size ≤ 200 by omega))
  have SR := Lib.hid (signR_yes (signGood_made hs100 hm (show t.size ≤ 200 by omega)))
  have PW := Lib.hid (pool_wide hs100)
  have PL := Lib.hid (poolTo_len s 16)
  generalize poolTo s 16 = l at *
  go_wp2_with fail
  refine C5.out.mono ?_
  rintro e w5 ⟨⟨vp, rfl, hop⟩, hb5⟩
  have B5 := Lib.hid (B4.out.below hb5 B4.out.lt)
  have HB5 := Lib.hid (HB4.out.trans (hb5.mono HB4.out.size))
  obtain ⟨qp, kp, rfl, rp⟩ := hop.rd
  have RP := Lib.hid rp
  have C6 := Lib.hid (sSignText_any s qp kp l (m : Nat) t w5 (by omega) (by omega) (fun x hx => by have := PW.out x hx; omega) rp)
  clear hop rp hb5 C5 B4 HB4
  go_wp2_with fail
  refine C6.out.mono ?_
  rw [SR.out]
  rintro e w6 ⟨⟨vs, vo, vh, vd, rfl, hos⟩, hb6⟩
  have hO := opnTo_len s (m : Nat) (signB t : Nat) 8
  have hS := shtTo_len s (m : Nat) (signB t : Nat) 8
  have hD := sidTo_len l m 4
  dsimp only at hos
  rw [Int.toNat_natCast] at hos
  have rs := hos.rd
  generalize opnTo s (m : Nat) (signB t : Nat) 8 = O at *
  generalize shtTo s (m : Nat) (signB t : Nat) 8 = S at *
  generalize sidTo l m 4 = D at *
  obtain ⟨x1, k1, x2, k2, x3, k3, rfl, -, -, -⟩ := rs
  rw [hO, hS, hD] at *
  have B6 := Lib.hid (B5.out.below hb6 B5.out.lt)
  have HB6 := Lib.hid (HB5.out.trans (hb6.mono HB5.out.size))
  have RP6 := Lib.hid (RP.out.below hb6 (Nat.le_refl _))
  have RS6 := Lib.hid hos
  have LT5 := Lib.hid B5.out.lt
  have hb7 := (Below.refl w6.heap.size w6).alloc (Nat.le_refl _) (.cells #[.int .i64 (m : Nat), .slice x1 8 k1, .slice x2 8 k2, .slice x3 4 k3] 46)
  have hz7 := alloc_size w6 (.cells #[.int .i64 (m : Nat), .slice x1 8 k1, .slice x2 8 k2, .slice x3 4 k3] 46)
  have BD := Lib.hid (Blk.new w6 46 [.int .i64 (m : Nat), .slice x1 8 k1, .slice x2 8 k2, .slice x3 4 k3] _ rfl)
  have B7 := Lib.hid (B6.out.below hb7 B6.out.lt)
  have HB7 := Lib.hid (HB6.out.trans (hb7.mono HB6.out.size))
  have RP7 := Lib.hid (RP6.out.below hb7 (Nat.le_refl _))
  have RS7 := Lib.hid (RS6.out.below hb7 (Nat.le_refl _))
  have LT6 := Lib.hid B6.out.lt
  clear hos hb6 hb7 hO hS hD B5 B6 HB5 HB6 RP RP6 RS6 C6 SR
  go_wp2_with fail
  generalize w6.alloc (.cells #[.int .i64 (m : Nat), .slice x1 8 k1, .slice x2 8 k2, .slice x3 4 k3] 46) = w7 at *
  have c0 := BD.out.cell 0
  have c1 := BD.out.cell 1
  have c2 := BD.out.cell 2
  have c3 := BD.out.cell 3
  simp only [List.getElem?_cons_zero, List.getElem?_cons_succ] at c0 c1 c2 c3
  have CR := Lib.hid (sPoolRoot_any qp kp l w7.drew (by have := PL.out; omega) (fun x hx => by have := PW.out x hx; omega) (RP7.out.below (bDrewN (Below.refl _ _) 1) (Nat.le_refl _)))
  go_region_with (first
    | (go_at_call 14; (refine CR.out.mono ?_); rintro e w8 ⟨rfl, hb8⟩; have BD8 := Lib.hid ((BD.out.drewN 1).below hb8 (BD.out.drewN 1).lt); have c0 := BD8.out.cell 0; have c1 := BD8.out.cell 1; have c2 := BD8.out.cell 2; have c3 := BD8.out.cell 3; have R8 := Lib.hid ((B7.out.drewN 1).below hb8 (B7.out.drewN 1).lt); have d0 := R8.out.cell 0; have d1 := R8.out.cell 1; have d2 := R8.out.cell 2; have d3 := R8.out.cell 3; have f0 := Blk.frozen R8.out 0; have f1 := Blk.frozen R8.out 1; have f2 := Blk.frozen R8.out 2; have f3 := Blk.frozen R8.out 3; simp only [List.getElem?_cons_zero, List.getElem?_cons_succ] at c0 c1 c2 c3 d0 d1 d2 d3; have FIN := Lib.hid hb8))
  all_goals
    have hb9 := HB7.out.trans (((bDrewN (Below.refl _ _) 1 : Below w7.heap.size w7 w7.drew).trans FIN.out).mono HB7.out.size)
    have OS8 := (RS7.out.below (bDrewN (Below.refl _ _) 1 : Below w7.heap.size w7 w7.drew) (Nat.le_refl _)).below FIN.out (Nat.le_refl _)
    have hlt : w.heap.size < w5.heap.size := LT5.out
    have RD := Lib.hid (((((OS8.far (a := ⟨w.heap.size, 0, none⟩) hlt (.int .i64 (m : Nat))).far (a := ⟨w.heap.size, 1, none⟩) hlt (.slice x1 8 k1)).far (a := ⟨w.heap.size, 2, none⟩) hlt (.slice x2 8 k2)).far (a := ⟨w.heap.size, 3, none⟩) hlt (.slice x3 4 k3)).lower (Nat.le_of_lt hlt) (Nat.le_refl _))
    have E := Lib.hid ((((R8.out.set_ 0 (.int .i64 (m : Nat))).set_ 1 (.slice x1 8 k1)).set_ 2 (.slice x2 8 k2)).set_ 3 (.slice x3 4 k3))
    have FB := Lib.hid ((((hb9.setCell (p := ⟨w.heap.size, 0, none⟩) HW.out (.int .i64 (m : Nat))).setCell (p := ⟨w.heap.size, 1, none⟩) HW.out (.slice x1 8 k1)).setCell (p := ⟨w.heap.size, 2, none⟩) HW.out (.slice x2 8 k2)).setCell (p := ⟨w.heap.size, 3, none⟩) HW.out (.slice x3 4 k3))
    clear hb9 OS8 BD8 R8 FIN hb8 c0 c1 c2 c3 d0 d1 d2 d3 f0 f1 f2 f3 BD B7 HB7 RP7 RS7 CR
    go_wp2_with fail
    refine bodyPost_ret (results_tmp2_cell_row rfl _ _ _ w.heap.size 46 #[.int .i64 (m : Nat), .slice x1 8 k1, .slice x2 8 k2, .slice x3 4 k3] (0, 0) _ _ _ rfl rfl rfl E.out Tryd.underlying46 (by kernel_rfl)) rfl ?_
    exact ⟨⟨_, _, _, _, _, _, _, rfl, ⟨_, _, _, _, RD.out⟩, SM.out.1, SM.out.2, ht9⟩, FB.out⟩

set_option maxHeartbeats 2000000 in
theorem drawSigned_any (ao : Option Addr) (cap n : Nat) (w : World) (hn : n ≤ 1048576) (h : Bytes w ao n) :
    Calls Tryd.prog 41 #[.slice ao n cap] w fun e w' => SignedDrawn w.heap.size e w' ∧ Below w.heap.size w w' := by
  have hB := (Below.refl w.heap.size w).alloc (Nat.le_refl _) (.cells #[.int .i64 0, .slice none 0 0, .slice none 0 0, .slice none 0 0] 46)
  have hz := alloc_size w (.cells #[.int .i64 0, .slice none 0 0, .slice none 0 0, .slice none 0 0] 46)
  have b2 := Blk.new w 46 [.int .i64 0, .slice none 0 0, .slice none 0 0, .slice none 0 0] _ rfl
  have C := Lib.hid (l01New_any ao cap n _ hn (h.below hB (Nat.le_refl _)))
  have HB := Lib.hid hB
  have HZ := Lib.hid hz
  have B2 := Lib.hid b2
  clear h hz hB b2
  go_enter Tryd.func41, Tryd.ntmps41
  go_wp2_with fail
  generalize w.alloc (.cells #[.int .i64 0, .slice none 0 0, .slice none 0 0, .slice none 0 0] 46) = wA at *
  refine C.out.mono ?_
  rintro e w1 ⟨⟨g, rfl, hc1⟩, hb1⟩
  have C1 := Lib.hid (l05Signed_any wA n g w1 hc1)
  have HB1 := Lib.hid hb1
  clear hc1 hb1 C
  go_wp2_with fail
  refine C1.out.mono ?_
  rintro e w2 ⟨⟨r, t, v, p, o, s, d, rfl, ⟨vo, vs, vd, Cx, ho⟩, hg, hrt, ht⟩, hb2⟩
  obtain ⟨x1, k1, x2, k2, x3, k3, rfl, -, -, -⟩ := ho.rd
  have hlt : w.heap.size < w1.heap.size := by have := HB1.out.size; have := HZ.out; omega
  have B3 := Lib.hid (B2.out.below hb2 (by have := HZ.out; omega))
  have HG := Lib.hid (And.intro hg (And.intro hrt ht))
  have e0 := B3.out.cell 0
  have e1 := B3.out.cell 1
  have e2 := B3.out.cell 2
  have e3 := B3.out.cell 3
  have f0 := Blk.frozen B3.out 0
  have f1 := Blk.frozen B3.out 1
  have f2 := Blk.frozen B3.out 2
  have f3 := Blk.frozen B3.out 3
  simp only [List.getElem?_cons_zero, List.getElem?_cons_succ] at e0 e1 e2 e3
  have E := Lib.hid ((((B3.out.set_ 0 (.int .i64 p)).set_ 1 (.slice x1 o.length k1)).set_ 2 (.slice x2 s.length k2)).set_ 3 (.slice x3 d.length k3))
  have hb9 := HB.out.trans (hb2.mono HB.out.size)
  have RD := Lib.hid (((((ho.far (a := ⟨w.heap.size, 0, none⟩) hlt (.int .i64 p)).far (a := ⟨w.heap.size, 1, none⟩) hlt (.slice x1 o.length k1)).far (a := ⟨w.heap.size, 2, none⟩) hlt (.slice x2 s.length k2)).far (a := ⟨w.heap.size, 3, none⟩) hlt (.slice x3 d.length k3)).lower (Nat.le_of_lt hlt) (Nat.le_refl _))
  have FB := Lib.hid ((((hb9.setCell (p := ⟨w.heap.size, 0, none⟩) (Nat.le_refl _) (.int .i64 p)).setCell (p := ⟨w.heap.size, 1, none⟩) (Nat.le_refl _) (.slice x1 o.length k1)).setCell (p := ⟨w.heap.size, 2, none⟩) (Nat.le_refl _) (.slice x2 s.length k2)).setCell (p := ⟨w.heap.size, 3, none⟩) (Nat.le_refl _) (.slice x3 d.length k3))
  go_wp2_with fail
  refine bodyPost_ret (results_tmp2_cell_row rfl _ _ _ w.heap.size 46 #[.int .i64 p, .slice x1 o.length k1, .slice x2 s.length k2, .slice x3 d.length k3] (0, 0) _ _ _ rfl rfl rfl E.out Tryd.underlying46 (by kernel_rfl)) rfl ?_
  exact ⟨⟨_, _, _, _, _, _, _, rfl, ⟨_, _, _, _, RD.out⟩, HG.out.1, HG.out.2.1, HG.out.2.2⟩, FB.out⟩

end Go.Proofs.YtcehbmlibfalaaaDoor
