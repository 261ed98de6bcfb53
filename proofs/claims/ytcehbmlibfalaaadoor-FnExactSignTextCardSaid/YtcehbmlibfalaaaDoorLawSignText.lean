/-
  For every seed, pool, place and text (of at most 2^20 bytes; longer ones are passed by) the program's SignText and the reference's return the same, the pool stays, and what the program handed out is its caller's: 'FnExactSignText' returns true. No conditions.
-/
import Derived.Test.YtcehbmlibfalaaaDoorFrameT
import Derived.Test.YtcehbmlibfalaaaDoorFrameS
import Derived.Test.YtcehbmlibfalaaaDoorSign1
import Derived.Test.YtcehbmlibfalaaaDoorStrs1
import Derived.Test.YtcehbmlibfalaaaDoorSig3
import Derived.Test.YtcehbmlibfalaaaDoorSig4
namespace Go.Proofs.YtcehbmlibfalaaaDoor.fnExactSignText
open Go.ChangeShapes Go.WideShapes Go.ChangeAt Go.RowKit
open Go.ChangeMaps (open_string shut_string)
set_option linter.unusedVariables false

theorem blk_within {w w' : World} {g lo hi : Nat} {t : TypeId} {cs : List Value} (h : Blk w g t cs) (hw : Within lo hi w w') (hn : ¬ (lo ≤ g ∧ g < hi)) : Blk w' g t cs := (hw.block g h.lt hn).trans h
theorem ownSig_within {w w' : World} {B C lo hi : Nat} {v : Value} {p : Int} {vo vs vd : Value} {o s d : List ByteArray} (h : OwnSig w B C v p vo vs vd o s d) (hw : Within lo hi w w') (hB : hi ≤ B) : OwnSig w' B C v p vo vs vd o s d :=
  { h with o := h.o.within hw (fun k hk hn => by have := (Own.block h.o _ hk).1; omega), s := h.s.within hw (fun k hk hn => by have := (Own.block h.s _ hk).1; omega), d := h.d.within hw (fun k hk hn => by have := (Own.block h.d _ hk).1; omega) }
theorem totS_le {l : List ByteArray} : l.length ≤ totS l := by unfold totS; omega
theorem totS_in {l : List ByteArray} {x : ByteArray} (h : x ∈ l) : x.size ≤ totS l := by
  induction l with
  | nil => cases h
  | cons y l ih =>
    unfold totS at ih ⊢
    simp only [List.map_cons, List.sum_cons, List.length_cons]
    rcases List.mem_cons.1 h with rfl | h
    · omega
    · have := ih h; omega

set_option maxHeartbeats 8000000 in
set_option maxRecDepth 100000 in
theorem walk (a0 : ByteArray) (a1 : Option Addr) (len1 cap1 : Nat) (z1 : List ByteArray) (a2 : Int) (a3 : ByteArray) (w : World) (w0 : a0.size ≤ maxLen) (w1 : IsStrs w a1 len1 cap1 z1) (w2 : (Lit.int .i64 a2).wf = true) (w3 : a3.size ≤ maxLen) (hL : laidMetH Tryd.prog Rows.fnExactSignTextRow.laid w) :
    Calls Tryd.prog 9 #[.string a0, .slice a1 len1 cap1, .int .i64 a2, .string a3] w fun e w' => e = .returned (.bool true) ∧ Below w.heap.size w w' := by
  have HT := Lib.hid (tabsMet hL)
  obtain ⟨rfl, hmax, heach, hrd⟩ := w1
  unfold maxLen at w0 w3 hmax heach
  clear hL w2
  by_cases hs0 : a0.size ≤ 1048576
  · by_cases hs3 : a3.size ≤ 1048576
    · have CZ := szStringS_any a1 cap1 z1 1048576 w hmax heach (by omega) (by omega) hrd
      by_cases ht : (totS z1 : Int) ≤ 1048576
      · rw [szV_yes ht] at CZ
        have hzl : z1.length ≤ 1048576 := by have := totS_le (l := z1); omega
        have hzs : ∀ x ∈ z1, x.size ≤ 1048576 := fun x hx => by have := totS_in hx; omega
        have hneg : ¬ ((1048576 : Int) - totS z1 < 0) := by omega
        generalize (1048576 : Int) - totS z1 = L1 at *
        have CS := fun v W (h : ∃ a c, v = .slice a z1.length c ∧ RdS W a z1) => (by obtain ⟨a, c, rfl, h⟩ := h; exact sSignText_any a0 a c z1 a2 a3 W hs0 hs3 hzs h : Calls Tryd.prog 38 #[.string a0, v, .int .i64 a2, .string a3] W fun e w' => GivesSig2 W.heap.size (signR a0 z1 a2 a3) e w' ∧ Below W.heap.size W w')
        have CI := fun v W (h : ∃ a c, v = .slice a z1.length c ∧ RdS W a z1) (hx : YtcehbmlibfalaaaDoorTabs W) => (by obtain ⟨a, c, rfl, h⟩ := h; exact iSignText_any a0 a c z1 a2 a3 W hs0 hs3 hzs h hx : Calls Tryd.prog 39 #[.string a0, v, .int .i64 a2, .string a3] W fun e w' => GivesSig2 W.heap.size (signR a0 z1 a2 a3) e w' ∧ Below W.heap.size W w')
        have hlen := signR_len a0 z1 a2 a3
        generalize signR a0 z1 a2 a3 = rv at *
        obtain ⟨⟨p, o, s, d⟩, rb⟩ := rv
        simp only at hlen
        obtain ⟨ho8, hs8, hd4⟩ := hlen
        have CT := Lib.hid (fun W h => toStringS_any a1 cap1 z1 W hzl h)
        have CES := Lib.hid (fun a c a' c' W h1 h2 => eqStringS_any a a' c c' z1 z1 W (by omega) (by omega) h1 h2)
        have CE := Lib.hid (fun v1 v2 W h1 h2 => eqSig_any v1 v2 p o s d W (by omega) (by omega) (by omega) h1 h2)
        have CM := fun v B W h => markStringS_any v z1 B 1 W hzl (by omega) (by omega) h
        have CMG := fun v vo vs vd B C W hC h => markSig_any v p vo vs vd o s d B C 1 W hC (by omega) (by omega) (by omega) (by omega) (by omega) h
        have CHG := fun v W h => heldSig_any v p o.length s.length d.length 1 W (by omega) (by omega) (by omega) (by omega) (by omega) h
        simp only [Int.natCast_one] at CM CMG CHG
        have hn1 : ¬ ((1 : Int) + z1.length < 0) := by omega
        have hn2 : ¬ ((1 : Int) + o.length + s.length + d.length < 0) := by omega
        have e2 : (((1 : Int) + o.length + s.length + d.length) != ((1 : Int) + o.length + s.length + d.length)) = false := by simp
        have e1 : (rb != rb) = false := by simp
        have e3 : decide (z1 = z1) = true := decide_eq_true rfl
        generalize (1 : Int) + o.length + s.length + d.length = KR at *
        generalize (1 : Int) + z1.length = K1 at *
        have DZ := Lib.hid CZ
        have DS := Lib.hid CS
        have DI := Lib.hid CI
        have DM := Lib.hid CM
        have DMG := Lib.hid CMG
        have DHG := Lib.hid CHG
        have R1 := Lib.hid (fun W (hW : Below w.heap.size w W) => hrd.below hW (Nat.le_refl _))
        have HB := Lib.hid (Below.refl w.heap.size w)
        clear CZ CS CI CM CMG CHG hrd hmax heach hzs ht
        go_enter Tryd.func9, Tryd.ntmps9
        go_wp2_with fail
        refine DZ.out.mono ?_
        rintro e _ ⟨rfl, rfl⟩
        go_wp2_with fail
        refine (CT.out w (R1.out _ HB.out)).mono ?_
        rintro e w1 ⟨⟨vp, rfl, hop⟩, hb⟩
        have HB_ := Lib.hid (HB.out.trans (hb.mono HB.out.size))
        clear HB
        have HB := HB_
        clear HB_
        obtain ⟨qp, kp, rfl, rp⟩ := hop.rd
        have RP := Lib.hid rp
        clear hb hop rp
        go_wp2_with fail
        refine (DS.out _ w1 ⟨_, _, rfl, RP.out⟩).mono ?_
        rintro e w2 ⟨⟨vw, wo, ws, wd, rfl, hos⟩, hb⟩
        have sw := hos.rd
        obtain ⟨xa, xk, ya, yk, za, zk, rfl, -, -, -⟩ := id sw
        clear hos RP
        have HB_ := Lib.hid (HB.out.trans (hb.mono HB.out.size))
        clear HB
        have HB := HB_
        clear HB_
        clear hb
        have SW := Lib.hid sw
        clear sw
        have hb := (Below.refl w2.heap.size w2).alloc (Nat.le_refl _) (.cells #[.int .i64 p, .slice xa o.length xk, .slice ya s.length yk, .slice za d.length zk] 46)
        have BW := Lib.hid (Blk.new w2 46 [.int .i64 p, .slice xa o.length xk, .slice ya s.length yk, .slice za d.length zk] _ rfl)
        have HB_ := Lib.hid (HB.out.trans (hb.mono HB.out.size))
        have SW_ := Lib.hid (SW.out.below hb (Nat.le_refl _))
        clear HB SW
        have HB := HB_
        have SW := SW_
        clear HB_ SW_
        clear hb
        have SW0 := SW
        have HB0 := HB
        go_wp2_with fail
        refine (CT.out _ (R1.out _ HB.out)).mono ?_
        rintro e w3 ⟨⟨vx, rfl, hox⟩, hb⟩
        have HB_ := Lib.hid (HB.out.trans (hb.mono HB.out.size))
        have SW_ := Lib.hid (SW.out.below hb (Nat.le_refl _))
        have BW_ := Lib.hid (BW.out.below hb BW.out.lt)
        clear HB SW BW
        have HB := HB_
        have SW := SW_
        have BW := BW_
        clear HB_ SW_ BW_
        obtain ⟨qx, kx, hvx⟩ := Own.shape hox
        subst hvx
        have X := Lib.hid hox
        have XLT : Hid (∀ k, Value.ownBlock (.slice qx z1.length kx) = some k → k < w3.heap.size) := Lib.hid (fun k hk => (Own.block hox k hk).2)
        have HBX0 : Hid (w.heap.size ≤ (w2.alloc (.cells #[.int .i64 p, .slice xa o.length xk, .slice ya s.length yk, .slice za d.length zk] 46)).heap.size) := Lib.hid HB0.out.size
        have BWL : Hid (w2.heap.size < (w2.alloc (.cells #[.int .i64 p, .slice xa o.length xk, .slice ya s.length yk, .slice za d.length zk] 46)).heap.size) := Lib.hid (by rw [alloc_size]; exact Nat.lt_succ_self _)
        have hbx := hb.size
        clear hb hox
        obtain ⟨_, _, eq_, rx⟩ := OwnS.rd X.out
        cases eq_
        have RX := Lib.hid rx
        clear rx
        go_wp2_with fail
        refine (DI.out _ _ ⟨_, _, rfl, RX.out⟩ (HT.out.below HB.out (Nat.le_refl _))).mono ?_
        rintro e w4 ⟨⟨vg, go, gs, gd, rfl, hog⟩, hb⟩
        have hszg := hb.size
        have HB_ := Lib.hid (HB.out.trans (hb.mono HB.out.size))
        have SW_ := Lib.hid (SW.out.below hb (Nat.le_refl _))
        have BW_ := Lib.hid (BW.out.below hb BW.out.lt)
        have X_ := Lib.hid (X.out.below hb (Nat.le_refl _))
        clear HB SW BW X
        have HB := HB_
        have SW := SW_
        have BW := BW_
        have X := X_
        clear HB_ SW_ BW_ X_
        clear hb RX
        obtain ⟨qo, ko, ego⟩ := Own.shape hog.o
        obtain ⟨qs, ks, egs⟩ := Own.shape hog.s
        obtain ⟨qd, kd, egd⟩ := Own.shape hog.d
        subst ego egs egd
        have hvg := hog.eq
        subst hvg
        have SG := Lib.hid hog
        clear hog
        have BGL : Hid (w3.heap.size ≤ w4.heap.size) := Lib.hid hszg
        have HBG0 : Hid (w.heap.size ≤ w3.heap.size) := Lib.hid (Nat.le_trans HBX0.out hbx)
        have LWG : Hid ((w2.alloc (.cells #[.int .i64 p, .slice xa o.length xk, .slice ya s.length yk, .slice za d.length zk] 46)).heap.size ≤ w3.heap.size) := Lib.hid hbx
        have BWL2 : Hid (w2.heap.size < w3.heap.size) := Lib.hid (Nat.lt_of_lt_of_le BWL.out hbx)
        clear hszg
        have hb := (Below.refl w4.heap.size w4).alloc (Nat.le_refl _) (.cells #[.int .i64 p, .slice qo o.length ko, .slice qs s.length ks, .slice qd d.length kd] 46)
        have BG := Lib.hid (Blk.new w4 46 [.int .i64 p, .slice qo o.length ko, .slice qs s.length ks, .slice qd d.length kd] _ rfl)
        have HB_ := Lib.hid (HB.out.trans (hb.mono HB.out.size))
        have SW_ := Lib.hid (SW.out.below hb (Nat.le_refl _))
        have BW_ := Lib.hid (BW.out.below hb BW.out.lt)
        have X_ := Lib.hid (X.out.below hb (Nat.le_refl _))
        have SG_ := Lib.hid (SG.out.below hb (Nat.le_refl _))
        clear HB SW BW X SG
        have HB := HB_
        have SW := SW_
        have BW := BW_
        have X := X_
        have SG := SG_
        clear HB_ SW_ BW_ X_ SG_
        clear hb
        have c_BG0 := Blk.cell BG.out 0
        have c_BG1 := Blk.cell BG.out 1
        have c_BG2 := Blk.cell BG.out 2
        have c_BG3 := Blk.cell BG.out 3
        simp only [List.getElem?_cons_zero, List.getElem?_cons_succ] at c_BG0 c_BG1 c_BG2 c_BG3
        have c_BW0 := Blk.cell BW.out 0
        have c_BW1 := Blk.cell BW.out 1
        have c_BW2 := Blk.cell BW.out 2
        have c_BW3 := Blk.cell BW.out 3
        simp only [List.getElem?_cons_zero, List.getElem?_cons_succ] at c_BW0 c_BW1 c_BW2 c_BW3
        go_wp2_with fail
        refine (CE.out _ _ _ (OwnSig.rd SG.out) SW.out).mono ?_
        rintro e w5 ⟨rfl, hb⟩
        clear c_BG0 c_BG1 c_BG2 c_BG3 c_BW0 c_BW1 c_BW2 c_BW3
        have HB_ := Lib.hid (HB.out.trans (hb.mono HB.out.size))
        have SW_ := Lib.hid (SW.out.below hb (Nat.le_refl _))
        have BW_ := Lib.hid (BW.out.below hb BW.out.lt)
        have X_ := Lib.hid (X.out.below hb (Nat.le_refl _))
        have SG_ := Lib.hid (SG.out.below hb (Nat.le_refl _))
        have BG_ := Lib.hid (BG.out.below hb BG.out.lt)
        clear HB SW BW X SG BG
        have HB := HB_
        have SW := SW_
        have BW := BW_
        have X := X_
        have SG := SG_
        have BG := BG_
        clear HB_ SW_ BW_ X_ SG_ BG_
        clear hb
        go_wp2_with fail
        refine (CT.out _ (R1.out _ HB.out)).mono ?_
        rintro e w6 ⟨⟨vy, rfl, hoy⟩, hb⟩
        have HB_ := Lib.hid (HB.out.trans (hb.mono HB.out.size))
        have SW_ := Lib.hid (SW.out.below hb (Nat.le_refl _))
        have BW_ := Lib.hid (BW.out.below hb BW.out.lt)
        have X_ := Lib.hid (X.out.below hb (Nat.le_refl _))
        have SG_ := Lib.hid (SG.out.below hb (Nat.le_refl _))
        have BG_ := Lib.hid (BG.out.below hb BG.out.lt)
        clear HB SW BW X SG BG
        have HB := HB_
        have SW := SW_
        have BW := BW_
        have X := X_
        have SG := SG_
        have BG := BG_
        clear HB_ SW_ BW_ X_ SG_ BG_
        obtain ⟨qy, ky, rfl, ry⟩ := hoy.rd
        have RY := Lib.hid ry
        obtain ⟨_, _, eq_, rx⟩ := OwnS.rd X.out
        cases eq_
        have RX := Lib.hid rx
        clear hb hoy ry rx
        go_wp2_with fail
        refine (CES.out _ _ _ _ _ RX.out RY.out).mono ?_
        rintro e w7 ⟨rfl, hb⟩
        have HB_ := Lib.hid (HB.out.trans (hb.mono HB.out.size))
        have SW_ := Lib.hid (SW.out.below hb (Nat.le_refl _))
        have BW_ := Lib.hid (BW.out.below hb BW.out.lt)
        have X_ := Lib.hid (X.out.below hb (Nat.le_refl _))
        have SG_ := Lib.hid (SG.out.below hb (Nat.le_refl _))
        have BG_ := Lib.hid (BG.out.below hb BG.out.lt)
        clear HB SW BW X SG BG
        have HB := HB_
        have SW := SW_
        have BW := BW_
        have X := X_
        have SG := SG_
        have BG := BG_
        clear HB_ SW_ BW_ X_ SG_ BG_
        clear hb RX RY
        have XB := Lib.hid (Own.block X.out)
        go_wp2_with fail
        refine (DM.out _ _ _ X.out).mono ?_
        rintro e w8 ⟨rfl, hom, hg⟩
        have hwx : Within (w2.alloc (.cells #[.int .i64 p, .slice xa o.length xk, .slice ya s.length yk, .slice za d.length zk] 46)).heap.size w3.heap.size w7 w8 := Within.of_grown hg (fun k hk => ⟨(XB.out k hk).1, XLT.out k hk⟩)
        have HB_ := Lib.hid (HB.out.trans (hwx.below HBX0.out HB.out.size))
        have SW_ := Lib.hid (SW.out.within SW0.out hwx (Nat.le_refl _))
        have BW_ := Lib.hid (blk_within BW.out hwx (by have := BWL.out; omega))
        have SG_ := Lib.hid (ownSig_within SG.out hwx (Nat.le_refl _))
        have BG_ := Lib.hid (blk_within BG.out hwx (by have := BGL.out; omega))
        clear hom hg hwx X XB
        clear HB SW BW SG BG
        have HB := HB_
        have SW := SW_
        have BW := BW_
        have SG := SG_
        have BG := BG_
        clear HB_ SW_ BW_ SG_ BG_
        have c_BG0 := Blk.cell BG.out 0
        have c_BG1 := Blk.cell BG.out 1
        have c_BG2 := Blk.cell BG.out 2
        have c_BG3 := Blk.cell BG.out 3
        simp only [List.getElem?_cons_zero, List.getElem?_cons_succ] at c_BG0 c_BG1 c_BG2 c_BG3
        have c_BW0 := Blk.cell BW.out 0
        have c_BW1 := Blk.cell BW.out 1
        have c_BW2 := Blk.cell BW.out 2
        have c_BW3 := Blk.cell BW.out 3
        simp only [List.getElem?_cons_zero, List.getElem?_cons_succ] at c_BW0 c_BW1 c_BW2 c_BW3
        go_wp2_with fail
        refine (CE.out _ _ _ (OwnSig.rd SG.out) SW.out).mono ?_
        rintro e w9 ⟨rfl, hb⟩
        clear c_BG0 c_BG1 c_BG2 c_BG3 c_BW0 c_BW1 c_BW2 c_BW3
        have HB_ := Lib.hid (HB.out.trans (hb.mono HB.out.size))
        have SW_ := Lib.hid (SW.out.below hb (Nat.le_refl _))
        have BW_ := Lib.hid (BW.out.below hb BW.out.lt)
        have SG_ := Lib.hid (SG.out.below hb (Nat.le_refl _))
        have BG_ := Lib.hid (BG.out.below hb BG.out.lt)
        clear HB SW BW SG BG
        have HB := HB_
        have SW := SW_
        have BW := BW_
        have SG := SG_
        have BG := BG_
        clear HB_ SW_ BW_ SG_ BG_
        clear hb
        have c_BG0 := Blk.cell BG.out 0
        have c_BG1 := Blk.cell BG.out 1
        have c_BG2 := Blk.cell BG.out 2
        have c_BG3 := Blk.cell BG.out 3
        simp only [List.getElem?_cons_zero, List.getElem?_cons_succ] at c_BG0 c_BG1 c_BG2 c_BG3
        have MC : Hid (w4.heap.size ≤ w9.heap.size) := Lib.hid (Nat.le_of_lt (Nat.lt_of_le_of_lt (Nat.le_refl _) BG.out.lt))
        go_wp2_with fail
        refine (DMG.out _ _ _ _ _ _ _ MC.out SG.out).mono ?_
        rintro e w10 ⟨rfl, hom, hw⟩
        clear c_BG0 c_BG1 c_BG2 c_BG3
        have HB_ := Lib.hid (HB.out.trans (hw.below HBG0.out HB.out.size))
        have SW_ := Lib.hid (SW.out.within SW0.out hw LWG.out)
        have BW_ := Lib.hid (blk_within BW.out hw (by have := BWL2.out; omega))
        have BG_ := Lib.hid (blk_within BG.out hw (by omega))
        clear SG
        have SG := Lib.hid hom.rd
        clear hom hw
        clear HB SW BW BG
        have HB := HB_
        have SW := SW_
        have BW := BW_
        have BG := BG_
        clear HB_ SW_ BW_ BG_
        have c_BG0 := Blk.cell BG.out 0
        have c_BG1 := Blk.cell BG.out 1
        have c_BG2 := Blk.cell BG.out 2
        have c_BG3 := Blk.cell BG.out 3
        simp only [List.getElem?_cons_zero, List.getElem?_cons_succ] at c_BG0 c_BG1 c_BG2 c_BG3
        go_wp2_with fail
        refine (DHG.out _ _ SG.out).mono ?_
        rintro e w11 ⟨rfl, hb⟩
        clear c_BG0 c_BG1 c_BG2 c_BG3
        have HB_ := Lib.hid (HB.out.trans (hb.mono HB.out.size))
        have SW_ := Lib.hid (SW.out.below hb (Nat.le_refl _))
        have BW_ := Lib.hid (BW.out.below hb BW.out.lt)
        have BG_ := Lib.hid (BG.out.below hb BG.out.lt)
        have SG_ := Lib.hid (SG.out.below hb (Nat.le_refl _))
        clear HB SW BW BG SG
        have HB := HB_
        have SW := SW_
        have BW := BW_
        have BG := BG_
        have SG := SG_
        clear HB_ SW_ BW_ BG_ SG_
        clear hb
        go_wp2_with fail
        refine (CT.out _ (R1.out _ HB.out)).mono ?_
        rintro e w12 ⟨⟨vz, rfl, hoz⟩, hb⟩
        have HB_ := Lib.hid (HB.out.trans (hb.mono HB.out.size))
        have SW_ := Lib.hid (SW.out.below hb (Nat.le_refl _))
        have BW_ := Lib.hid (BW.out.below hb BW.out.lt)
        have BG_ := Lib.hid (BG.out.below hb BG.out.lt)
        have SG_ := Lib.hid (SG.out.below hb (Nat.le_refl _))
        clear HB SW BW BG SG
        have HB := HB_
        have SW := SW_
        have BW := BW_
        have BG := BG_
        have SG := SG_
        clear HB_ SW_ BW_ BG_ SG_
        obtain ⟨qz, kz, rfl, rz⟩ := hoz.rd
        have RZ := Lib.hid rz
        clear hb hoz rz
        go_wp2_with fail
        refine (DI.out _ _ ⟨_, _, rfl, RZ.out⟩ (HT.out.below HB.out (Nat.le_refl _))).mono ?_
        rintro e w13 ⟨⟨vh, h1, h2, h3, rfl, hoh⟩, hb⟩
        have sh := hoh.rd
        obtain ⟨ha, hk1, hb_, hk2, hc_, hk3, rfl, -, -, -⟩ := id sh
        clear hoh RZ
        have HB_ := Lib.hid (HB.out.trans (hb.mono HB.out.size))
        have SW_ := Lib.hid (SW.out.below hb (Nat.le_refl _))
        have BW_ := Lib.hid (BW.out.below hb BW.out.lt)
        have BG_ := Lib.hid (BG.out.below hb BG.out.lt)
        have SG_ := Lib.hid (SG.out.below hb (Nat.le_refl _))
        clear HB SW BW BG SG
        have HB := HB_
        have SW := SW_
        have BW := BW_
        have BG := BG_
        have SG := SG_
        clear HB_ SW_ BW_ BG_ SG_
        clear hb
        have SH := Lib.hid sh
        clear sh
        have hb := (Below.refl w13.heap.size w13).alloc (Nat.le_refl _) (.cells #[.int .i64 p, .slice ha o.length hk1, .slice hb_ s.length hk2, .slice hc_ d.length hk3] 46)
        have BH := Lib.hid (Blk.new w13 46 [.int .i64 p, .slice ha o.length hk1, .slice hb_ s.length hk2, .slice hc_ d.length hk3] _ rfl)
        have HB_ := Lib.hid (HB.out.trans (hb.mono HB.out.size))
        have SW_ := Lib.hid (SW.out.below hb (Nat.le_refl _))
        have BW_ := Lib.hid (BW.out.below hb BW.out.lt)
        have BG_ := Lib.hid (BG.out.below hb BG.out.lt)
        have SG_ := Lib.hid (SG.out.below hb (Nat.le_refl _))
        have SH_ := Lib.hid (SH.out.below hb (Nat.le_refl _))
        clear HB SW BW BG SG SH
        have HB := HB_
        have SW := SW_
        have BW := BW_
        have BG := BG_
        have SG := SG_
        have SH := SH_
        clear HB_ SW_ BW_ BG_ SG_ SH_
        clear hb
        have c_BH0 := Blk.cell BH.out 0
        have c_BH1 := Blk.cell BH.out 1
        have c_BH2 := Blk.cell BH.out 2
        have c_BH3 := Blk.cell BH.out 3
        simp only [List.getElem?_cons_zero, List.getElem?_cons_succ] at c_BH0 c_BH1 c_BH2 c_BH3
        have c_BW0 := Blk.cell BW.out 0
        have c_BW1 := Blk.cell BW.out 1
        have c_BW2 := Blk.cell BW.out 2
        have c_BW3 := Blk.cell BW.out 3
        simp only [List.getElem?_cons_zero, List.getElem?_cons_succ] at c_BW0 c_BW1 c_BW2 c_BW3
        go_wp2_with fail
        refine (CE.out _ _ _ SH.out SW.out).mono ?_
        rintro e w14 ⟨rfl, hb⟩
        clear c_BH0 c_BH1 c_BH2 c_BH3 c_BW0 c_BW1 c_BW2 c_BW3
        have HB_ := Lib.hid (HB.out.trans (hb.mono HB.out.size))
        have SW_ := Lib.hid (SW.out.below hb (Nat.le_refl _))
        have BW_ := Lib.hid (BW.out.below hb BW.out.lt)
        have BG_ := Lib.hid (BG.out.below hb BG.out.lt)
        have SG_ := Lib.hid (SG.out.below hb (Nat.le_refl _))
        have SH_ := Lib.hid (SH.out.below hb (Nat.le_refl _))
        have BH_ := Lib.hid (BH.out.below hb BH.out.lt)
        clear HB SW BW BG SG SH BH
        have HB := HB_
        have SW := SW_
        have BW := BW_
        have BG := BG_
        have SG := SG_
        have SH := SH_
        have BH := BH_
        clear HB_ SW_ BW_ BG_ SG_ SH_ BH_
        clear hb
        have c_BG0 := Blk.cell BG.out 0
        have c_BG1 := Blk.cell BG.out 1
        have c_BG2 := Blk.cell BG.out 2
        have c_BG3 := Blk.cell BG.out 3
        simp only [List.getElem?_cons_zero, List.getElem?_cons_succ] at c_BG0 c_BG1 c_BG2 c_BG3
        go_wp2_with fail
        refine (DHG.out _ _ SG.out).mono ?_
        rintro e w15 ⟨rfl, hb⟩
        clear c_BG0 c_BG1 c_BG2 c_BG3
        have HB_ := Lib.hid (HB.out.trans (hb.mono HB.out.size))
        have SW_ := Lib.hid (SW.out.below hb (Nat.le_refl _))
        have BW_ := Lib.hid (BW.out.below hb BW.out.lt)
        have BG_ := Lib.hid (BG.out.below hb BG.out.lt)
        have SG_ := Lib.hid (SG.out.below hb (Nat.le_refl _))
        have SH_ := Lib.hid (SH.out.below hb (Nat.le_refl _))
        have BH_ := Lib.hid (BH.out.below hb BH.out.lt)
        clear HB SW BW BG SG SH BH
        have HB := HB_
        have SW := SW_
        have BW := BW_
        have BG := BG_
        have SG := SG_
        have SH := SH_
        have BH := BH_
        clear HB_ SW_ BW_ BG_ SG_ SH_ BH_
        clear hb
        go_wp2_with fail
        go_ret
        exact ⟨rfl, HB.out⟩
      · rw [szV_no ht] at CZ
        have DZ := Lib.hid CZ
        clear CZ ht hrd
        go_enter Tryd.func9, Tryd.ntmps9
        go_wp2_with fail
        refine DZ.out.mono ?_
        rintro e _ ⟨rfl, rfl⟩
        go_wp2_with fail
        go_ret
        exact ⟨rfl, Below.refl _ _⟩
    · clear hrd
      go_enter Tryd.func9, Tryd.ntmps9
      go_wp2_with fail
      go_ret
      exact ⟨rfl, Below.refl _ _⟩
  · clear hrd
    go_enter Tryd.func9, Tryd.ntmps9
    go_wp2_with fail
    go_ret
    exact ⟨rfl, Below.refl _ _⟩

theorem own : ownKnob Tryd.prog.godebug = none := by kernel_rfl
theorem laidOut : laidOutB Tryd.prog = true := by kernel_rfl
theorem fine : fineVars Tryd.prog Rows.fnExactSignTextSpec.vars = true := by kernel_rfl

theorem contract (H : Type) (enc : TypeId × Value → H) (W : World) (base : Nat) (args : Array Value) (ds gs : List (DataW H)) (before : List MemPlace)
    (hval0 : ∀ (j : Nat) t v, Tryd.f9.params[j]? = some t → args[j]? = some v → Value.okWide Tryd.prog W .any base t v)
    (hW : DataW.Whole enc Tryd.prog Tryd.f9.params.toList Rows.fnExactSignTextSpec.vars false W args.toList ds gs before) (hL : laidMetH Tryd.prog Rows.fnExactSignTextRow.laid W) :
    Calls Tryd.prog 9 args W fun e W' => ∃ v, e = .returned v ∧ Rows.fnExactSignTextSpec.post enc Tryd.prog Tryd.f9 false true false false W args v W' := by
  have hval : ∀ (j : Nat) t v, Tryd.f9.params[j]? = some t → args[j]? = some v → Value.okWide Tryd.prog W .any base t v := hval0
  have hW' := hW
  obtain ⟨p, q, hA0, hV, rfl, hfz, hnd⟩ := hW
  have hA : DataW.TrodAll enc Tryd.prog W 0 (fun _ => true) true Tryd.f9.params.toList args.toList ds p := hA0
  rw [Tryd.params9] at hA hval
  obtain ⟨v0, vs0, d0, ds0, p0, q0, hargs, rfl, rfl, h0, r0⟩ := trodAll_cons hA
  obtain ⟨v1, vs1, d1, ds1, p1, q1, rfl, rfl, rfl, h1, r1⟩ := trodAll_cons r0
  obtain ⟨v2, vs2, d2, ds2, p2, q2, rfl, rfl, rfl, h2, r2⟩ := trodAll_cons r1
  obtain ⟨v3, vs3, d3, ds3, p3, q3, rfl, rfl, rfl, h3, r3⟩ := trodAll_cons r2
  obtain ⟨rfl, rfl, rfl⟩ := trodAll_nil r3
  obtain rfl : args = #[v0, v1, v2, v3] := by cases args; simp_all
  have hVlt : ∀ x ∈ q, x.block < W.heap.size := hV.lt
  have hV1 := hV
  obtain ⟨g0, gr0, gq0, rfl, hV2⟩ := trodVars_cons hV1
  obtain ⟨g1, gr1, gq1, rfl, hV3⟩ := trodVars_cons hV2
  obtain ⟨rfl, -⟩ := trodVars_none hV3
  have k0 := h0
  have lt0 : ∀ x ∈ p0, x.block < W.heap.size := by obtain ⟨m, hm⟩ := k0; exact DataW.trod_lt m _ _ _ hm
  obtain ⟨a0, rfl, rfl, rfl, w0⟩ := open_string Tryd.underlying9 (hval 0 9 v0 rfl rfl) h0
  have k1 := h1
  have lt1 : ∀ x ∈ p1, x.block < W.heap.size := by obtain ⟨m, hm⟩ := k1; exact DataW.trod_lt m _ _ _ hm
  obtain ⟨a1, len1, cap1, rfl⟩ := okWide_slice Tryd.underlying24 (hval 1 24 v1 rfl rfl)
  obtain ⟨z1, w1⟩ := isStrs_of Tryd.underlying24 Tryd.underlying9 (by kernel_rfl) h1
  have k2 := h2
  have lt2 : ∀ x ∈ p2, x.block < W.heap.size := by obtain ⟨m, hm⟩ := k2; exact DataW.trod_lt m _ _ _ hm
  obtain ⟨a2, rfl, rfl, rfl, w2⟩ := open_int Tryd.underlying3 (hval 2 3 v2 rfl rfl) h2
  have k3 := h3
  have lt3 : ∀ x ∈ p3, x.block < W.heap.size := by obtain ⟨m, hm⟩ := k3; exact DataW.trod_lt m _ _ _ hm
  obtain ⟨a3, rfl, rfl, rfl, w3⟩ := open_string Tryd.underlying9 (hval 3 9 v3 rfl rfl) h3
  clear hA0 hval0
  refine (walk a0 a1 len1 cap1 z1 a2 a3 W w0 w1 w2 w3 hL).mono fun e W' ⟨he, bel⟩ => ?_
  subst he
  exact ⟨_, rfl, _, _, _, [], _, q, hW', trodAll_mk1 (shut_bool Tryd.underlying4 _), (trodAll_cons_mk (Below.trod laidOut (by kernel_rfl) (of_decide_eq_true (by kernel_rfl)) k0 bel lt0) (trodAll_cons_mk (Below.trod laidOut (by kernel_rfl) (of_decide_eq_true (by kernel_rfl)) k1 bel lt1) (trodAll_cons_mk (Below.trod laidOut (by kernel_rfl) (of_decide_eq_true (by kernel_rfl)) k2 bel lt2) (trodAll_cons_mk (Below.trod laidOut (by kernel_rfl) (of_decide_eq_true (by kernel_rfl)) k3 bel lt3) trodAll_mk0)))), trodVars_stays laidOut bel fine hV hVlt, bel.frame _, fun h => by cases h⟩

noncomputable def laidWorld (os : Os) : World :=
  { World.holding Tryd.prog os ⟨#[], #[], []⟩ with heap := (((World.holding Tryd.prog os ⟨#[], #[], []⟩).heap.modify 1 fun
      | .cells _ t frozen => .cells #[.int .u32 1116352408, .int .u32 1899447441, .int .u32 3049323471, .int .u32 3921009573, .int .u32 961987163, .int .u32 1508970993, .int .u32 2453635748, .int .u32 2870763221, .int .u32 3624381080, .int .u32 310598401, .int .u32 607225278, .int .u32 1426881987, .int .u32 1925078388, .int .u32 2162078206, .int .u32 2614888103, .int .u32 3248222580, .int .u32 3835390401, .int .u32 4022224774, .int .u32 264347078, .int .u32 604807628, .int .u32 770255983, .int .u32 1249150122, .int .u32 1555081692, .int .u32 1996064986, .int .u32 2554220882, .int .u32 2821834349, .int .u32 2952996808, .int .u32 3210313671, .int .u32 3336571891, .int .u32 3584528711, .int .u32 113926993, .int .u32 338241895, .int .u32 666307205, .int .u32 773529912, .int .u32 1294757372, .int .u32 1396182291, .int .u32 1695183700, .int .u32 1986661051, .int .u32 2177026350, .int .u32 2456956037, .int .u32 2730485921, .int .u32 2820302411, .int .u32 3259730800, .int .u32 3345764771, .int .u32 3516065817, .int .u32 3600352804, .int .u32 4094571909, .int .u32 275423344, .int .u32 430227734, .int .u32 506948616, .int .u32 659060556, .int .u32 883997877, .int .u32 958139571, .int .u32 1322822218, .int .u32 1537002063, .int .u32 1747873779, .int .u32 1955562222, .int .u32 2024104815, .int .u32 2227730452, .int .u32 2361852424, .int .u32 2428436474, .int .u32 2756734187, .int .u32 3204031479, .int .u32 3329325298] t frozen
      | o => o).modify 0 fun
      | .cells _ t frozen => .cells #[.int .u32 1779033703, .int .u32 3144134277, .int .u32 1013904242, .int .u32 2773480762, .int .u32 1359893119, .int .u32 2600822924, .int .u32 528734635, .int .u32 1541459225] t frozen
      | o => o) }
theorem laid_met (os : Os) : laidMet Tryd.prog Rows.fnExactSignTextRow.laid ((laidWorld os).forCall (fun _ _ => 0) ⟨#[], #[.string ByteArray.empty, .slice none 0 0, .int .i64 0, .string ByteArray.empty], []⟩).memory :=
  laidMet_of_run' 8 (by kernel_rfl) (by kernel_rfl)
set_option maxRecDepth 100000 in
theorem reads (os : Os) {H : Type} (enc : TypeId × Value → H) : ∃ places, DataW.whole enc Tryd.prog ((laidWorld os).forCall (fun _ _ => 0) ⟨#[], #[.string ByteArray.empty, .slice none 0 0, .int .i64 0, .string ByteArray.empty], []⟩).memory Tryd.f9.params.toList Rows.fnExactSignTextSpec.vars false (#[.string ByteArray.empty, .slice none 0 0, .int .i64 0, .string ByteArray.empty] : Array Value).toList 8 = some ([.lit (.string []), .nil, .lit (.int .i64 0), .lit (.string [])], [Rows.laid_loop_example_g00284_impl_startWords, Rows.laid_loop_example_g00284_impl_roundWords], places) :=
  ⟨MemPlace.row ⟨0, 0, none⟩ 8 ++ MemPlace.row ⟨1, 0, none⟩ 64, by kernel_rfl⟩

set_option maxRecDepth 100000 in
theorem lifted (os : Os) (started : os.Started) (H : Type) (enc : TypeId × Value → H) (F : Stop.Interp) :
    ReturnsInHanded {} Tryd.checked os 9 .any ((OpenSpec.ofChange Rows.fnExactSignTextSpec).preRow enc Tryd.prog Tryd.f9 Rows.fnExactSignTextRow.domain false Rows.fnExactSignTextRow.laid) (((OpenSpec.ofChange Rows.fnExactSignTextSpec).at F).post enc Tryd.prog Tryd.f9 false true false false) := by
  obtain ⟨places, hx⟩ := reads os enc
  refine returnsInHanded_of_row (C := Tryd.checked) (s := OpenSpec.ofChange Rows.fnExactSignTextSpec) own started (by kernel_rfl) Tryd.func9
    (witness_row_at (enc := enc) (C := Tryd.checked) false (laidWorld os) #[.string ByteArray.empty, .slice none 0 0, .int .i64 0, .string ByteArray.empty] rfl (by kernel_rfl) (by kernel_rfl) (by kernel_rfl)
      (OpenSpec.preRow_of_cond 8 hx (by kernel_rfl) (fun k hk => by cases hk) (by kernel_rfl) (laid_met os))) ?_
  intro W base args ds gs before hval hW _ _ _ hL _ _
  exact contract H enc W base args ds gs before hval hW hL

theorem said : Rows.FnExactSignTextSaid :=
  OpenClaim.holds_of_cond 9 Tryd.f9 rfl rfl rfl rfl rfl rfl rfl ⟨rfl, rfl, rfl, rfl, rfl⟩ rfl rfl rfl rfl rfl (by kernel_rfl) Tryd.func9 (by kernel_rfl)
    (of_decide_eq_true (by kernel_rfl)) (by unfold Func.isWrapper; first | (rw [if_pos (by decide +kernel)]; kernel_rfl) | (rw [if_neg (by decide +kernel)]; exact ⟨rfl, rfl⟩))
    (fun os started H enc _ F => by rw [OpenClaim.pre_eq_preRow]; exact lifted os started H enc F)

theorem plain (f : FuncId) (fn : Func) (hf : Tryd.pinned.checked.prog.funcNamed "loop.example/g00284/laws.FnExactSignText" = some f) (hfn : Tryd.pinned.checked.prog.funcs[f]? = some fn) :
    false = Tryd.pinned.checked.prog.looks [] ∧ ∀ (j : Nat) t, fn.params[j]? = some t → Tryd.pinned.checked.prog.wantsStandIn t = false := by
  obtain rfl : f = 9 := Option.some.inj ((show Tryd.prog.funcNamed "loop.example/g00284/laws.FnExactSignText" = some 9 by kernel_rfl).symm.trans hf) |>.symm
  obtain rfl : fn = Tryd.f9 := (Option.some.inj (Tryd.func9.symm.trans hfn)).symm
  refine ⟨by kernel_rfl, fun j t ht => ?_⟩
  rw [Tryd.params9] at ht
  obtain rfl | rfl | rfl | rfl : t = 9 ∨ t = 24 ∨ t = 3 ∨ t = 9 := by simpa using Array.mem_of_getElem? ht
  all_goals first | exact (show Tryd.prog.wantsStandIn 9 = false by kernel_rfl) | exact (show Tryd.prog.wantsStandIn 24 = false by kernel_rfl) | exact (show Tryd.prog.wantsStandIn 3 = false by kernel_rfl) | exact (show Tryd.prog.wantsStandIn 9 = false by kernel_rfl)

/-- The statement: the card. -/
theorem proved : Rows.FnExactSignTextCardSaid :=
  Claim7.holds_tied_plain_at .later [] _ _ _ _ said (fun _ h => by cases h) (by kernel_rfl) (fun _ h => by cases h) fnExactSignText_row_tie rfl ⟨rfl, rfl⟩ (by kernel_rfl) rfl plain (by kernel_rfl)
#print axioms proved

end Go.Proofs.YtcehbmlibfalaaaDoor.fnExactSignText
