/-
  The walks of the digest, on both sides.
-/
import Derived.Test.YtcehbmlibfalaaaDoorJSha0
import Derived.Test.YtcehbmlibfalaaaDoorJSha3
import Derived.Test.YtcehbmlibfalaaaDoorJPad1
import Derived.Test.YtcehbmlibfalaaaDoorJSums2
import Derived.Test.YtcehbmlibfalaaaDoorBase7
namespace Go.Proofs.YtcehbmlibfalaaaDoor
open Go.RowKit

theorem Tryd.size64 : (Tryd.prog.info? 91).map (·.size) = some (keyZ.map (Value.int .u32)).toArray.size := by kernel_rfl
theorem keyZ_natC : (keyZ.map (Value.int .u32)).toArray = (natC keyL).toArray := by rw [keyZ, natC, List.map_map]; rfl
theorem keyZ_one : (keyZ.map (Value.int .u32)).toArray.all (·.oneCell') = true := by rw [keyZ_natC]; exact natC_one _
theorem Tryd.sizeU32 : (Tryd.prog.info? 86).map (·.size) = some 1 := by kernel_rfl
theorem Tryd.zero64 : ((Tryd.prog.info? 91).bind (·.zero)).map (·.cells.size) = some keyZ.length := by kernel_rfl
set_option maxRecDepth 100000 in
theorem l03Keys_any (w : World) : Calls Tryd.prog 86 #[] w fun e w' => e = .returned (.agg (natC keyL).toArray) ∧ Below w.heap.size w w' := by
  go_enter Tryd.func86, Tryd.ntmps86
  go_upto_region 0 with fail
  refine wp_region_lit ?_
  refine wpList_alloc_arr 91 z64 Tryd.info64 rfl rfl _ w.heap.size rfl ?_
  go_upto_region 1 with fail
  refine wp_region_lit ?_
  refine wpList_buildFlatArrTo rfl 91 86 64 _ rfl .u32 keyZ (some 1) rfl Tryd.underlying91 Tryd.sizeU32 Tryd.zero64 (by kernel_rfl) ?_
  refine wpList_store_new rfl 91 (.tmp 0) (.tmp 1) rfl rfl _ w.heap.size rfl _ z64 (keyZ.map (Value.int .u32)).toArray rfl rfl Tryd.size64 (by kernel_rfl) keyZ_one ?_
  go_wp2_with fail
  refine bodyPost_ret (results_cell_row rfl _ _ w.heap.size 91 (keyZ.map (Value.int .u32)).toArray (0, 0) _ rfl (alloc_at _ _) Tryd.underlying91 rfl Tryd.size64) rfl ?_
  exact ⟨by rw [keyZ_natC], (Below.refl _ _).alloc (Nat.le_refl _) _⟩

theorem Tryd.sizeArr8 {l : List Nat} (hl : l.length = 8) : (Tryd.prog.info? 87).map (·.size) = some (natC l).toArray.size := by
  rw [List.size_toArray, natC_length, hl]
  kernel_rfl
theorem Tryd.sizeArr64 : (Tryd.prog.info? 91).map (·.size) = some (natC keyL).toArray.size := by kernel_rfl
theorem same8 (s r : W8) : (natC s.toL).toArray.size = (natC r.toL).toArray.size := by rw [List.size_toArray, List.size_toArray, natC_length, natC_length]; rfl
theorem toL_length (s : W8) : s.toL.length = 8 := rfl

set_option maxHeartbeats 1000000 in
set_option maxRecDepth 100000 in
theorem sDigest_any (s : ByteArray) (hs : s.size ≤ 1099511627776) (w : World) :
    Calls Tryd.prog 78 #[.string s] w fun e w' => e = .returned (.string (txt (sha s.data.toList))) ∧ Below w.heap.size w w' := by
  have hmod := padL_mod s.data.toList
  have hpl := padL_length s.data.toList
  have hz := padZ_lt s.data.toList.length
  have hsl : s.data.toList.length ≤ 1099511627776 := by simpa using hs
  obtain ⟨P, hP⟩ : ∃ P, P = padL s.data.toList := ⟨_, rfl⟩
  obtain ⟨N, hN⟩ : ∃ N, N = P.length / 64 := ⟨_, rfl⟩
  have hPN : P.length = 64 * N := by rw [hN]; rw [← hP] at hmod; omega
  have hNs : N ≤ 70368744177 := by rw [← hP] at hpl; omega
  have hsha : sha s.data.toList = be32s (chain P N).toL := by rw [sha, hN, hP]
  have HP := Lib.hid hP
  have HPN := Lib.hid hPN
  have Hsha := Lib.hid hsha
  clear hmod hpl hz hP hN hPN hsha hsl
  go_enter Tryd.func78, Tryd.ntmps78
  go_wp2_with fail
  refine (l03First_any _).mono ?_
  rintro e w1 ⟨rfl, hb1⟩
  go_upto_region 2 with fail
  refine wp_one ?_
  intro W1 k1 hB1 hS1
  have HB1 := Lib.hid (hb1.trans (hB1.mono hb1.size))
  have hge1 := hb1.size
  clear hb1 hB1
  generalize w1.heap.size = g1 at *
  go_wp2_with fail
  refine (l03Keys_any _).mono ?_
  rintro e w2 ⟨rfl, hb2⟩
  have k1' := k1.below hb2 (by omega)
  have HB2 := Lib.hid (HB1.out.trans (hb2.mono (by omega)))
  have hge2 := hb2.size
  clear k1 hb2 HB1
  go_wp2_with (first | (refine wpList_alloc_arr 91 z64 Tryd.info64 rfl rfl _ w2.heap.size rfl ?_) | (refine wpList_store_new rfl 91 (.tmp 4) (.tmp 10) rfl rfl _ w2.heap.size rfl _ z64 (natC keyL).toArray rfl rfl Tryd.sizeArr64 (by kernel_rfl) (natC_one _) ?_))
  have kK := Blk.new w2 91 (natC keyL) _ rfl
  have k1a := k1'.alloc (.cells (natC keyL).toArray 91)
  have HB2a := Lib.hid (HB2.out.alloc (by omega) (.cells (natC keyL).toArray 91))
  have hsz2 := alloc_size w2 (.cells (natC keyL).toArray 91)
  refine (sPadText_any s hs _).mono ?_
  rintro e w3 ⟨rfl, hb3⟩
  have hge3 := hb3.size
  rw [hsz2] at hge3 hb3
  have kK' := kK.below hb3 (by omega)
  have k1b := k1a.below hb3 (by omega)
  have HB3 := Lib.hid (HB2a.out.trans (hb3.mono (by omega)))
  clear kK k1a k1' HB2 HB2a hsz2 hb3
  generalize w2.heap.size = g2 at *
  rw [← HP.out]
  go_wp2_with fail
  have hps : (txt P).size = 64 * N := by rw [txt_size]; exact HPN.out
  have Hps := Lib.hid hps
  have hp1 : (txt P).size ≤ 64 * N := by rw [hps]; exact Nat.le_refl _
  have hp2 : 64 * N ≤ (txt P).size := by rw [hps]; exact Nat.le_refl _
  have hpt : (txt P).data.toList = P := txt_data P
  clear hps
  generalize txt P = p at *
  have Hpt := Lib.hid hpt
  clear hpt
  go_loopw [6] (fun i wr => ∃ k : Nat, k ≤ N ∧ i = .int .i64 (64 * (k : Int)) ∧ Blk wr g1 87 (natC (chain P k).toL) ∧ Blk wr g2 91 (natC keyL) ∧ Below w.heap.size w wr ∧ w3.heap.size ≤ wr.heap.size) (fun i _ => 64 * N - (intOf i).toNat)
  case atStart => exact ⟨0, Nat.zero_le _, rfl, k1b, kK', HB3.out, Nat.le_refl _⟩
  case round =>
    clear k1b kK' HB3
    obtain ⟨k, hk, rfl, kS, kK, hb, hsz⟩ := hrel
    by_cases hlt : k < N
    · have q := fun wx => cut_str (P := Tryd.prog) Tryd.underlying9 p (64 * (k : Int)) (64 * (k : Int) + 64) (64 * k) (64 * k + 64) (by omega) (by omega) (by omega) (by rw [Hps.out]; omega) wx
      have hx : chain P (k + 1) = comp (chain P k) (p.extract (64 * k) (64 * k + 64)).data.toList := by
        rw [chain, extract_list, Hpt.out, show 64 * k + 64 - 64 * k = 64 by omega]
      have hxs : (p.extract (64 * k) (64 * k + 64)).size = 64 := by rw [ByteArray.size_extract, Hps.out]; omega
      have hok := chain_ok P k
      generalize p.extract (64 * k) (64 * k + 64) = b at *
      generalize chain P k = c at *
      have C0 := fun wx => l03Block_any c hok b hxs wx
      generalize comp c b.data.toList = r at *
      have C := Lib.hid C0
      clear C0
      have Hx := Lib.hid hx
      have Hxs := Lib.hid hxs
      have Hok := Lib.hid hok
      clear hx hxs hok
      obtain ⟨c0, c1, c2, c3, c4, c5, c6, c7⟩ := c
      have d0 := kS.cell 0
      have d1 := kS.cell 1
      have d2 := kS.cell 2
      have d3 := kS.cell 3
      have d4 := kS.cell 4
      have d5 := kS.cell 5
      have d6 := kS.cell 6
      have d7 := kS.cell 7
      simp only [natC, W8.toL, List.map_cons, List.map_nil, List.getElem?_cons_zero, List.getElem?_cons_succ] at d0 d1 d2 d3 d4 d5 d6 d7
      go_wp2_with fail
      refine wp_region_quiet_tail 7 Tryd.checked.mixed (by kernel_rfl) ?_
      simp only [List.take_succ_cons, List.take_zero, List.drop_succ_cons, List.drop_zero]
      repeat (first | go_big_quiet_skip | (go_big_quiet_want; go_big_quiet_op; go_big_quiet_on))
      refine wpQuiet_load_row rfl 91 (.tmp 4) rfl g2 rfl 91 (natC keyL).toArray _ (fun w' hw' => by subst hw'; exact kK) Tryd.underlying91 rfl Tryd.sizeArr64 _ rfl ?_
      refine wpQuiet_nil ?_
      go_wp2_with fail
      refine (C.out _).mono ?_
      rintro e w4 ⟨rfl, hb4⟩
      have hge4 : wr.heap.size ≤ w4.heap.size := hb4.size
      have k4 : Blk w4 g1 87 (natC (W8.toL ⟨c0, c1, c2, c3, c4, c5, c6, c7⟩)) := kS.drew.below hb4 (by show g1 < wr.heap.size; omega)
      have k5 : Blk w4 g2 91 (natC keyL) := kK.drew.below hb4 (by show g2 < wr.heap.size; omega)
      have hb5 : Below w.heap.size w w4 := hb.drew.trans (hb4.mono (by show w.heap.size ≤ wr.heap.size; omega))
      go_wp2_with (refine wpList_store_row rfl 87 (.tmp 3) (.tmp 26) rfl g1 (natC r.toL).toArray rfl rfl 87 _ k4 (Tryd.sizeArr8 (toL_length r)) (same8 _ _) (natC_one _) ?_)
      exact ⟨⟨k + 1, by omega, by go_num, by rw [Hx.out]; exact setRow_heap _ _ _ _ _ _ k4, k5.setRow_far (by omega) _, Below.setRow_ hb5 (by omega) _, by rw [size_setRow']; omega⟩, by simp [intOf]; omega⟩
    · obtain rfl : k = N := by omega
      clear hlt hk kK HP HPN Hpt hNs
      have hok := chain_ok P k
      clear Hps
      generalize chain P k = c at *
      have Hok := Lib.hid hok
      clear hok
      obtain ⟨i0, hi, hz0, hz1, hz2⟩ := info_parts Tryd.infoU8s
      have Hi := Lib.hid (And.intro hi (And.intro hz0 (And.intro hz1 hz2)))
      clear hi hz0 hz1 hz2
      go_wp2_with (at_make; refine wpList_make_full _ rfl _ _ 32 rfl w.heap.size 5 i0 _ 1 Tryd.underlying32 Hi.out.1 Hi.out.2.1 Hi.out.2.2.1 .i64 .i64 _ _ 32 rfl rfl rfl rfl (by rw [Hi.out.2.2.2]; omega) (by unfold maxLen; omega) (by omega) ?_; intro w5 hown hg)
      have hown := Own.of_ownsRow hown
      have hb5 := hb.grown hg (by omega) (fun k h => by cases h)
      have k5 := kS.kept hg (by simp)
      have hge5 := hg.size
      have hlt5 := kS.lt
      clear hg kS hb
      generalize wr.heap.size = g3 at *
      go_loopw [8] (fun i wr => ∃ (k : Nat) (cs : List Value), k ≤ 8 ∧ i = .int .i64 k ∧ Own wr w.heap.size 1 (.slice (some ⟨g3, 0, none⟩) 32 32) 32 cs ∧ Hid (cs.length = 32 ∧ cs.take (4 * k) = u8s ((be32s c.toL).take (4 * k))) ∧ Blk wr g1 87 (natC c.toL) ∧ Below w.heap.size w wr) (fun i _ => 8 - (intOf i).toNat)
      case atStart => exact ⟨0, _, Nat.zero_le _, rfl, hown, ⟨hown.len, by simp [u8s]⟩, k5, hb5⟩
      case round =>
        clear hown k5 hb5
        obtain ⟨k, cs, hk, rfl, hown, HC, k5, hb5⟩ := hrel
        by_cases hlt : k < 8
        · have c0 : wr.cell? ⟨g1, k, none⟩ = some (.int .u32 (c.at_ k : Nat)) := by rw [k5.cell]; exact c.cell_at k hlt
          have hx := be32s_take c.toL k (c.at_ k) (c.toL_at k hlt)
          have hl := W8.at_lt Hok.out k
          have Hx := Lib.hid hx
          clear hx
          obtain ⟨⟨u0, hu0⟩, hf0⟩ := hown.at1 (4 * k) (by omega)
          obtain ⟨⟨u1, hu1⟩, hf1⟩ := hown.at1 (4 * k + 1) (by omega)
          obtain ⟨⟨u2, hu2⟩, hf2⟩ := hown.at1 (4 * k + 2) (by omega)
          obtain ⟨⟨u3, hu3⟩, hf3⟩ := hown.at1 (4 * k + 3) (by omega)
          have hne : ¬ g1 = g3 := by omega
          have hne' : ¬ g3 = g1 := by omega
          generalize c.at_ k = x at *
          go_wp2_with fail
          have hbc := be32_cells x hl
          refine ⟨⟨k + 1, _, by omega, by go_num, (((hown.store1 (4 * k) (by omega) _).store1 (4 * k + 1) (by omega) _).store1 (4 * k + 2) (by omega) _).store1 (4 * k + 3) (by omega) _, ⟨by simp; exact HC.out.1, ?_⟩, (((k5.far hne _).far hne _).far hne _).far hne _, (((hb5.setCell (by simp; omega) _).setCell (by simp; omega) _).setCell (by simp; omega) _).setCell (by simp; omega) _⟩, by simp [intOf]; omega⟩
          rw [show 4 * (k + 1) = 4 * k + 4 by omega, set4_take HC.out.1 (by omega) HC.out.2, Hx.out, u8s_append, hbc]
        · obtain rfl : k = 8 := by omega
          have hD : (be32s c.toL).length = 32 := by rw [be32s_length]; rfl
          have he : cs = u8s (be32s c.toL) := by
            have h := HC.out.2
            rw [List.take_of_length_le (by rw [HC.out.1]; omega), List.take_of_length_le (by rw [hD]; omega)] at h
            exact h
          have ho : OwnB wr w.heap.size (.slice (some ⟨g3, 0, none⟩) 32 32) (be32s c.toL) := by
            unfold OwnB
            rw [hD, ← he]
            exact hown
          have hc := OwnB.text (P := Tryd.prog) ho 32 9 5 Tryd.underlying32 Tryd.underlying5 Tryd.underlying9
          rw [← Hsha.out] at hc
          clear ho he hD HC hown Hsha
          go_wp2_with fail
          go_ret
          exact ⟨rfl, hb5⟩

/-- How long a string is. -/
def sizeV : Value → Nat
  | .string s => s.size
  | _ => 0
def YtcehbmlibfalaaaDoorTabs (w : World) : Prop := TabAt w 1 .u32 keyZ ∧ TabAt w 0 .u32 startL
theorem YtcehbmlibfalaaaDoorTabs.below {w w' : World} {C : Nat} (h : YtcehbmlibfalaaaDoorTabs w) (hb : Below C w w') (hC : w.heap.size ≤ C) : YtcehbmlibfalaaaDoorTabs w' := ⟨h.1.below hb hC, h.2.below hb hC⟩

set_option maxHeartbeats 1000000 in
set_option maxRecDepth 100000 in
theorem iDigest_any (s : ByteArray) (hs : s.size ≤ 1099511627776) (w : World) (hT : YtcehbmlibfalaaaDoorTabs w) :
    Calls Tryd.prog 77 #[.string s] w fun e w' => e = .returned (.string (txt (sha s.data.toList))) ∧ Below w.heap.size w w' := by
  have hmod := padL_mod s.data.toList
  have hpl := padL_length s.data.toList
  have hz := padZ_lt s.data.toList.length
  have hsl : s.data.toList.length ≤ 1099511627776 := by simpa using hs
  obtain ⟨P, hP⟩ : ∃ P, P = padL s.data.toList := ⟨_, rfl⟩
  obtain ⟨N, hN⟩ : ∃ N, N = P.length / 64 := ⟨_, rfl⟩
  have hPN : P.length = 64 * N := by rw [hN]; rw [← hP] at hmod; omega
  have hNs : N ≤ 70368744177 := by rw [← hP] at hpl; omega
  have hsha : sha s.data.toList = be32s (chain P N).toL := by rw [sha, hN, hP]
  have HP := Lib.hid hP
  have HPN := Lib.hid hPN
  have Hsha := Lib.hid hsha
  have HT := Lib.hid hT
  have c0 := hT.2 0 _ rfl
  have c1 := hT.2 1 _ rfl
  have c2 := hT.2 2 _ rfl
  have c3 := hT.2 3 _ rfl
  have c4 := hT.2 4 _ rfl
  have c5 := hT.2 5 _ rfl
  have c6 := hT.2 6 _ rfl
  have c7 := hT.2 7 _ rfl
  clear hmod hpl hz hP hN hPN hsha hsl hT
  go_enter Tryd.func77, Tryd.ntmps77
  go_upto_region 2 with fail
  refine wp_one ?_
  intro W1 k1 hB1 hS1
  clear c0 c1 c2 c3 c4 c5 c6 c7
  go_wp2_with fail
  refine (iPadText_any s hs _).mono ?_
  rintro e w3 ⟨rfl, hb3⟩
  have hge3 := hb3.size
  have k1b := k1.below hb3 (by omega)
  have HB3 := Lib.hid (hB1.trans (hb3.mono (by omega)))
  clear k1 hb3 hB1
  generalize hg1 : w.heap.size = g1 at *
  rw [← HP.out]
  go_wp2_with fail
  have hps : (txt P).size = 64 * N := by rw [txt_size]; exact HPN.out
  go_loopw [4] (fun v wr => ∃ (k : Nat) (q : ByteArray), k ≤ N ∧ v = .string q ∧ Hid (q.data.toList = P.drop (64 * k)) ∧ q.size ≤ 64 * (N - k) ∧ 64 * (N - k) ≤ q.size ∧ Blk wr g1 87 (natC (chain P k).toL) ∧ Below g1 w wr ∧ g1 < wr.heap.size) (fun v _ => sizeV v)
  case atStart => exact ⟨0, _, Nat.zero_le _, rfl, by show _ = _; rw [txt_data, Nat.mul_zero, List.drop_zero], by omega, by omega, k1b, HB3.out, by omega⟩
  case round =>
    clear k1b HB3 hps
    obtain ⟨k, q, hk, rfl, HQ, hq1, hq2, kS, hb, hgl⟩ := hrel
    by_cases hlt : k < N
    · have hne : q.toList.isEmpty = false := by
        rw [ByteArray.toList_eq, List.isEmpty_eq_false_iff]
        intro h
        have h2 : q.size = 0 := by rw [show q.size = q.data.toList.length by simp, h]; rfl
        omega
      have q1 := fun wx => cut_to (P := Tryd.prog) Tryd.underlying9 q 64 64 rfl (by omega) wx
      have q2 := fun wx => cut_from (P := Tryd.prog) Tryd.underlying9 q 64 64 rfl (by omega) wx
      have hx : chain P (k + 1) = comp (chain P k) (q.extract 0 64).data.toList := by
        rw [chain, extract_to, HQ.out]
      have hxs : (q.extract 0 64).size = 64 := by rw [ByteArray.size_extract]; omega
      have hr : (q.extract 64 q.size).data.toList = P.drop (64 * (k + 1)) := by rw [extract_from, HQ.out, List.drop_drop, show 64 * k + 64 = 64 * (k + 1) by omega]
      have hrs : (q.extract 64 q.size).size = q.size - 64 := by rw [ByteArray.size_extract]; omega
      have hrs1 : (q.extract 64 q.size).size ≤ 64 * (N - (k + 1)) := by rw [hrs]; omega
      have hrs2 : 64 * (N - (k + 1)) ≤ (q.extract 64 q.size).size := by rw [hrs]; omega
      have hrs3 : (q.extract 64 q.size).size < q.size := by rw [hrs]; omega
      have hok := chain_ok P k
      clear hrs
      generalize q.extract 64 q.size = q' at *
      generalize q.extract 0 64 = b at *
      generalize chain P k = c at *
      have C0 := fun wx hT => compress_any c hok b hxs wx hT
      generalize comp c b.data.toList = r at *
      have C := Lib.hid C0
      have Hx := Lib.hid hx
      have Hr := Lib.hid hr
      clear C0 hx hr hxs hok
      obtain ⟨c0, c1, c2, c3, c4, c5, c6, c7⟩ := c
      have d0 := kS.cell 0
      have d1 := kS.cell 1
      have d2 := kS.cell 2
      have d3 := kS.cell 3
      have d4 := kS.cell 4
      have d5 := kS.cell 5
      have d6 := kS.cell 6
      have d7 := kS.cell 7
      simp only [natC, W8.toL, List.map_cons, List.map_nil, List.getElem?_cons_zero, List.getElem?_cons_succ] at d0 d1 d2 d3 d4 d5 d6 d7
      go_wp2_with fail
      refine wp_region_quiet_tail 3 Tryd.checked.mixed (by kernel_rfl) ?_
      simp only [List.take_succ_cons, List.take_zero, List.drop_succ_cons, List.drop_zero]
      repeat (first | go_big_quiet_skip | (go_big_quiet_want; go_big_quiet_op; go_big_quiet_on))
      refine wpQuiet_nil ?_
      go_wp2_with fail
      refine (C.out wr.drew (HT.out.below hb.drew (by omega)).1).mono ?_
      rintro e w4 ⟨rfl, hb4⟩
      have hge4 : wr.heap.size ≤ w4.heap.size := hb4.size
      have k4 : Blk w4 g1 87 (natC (W8.toL ⟨c0, c1, c2, c3, c4, c5, c6, c7⟩)) := kS.drew.below hb4 (by show g1 < wr.heap.size; omega)
      have hb5 : Below g1 w w4 := hb.drew.trans (hb4.mono (by show g1 ≤ wr.heap.size; omega))
      clear q1 d0 d1 d2 d3 d4 d5 d6 d7
      go_wp2_with (refine wpList_store_row rfl 87 (.tmp 3) (.tmp 18) rfl g1 (natC r.toL).toArray rfl rfl 87 _ k4 (Tryd.sizeArr8 (toL_length r)) (same8 _ _) (natC_one _) ?_)
      exact ⟨⟨k + 1, q', by omega, rfl, Hr.out, hrs1, hrs2, by rw [Hx.out]; exact setRow_heap _ _ _ _ _ _ k4, Below.setRow_ hb5 (Nat.le_refl _) _, by rw [size_setRow']; omega⟩, hrs3⟩
    · obtain rfl : k = N := by omega
      have he : q.toList = [] := by
        rw [ByteArray.toList_eq]
        have h : q.size = q.data.toList.length := by simp
        exact List.eq_nil_of_length_eq_zero (by omega)
      have he' : q.toList.isEmpty = true := by rw [he]; rfl
      have hok := chain_ok P k
      clear HQ hq1 hq2 hlt hk hNs HP HPN
      generalize chain P k = c at *
      have Hok := Lib.hid hok
      clear hok
      have ka := kS
      clear kS
      go_upto_region 7 with fail
      refine wp_region_lit ?_
      refine wpList_load_row rfl 87 (.tmp 3) rfl g1 rfl 87 (natC c.toL).toArray (0, 0) _ ka Tryd.underlying87 rfl (Tryd.sizeArr8 (toL_length c)) ?_
      have hA : ∀ j, j < 8 → (natC c.toL).toArray[j]? = some (.int .u32 (c.at_ j : Nat)) := fun j hj => by rw [List.getElem?_toArray]; exact c.cell_at j hj
      generalize (natC c.toL).toArray = A at *
      have HA := Lib.hid hA
      clear hA ka he he'
      go_wp2_with fail
      go_loopw [5, 20] (fun v i wr => ∃ k : Nat, k ≤ 8 ∧ i = .int .i64 k ∧ v = .string (txt ((be32s c.toL).take (4 * k))) ∧ Below g1 w wr) (fun _ i _ => 8 - (intOf i).toNat)
      case atStart => exact ⟨0, Nat.zero_le _, rfl, rfl, hb⟩
      case round =>
        clear hb
        obtain ⟨k, hk, rfl, rfl, hb⟩ := hrel
        have hD : (be32s c.toL).length = 32 := by rw [be32s_length]; rfl
        by_cases hlt : k < 8
        · have hx := HA.out k hlt
          have q := fun wx => idx_arr (P := Tryd.prog) (k := .i64) Tryd.underlying87 Tryd.underlying86 Tryd.sizeU32 A k hlt _ hx wx
          have hj := be32s_take c.toL k (c.at_ k) (c.toL_at k hlt)
          have hl := W8.at_lt Hok.out k
          have hs1 : (txt ((be32s c.toL).take (4 * k))).size ≤ 32 := by rw [txt_size, List.length_take]; omega
          have hs2 : (txt (be32 (c.at_ k))).size ≤ 4 := by rw [txt_size]; exact Nat.le_refl _
          have hcat : txt ((be32s c.toL).take (4 * k)) ++ txt (be32 (c.at_ k)) = txt ((be32s c.toL).take (4 * (k + 1))) := by rw [txt_join2, ← hj, show 4 * (k + 1) = 4 * k + 4 by omega]
          have Hcat := Lib.hid hcat
          clear hx hj hD hcat
          generalize c.at_ k = x at *
          go_wp2_with (go_at_call 84; refine (fourBytes_any x hl _).mono ?_; rintro e w5 ⟨rfl, hb5⟩)
          exact ⟨⟨k + 1, by omega, by go_num, by rw [← Hcat.out], hb.trans (hb5.mono (by have := hb.size; omega))⟩, by simp [intOf]; omega⟩
        · obtain rfl : k = 8 := by omega
          have e : (be32s c.toL).take (4 * 8) = sha s.data.toList := by rw [Hsha.out]; exact List.take_of_length_le (by omega)
          rw [e]
          clear e hD Hsha
          go_wp2_with fail
          go_ret
          exact ⟨rfl, by rw [hg1]; exact hb⟩
end Go.Proofs.YtcehbmlibfalaaaDoor
