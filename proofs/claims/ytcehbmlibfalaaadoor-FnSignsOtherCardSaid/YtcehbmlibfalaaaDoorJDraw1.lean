/-
  The walks of the draws' cursor.
-/
import Derived.Test.YtcehbmlibfalaaaDoorChecked
import Derived.Test.YtcehbmlibfalaaaDoorBase7
import Derived.Test.YtcehbmlibfalaaaDoorBase6
import Derived.Test.YtcehbmlibfalaaaDoorJSums2
namespace Go.Proofs.YtcehbmlibfalaaaDoor
open Go.RowKit

def YtcehbmlibfalaaaDoorCurT : TypeId := 81
set_option maxHeartbeats 1000000 in
set_option maxRecDepth 100000 in
theorem l01Byte_any (w0 : World) (n g : Nat) (w : World) (h : Cur 81 w0 n w g) :
    Calls Tryd.prog 63 #[.pointer (some ⟨g, 0, none⟩)] w (DrawnI 81 0 255 w0 n g w) := by
  have H := Lib.hid h
  obtain ⟨ao, cap, i, x, hk, h0, h1, hB⟩ := h.blk
  have hsm := h.small
  have c0 := hk.cell 0
  have c1 := hk.cell 1
  have c2 := hk.cell 2
  simp only [List.getElem?_cons_zero, List.getElem?_cons_succ] at c0 c1 c2
  have f1 := hk.frozen 1
  have f2 := hk.frozen 2
  have HB := Lib.hid hB
  obtain ⟨m, rfl⟩ := Int.eq_ofNat_of_zero_le h0
  have hbl := h.below
  have hge := h.ge
  clear h
  by_cases hlt : m < n
  · obtain ⟨b, off, z, rfl, z0, z1, hc⟩ := (hB.below hbl (Nat.le_refl _)) m hlt
    have hbg : b < w0.heap.size := by
      obtain ⟨b', off', z', e', _, _, hc'⟩ := hB m hlt
      cases e'
      exact World.block_lt_of_cell? _ _ hc'
    have hne : ¬ b = g := by omega
    have hne' : ¬ g = b := by omega
    have Hbl := Lib.hid hbl
    clear hB hbl
    have e1 : decide (m < n) = true := decide_eq_true hlt
    go_enter Tryd.func63, Tryd.ntmps63
    go_upto_region 2 with fail
    generalize wrap64 (wrap64 (x * 6364136223846793005) + 1442695040888963407) = y at *
    go_quiet (fail)
    have a1 := and255 (bits BinOp.xor IntKind.i64 (y / 8589934592) (y / 35184372088832))
    obtain ⟨p0, p1⟩ := a1
    generalize bits BinOp.and IntKind.i64 (bits BinOp.xor IntKind.i64 (y / 8589934592) (y / 35184372088832)) 255 = p at *
    go_upto_region 3 with fail
    go_quiet (fail)
    go_wp2_with fail
    go_quiet (fail)
    have a2 := and255 (p + z)
    obtain ⟨q0, q1⟩ := a2
    generalize bits BinOp.and IntKind.i64 (p + z) 255 = q at *
    go_wp2_with fail
    go_ret
    refine ⟨⟨_, q0, q1, rfl⟩, ⟨?_, hge, ⟨_, _, _, _, ((hk.set_ 2 _).drewN _).set_ 1 _, by omega, by omega, HB.out⟩, hsm⟩, ?_⟩
    · exact (bDrewN (Hbl.out.setCell hge _) _).setCell hge _
    · exact grownBy_set (grownBy_drewN (grownBy_set (World.grownBy.refl _ _) _ _) _) _ _
  · have Hbl := Lib.hid hbl
    clear hB hbl
    have e1 : decide (m < n) = false := decide_eq_false hlt
    go_enter Tryd.func63, Tryd.ntmps63
    go_upto_region 2 with fail
    generalize wrap64 (wrap64 (x * 6364136223846793005) + 1442695040888963407) = y at *
    go_quiet (fail)
    have a1 := and255 (bits BinOp.xor IntKind.i64 (y / 8589934592) (y / 35184372088832))
    obtain ⟨p0, p1⟩ := a1
    generalize bits BinOp.and IntKind.i64 (bits BinOp.xor IntKind.i64 (y / 8589934592) (y / 35184372088832)) 255 = p at *
    go_upto_region 3 with fail
    go_quiet (fail)
    go_wp2_with fail
    go_ret
    refine ⟨⟨_, p0, p1, rfl⟩, ⟨?_, hge, ⟨_, _, _, _, ((hk.set_ 2 _).drewN _).drewN _, by omega, by omega, HB.out⟩, hsm⟩, ?_⟩
    · exact bDrewN (bDrewN (Hbl.out.setCell hge _) _) _
    · exact grownBy_drewN (grownBy_drewN (grownBy_set (World.grownBy.refl _ _) _ _) _) _

set_option maxHeartbeats 1000000 in
theorem l01Below_small (w0 : World) (n g : Nat) (N : Int) (h0 : 0 < N) (h1 : N ≤ 256) (w : World) (h : Cur 81 w0 n w g) :
    Calls Tryd.prog 56 #[.pointer (some ⟨g, 0, none⟩), .int .i64 N] w (DrawnI 81 0 (N - 1) w0 n g w) := by
  have C := Lib.hid (l01Byte_any w0 n g w h)
  clear h
  go_enter Tryd.func56, Tryd.ntmps56
  go_wp2_with fail
  refine C.out.mono ?_
  rintro e w1 ⟨⟨x, x0, x1, rfl⟩, hc, hg⟩
  have m0 : 0 ≤ x % N := Int.emod_nonneg _ (by omega)
  have m1 : x % N < N := Int.emod_lt_of_pos _ h0
  have Hc := Lib.hid hc
  have Hg := Lib.hid hg
  clear hc hg
  go_wp2_with fail
  go_ret
  exact ⟨⟨_, m0, by omega, rfl⟩, Hc.out, Hg.out⟩

set_option maxHeartbeats 1000000 in
theorem l01Below_big (w0 : World) (n g : Nat) (N : Int) (h0 : 256 < N) (h1 : N ≤ 9223372036854775807) (w : World) (h : Cur 81 w0 n w g) :
    Calls Tryd.prog 56 #[.pointer (some ⟨g, 0, none⟩), .int .i64 N] w (DrawnI 81 0 (N - 1) w0 n g w) := by
  have C := Lib.hid (l01Byte_any w0 n g w h)
  clear h
  go_enter Tryd.func56, Tryd.ntmps56
  go_wp2_with fail
  refine C.out.mono ?_
  rintro e w1 ⟨⟨x, x0, x1, rfl⟩, hc, hg⟩
  have C := Lib.hid (l01Byte_any w0 n g w1 hc)
  have Hg := Lib.hid hg
  clear hc hg
  go_wp2_with fail
  refine C.out.mono ?_
  rintro e w2 ⟨⟨y, y0, y1, rfl⟩, hc, hg⟩
  have C := Lib.hid (l01Byte_any w0 n g w2 hc)
  have Hg := Lib.hid (grownBy_trans Hg.out hg)
  clear hc hg
  go_wp2_with fail
  refine C.out.mono ?_
  rintro e w3 ⟨⟨z, z0, z1, rfl⟩, hc, hg⟩
  have C := Lib.hid (l01Byte_any w0 n g w3 hc)
  have Hg := Lib.hid (grownBy_trans Hg.out hg)
  clear hc hg
  go_wp2_with fail
  refine C.out.mono ?_
  rintro e w4 ⟨⟨u, u0, u1, rfl⟩, hc, hg⟩
  have Hc := Lib.hid hc
  have Hg := Lib.hid (grownBy_trans Hg.out hg)
  have m0 : 0 ≤ (x * 16777216 + y * 65536 + z * 256 + u) % N := Int.emod_nonneg _ (by omega)
  have m1 : (x * 16777216 + y * 65536 + z * 256 + u) % N < N := Int.emod_lt_of_pos _ (by omega)
  clear hc hg
  go_wp2_with fail
  go_ret
  exact ⟨⟨_, m0, by omega, rfl⟩, Hc.out, Hg.out⟩

theorem l01Below_any (w0 : World) (n g : Nat) (N : Int) (h0 : 0 < N) (h1 : N ≤ 9223372036854775807) (w : World) (h : Cur 81 w0 n w g) :
    Calls Tryd.prog 56 #[.pointer (some ⟨g, 0, none⟩), .int .i64 N] w (DrawnI 81 0 (N - 1) w0 n g w) := by
  by_cases hN : N ≤ 256
  · exact l01Below_small w0 n g N h0 hN w h
  · exact l01Below_big w0 n g N (by omega) h1 w h

set_option maxHeartbeats 1000000 in
set_option maxRecDepth 100000 in
theorem l01New_any (ao : Option Addr) (cap n : Nat) (w : World) (hn : n ≤ 1048576) (h : Bytes w ao n) :
    Calls Tryd.prog 54 #[.slice ao n cap] w fun e w' => (∃ g, e = .returned (.pointer (some ⟨g, 0, none⟩)) ∧ Cur 81 w n w' g) ∧ Below w.heap.size w w' := by
  have H := Lib.hid h
  clear h
  go_enter Tryd.func54, Tryd.ntmps54
  go_wp2_with fail
  go_loop [3, 4] (fun q i => ∃ (k : Nat) (x : Int), k ≤ n ∧ i = .int .i64 k ∧ q = .int .i64 x ∧ 0 ≤ x ∧ x ≤ 1073741823) (fun _ i => n - (intOf i).toNat)
  case atStart => exact ⟨0, _, Nat.zero_le _, rfl, rfl, by omega, by omega⟩
  case round =>
    obtain ⟨k, x, hk, rfl, rfl, x0, x1⟩ := hrel
    by_cases hlt : k < n
    · by_cases h4 : k < 4000
      · obtain ⟨b, off, z, rfl, z0, z1, hc⟩ := H.out k hlt
        go_wp2_with fail
        exact ⟨⟨k + 1, _, by omega, by go_num, rfl, (and30 _).1, (and30 _).2⟩, by simp [intOf]; omega⟩
      · go_wp2_with fail
        refine bodyPost_ret (v := .pointer (some ⟨w.heap.size, 0, none⟩)) (by simp [results, Tryd.results54, go_sem]) rfl ?_
        refine ⟨⟨_, rfl, ⟨(Below.refl _ _).alloc (Nat.le_refl _) _, Nat.le_refl _, ⟨ao, cap, 0, x, ?_, by omega, by omega, H.out⟩, hn⟩⟩, (Below.refl _ _).alloc (Nat.le_refl _) _⟩
        exact alloc_at _ _
    · go_wp2_with fail
      refine bodyPost_ret (v := .pointer (some ⟨w.heap.size, 0, none⟩)) (by simp [results, Tryd.results54, go_sem]) rfl ?_
      refine ⟨⟨_, rfl, ⟨(Below.refl _ _).alloc (Nat.le_refl _) _, Nat.le_refl _, ⟨ao, cap, 0, x, ?_, by omega, by omega, H.out⟩, hn⟩⟩, (Below.refl _ _).alloc (Nat.le_refl _) _⟩
      exact alloc_at _ _

set_option maxHeartbeats 1000000 in
theorem l01Pick_any (w0 : World) (n g : Nat) (ao : Option Addr) (cap : Nat) (l : List ByteArray) (hl : l ≠ []) (hl' : l.length ≤ 1048576) (w : World) (h : Cur 81 w0 n w g) (hr : RdC w ao (strC l)) (hne : ∀ b off, ao = some ⟨b, off, none⟩ → b ≠ g) :
    Calls Tryd.prog 89 #[.pointer (some ⟨g, 0, none⟩), .slice ao l.length cap] w (DrawnS 81 (· ∈ l) w0 n g w) := by
  have hpos : 0 < l.length := List.length_pos_iff.2 hl
  have C := Lib.hid (l01Below_any w0 n g (l.length : Int) (by omega) (by omega) w h)
  have R := Lib.hid hr
  have Hne := Lib.hid hne
  clear h hr hne hl
  go_enter Tryd.func89, Tryd.ntmps89
  go_wp2_with fail
  refine C.out.mono ?_
  rintro e w1 ⟨⟨x, x0, x1, rfl⟩, hc, hg⟩
  obtain ⟨m, rfl⟩ := Int.eq_ofNat_of_zero_le x0
  have hm : m < l.length := by omega
  have hx : l[m]? = some l[m] := List.getElem?_eq_getElem hm
  have hmem : l[m] ∈ l := List.getElem_mem hm
  obtain ⟨b, off, rfl, hcell⟩ := (rdC_kept R.out hg Hne.out) m _ (by rw [strC_get, hx]; rfl)
  generalize l[m] = s at *
  have Hmem := Lib.hid hmem
  have Hc := Lib.hid hc
  have Hg := Lib.hid hg
  clear hc hg hx hmem
  go_wp2_with fail
  go_ret
  exact ⟨⟨_, Hmem.out, rfl⟩, Hc.out, Hg.out⟩

set_option maxHeartbeats 1000000 in
theorem l01PickInt_any (w0 : World) (n g : Nat) (ao : Option Addr) (cap : Nat) (l : List Int) (hl : l ≠ []) (hl' : l.length ≤ 1048576) (w : World) (h : Cur 81 w0 n w g) (hr : RdC w ao (intC l)) (hne : ∀ b off, ao = some ⟨b, off, none⟩ → b ≠ g) :
    Calls Tryd.prog 55 #[.pointer (some ⟨g, 0, none⟩), .slice ao l.length cap] w (DrawnL 81 l w0 n g w) := by
  have hpos : 0 < l.length := List.length_pos_iff.2 hl
  have C := Lib.hid (l01Below_any w0 n g (l.length : Int) (by omega) (by omega) w h)
  have R := Lib.hid hr
  have Hne := Lib.hid hne
  clear h hr hne hl
  go_enter Tryd.func55, Tryd.ntmps55
  go_wp2_with fail
  refine C.out.mono ?_
  rintro e w1 ⟨⟨x, x0, x1, rfl⟩, hc, hg⟩
  obtain ⟨m, rfl⟩ := Int.eq_ofNat_of_zero_le x0
  have hm : m < l.length := by omega
  have hx : l[m]? = some l[m] := List.getElem?_eq_getElem hm
  have hmem : l[m] ∈ l := List.getElem_mem hm
  obtain ⟨b, off, rfl, hcell⟩ := (rdC_kept R.out hg Hne.out) m _ (by rw [intC_get, hx]; rfl)
  generalize l[m] = s at *
  have Hmem := Lib.hid hmem
  have Hc := Lib.hid hc
  have Hg := Lib.hid hg
  clear hc hg hx hmem
  go_wp2_with fail
  go_ret
  exact ⟨⟨_, Hmem.out, rfl⟩, Hc.out, Hg.out⟩

set_option maxHeartbeats 1000000 in
theorem l01Text_any (w0 : World) (n g N : Nat) (hN : N ≤ 5000) (w : World) (h : Cur 81 w0 n w g) :
    Calls Tryd.prog 57 #[.pointer (some ⟨g, 0, none⟩), .int .i64 N] w (DrawnS 81 (fun s => s.size = N) w0 n g w) := by
  have H := Lib.hid h
  have hgl := h.lt
  clear h
  go_enter Tryd.func57, Tryd.ntmps57
  go_wp2_with fail
  have ho := OwnB.empty w w.heap.size 5 (Nat.le_refl _)
  have hc0 := Cur.alloc H.out (.cells #[] 5)
  have hg0 := grownBy_alloc' (World.grownBy.refl w (some g)) (.cells #[] 5)
  go_loopw [5, 6] (fun v i wr => ∃ (k : Nat) (l : List UInt8), k ≤ N ∧ i = .int .i64 k ∧ l.length ≤ k ∧ k ≤ l.length ∧ OwnB wr w.heap.size v l ∧ Cur 81 w0 n wr g ∧ w.grownBy wr (some g)) (fun _ i _ => N - (intOf i).toNat)
  case atStart => exact ⟨0, [], Nat.zero_le _, rfl, Nat.le_refl _, Nat.le_refl _, ho, hc0, hg0⟩
  case round =>
    clear ho hc0 hg0
    obtain ⟨k, l, hk, rfl, hl0, hl1, hown, hcur, hg⟩ := hrel
    by_cases hlt : k < N
    · have C := Lib.hid (l01Byte_any w0 n g wr hcur)
      have Ho := Lib.hid hown
      have Hg := Lib.hid hg
      clear hown hcur hg
      go_wp2_with fail
      refine C.out.mono ?_
      rintro e w1 ⟨⟨x, x0, x1, rfl⟩, hc, hg1⟩
      have hown1 : OwnB w1 _ _ _ := Own.kept_only Ho.out hg1 hgl
      have Hg1 := Lib.hid (grownBy_trans Hg.out hg1)
      have hs1 : w.heap.size ≤ w1.heap.size := Hg1.out.size
      have hx : [Value.int .u8 x] = u8s [UInt8.ofNat x.toNat] := u8_cell (by rw [ofNat_mod]; omega)
      have Hx := Lib.hid hx
      have Hc := Lib.hid hc
      clear hx hc hg1
      go_wp2_with (at_builtin; refine wpList_push_u8 _ rfl _ _ 32 rfl 5 Tryd.underlying32 Tryd.infoU8s _ _ _ rfl hown1 _ _ Hx.out 1 1 rfl rfl (by omega) hs1 ?_; intro v2 w2 hown2 hg2 hb2)
      refine ⟨⟨k + 1, l ++ [UInt8.ofNat x.toNat], by omega, by go_num, by simp; omega, by simp; omega, hown2, ?_, ?_⟩, by simp [intOf]; omega⟩
      · exact Hc.out.kept_row hg2 (fun e => by have := (Own.block hown1 _ e).1; omega) (fun k e => Nat.le_trans (by have := Hc.out.below.size; have := H.out.below.size; omega) (Own.block hown1 _ e).1)
      · exact grownBy_only Hg1.out hg2 (fun k e => (Own.block hown1 _ e).1)
    · have hc := OwnB.text (P := Tryd.prog) hown 32 9 5 Tryd.underlying32 Tryd.underlying5 Tryd.underlying9
      have Hcur := Lib.hid hcur
      have Hg := Lib.hid hg
      clear hown hcur hg
      go_wp2_with fail
      go_ret
      exact ⟨⟨_, by show (txt l).size = N; rw [txt_size]; omega, rfl⟩, Hcur.out, Hg.out⟩

end Go.Proofs.YtcehbmlibfalaaaDoor
