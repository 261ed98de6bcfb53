/-
  The walk of a signature's text, the reference's side.
-/
import Derived.Test.YtnlddjlbioelnaaSig11
namespace Go.Proofs.Ytnlddjlbioelnaa
open Go.RowKit

/-- append onto a []string of the call's own from strings that are read, at a step of a region that draws. -/
theorem step_append_strs {P : Program} (w : World) {ops : Array Oper} {o : Oper} {a : Act} {K : Act → World → Prop} {Q : Exit → Act → World → Prop} {E : Prop}
    (hg : o.guard = none) (s xo : Operand) (t : TypeId) (hop : o.op = Op.call { callee := Callee.builtin Builtin.append, args := #[s, xo], argTypes := #[t, t] })
    (e : TypeId) (ht : P.underlying t = some (.slice e)) (hinfo : (P.info? e).map (fun i => (i.zero, i.size, i.bytes)) = some (some (.string ⟨#[]⟩), 1, 16))
    (B : Nat) (v : Value) (l : List ByteArray) (hs : a.eval s = v) (hown : OwnS w B v l) (ao : Option Addr) (c : Nat) (m : List ByteArray) (hr : RdS w ao m)
    (hxo : a.eval xo = .slice ao m.length c) (hb : l.length + m.length ≤ 1099511627776) (hB : B ≤ w.heap.size)
    (hK : ∀ v' w', OwnS w' B v' (l ++ m) → w.grownBy w' v.ownBlock → Below B w w' → K (a.put o.dst v') w') :
    if Region.wanted o (yielded ops a.tmps) = true then Oper.wp P o a w K Q else E := by
  have hw : Region.wanted o (yielded ops a.tmps) = true := by simp [Region.wanted, hg]
  rw [if_pos hw]
  refine wp_append_Own (P := P) _ s xo t t hop B e _ 1 16 ht hinfo rfl v l.length (strC l) hs hown _ hxo m.length (strC m) (hr.src ht c) (by unfold maxLen; omega) (by omega) hB ?_
  intro v' w' h1 h2 _
  refine hK v' w' ?_ h2 ((Below.refl B w).grown h2 hB (fun k hk => (Own.block hown k hk).1))
  unfold OwnS
  rw [strC_append, List.length_append]
  exact h1

theorem sigL_step {p : Int} {l : List ByteArray} {k : Nat} {x : ByteArray} (hx : l[k]? = some x) : txt (UInt8.ofNat p.toNat :: joinS (l.take (k + 1))) = txt (UInt8.ofNat p.toNat :: joinS (l.take k)) ++ x := by
  rw [joinS_step hx, txt_join]; rfl
set_option maxHeartbeats 4000000 in
set_option maxRecDepth 100000 in
theorem sSigText_any (v : Value) (p : Int) (o s d : List ByteArray) (w : World) (ho : o.length ≤ 1048576) (hs : s.length ≤ 1048576) (hd : d.length ≤ 1048576) (ho' : ∀ x ∈ o, x.size ≤ 1048576) (hs' : ∀ x ∈ s, x.size ≤ 1048576) (hd' : ∀ x ∈ d, x.size ≤ 1048576) (h : RdSig w v p o s d) :
    Calls Try.prog 20 #[v] w fun e w' => e = .returned (optTxt (sigR p o s d)) ∧ Below w.heap.size w w' := by
  obtain ⟨a1, c1, a2, c2, a3, c3, rfl, r1, r2, r3⟩ := h
  have hB := (Below.refl w.heap.size w).alloc (Nat.le_refl _) (.cells #[.int .i64 p, .slice a1 o.length c1, .slice a2 s.length c2, .slice a3 d.length c3] 44)
  have hz := alloc_size w (.cells #[.int .i64 p, .slice a1 o.length c1, .slice a2 s.length c2, .slice a3 d.length c3] 44)
  have CF := sForm_any _ p o s d _ ho hs hd ho' hs' hd' ⟨a1, c1, a2, c2, a3, c3, rfl, r1.below hB (Nat.le_refl _), r2.below hB (Nat.le_refl _), r3.below hB (Nat.le_refl _)⟩
  have k0 : ∀ W, Below (w.heap.size + 1) (w.alloc (.cells #[.int .i64 p, .slice a1 o.length c1, .slice a2 s.length c2, .slice a3 d.length c3] 44)) W →
      W.cell? ⟨w.heap.size, 0, none⟩ = some (.int .i64 p) ∧ W.cell? ⟨w.heap.size, 1, none⟩ = some (.slice a1 o.length c1) ∧ W.cell? ⟨w.heap.size, 2, none⟩ = some (.slice a2 s.length c2) ∧ W.cell? ⟨w.heap.size, 3, none⟩ = some (.slice a3 d.length c3) := by
    intro W hW
    refine ⟨?_, ?_, ?_, ?_⟩ <;> refine (hW.cell (by simp)).trans ?_ <;> simp
  have HB := Lib.hid hB
  have HZ := Lib.hid hz
  have K0 := Lib.hid k0
  by_cases hf : SigForm p o s d
  · rw [decide_eq_true hf] at CF
    have DF := Lib.hid CF
    rw [sigR_yes hf]
    simp only [optTxt]
    obtain ⟨hp, ⟨ol, oz⟩, ⟨sl, sz⟩, dl, dz⟩ := hf
    have hall : ∀ x ∈ (o ++ s) ++ d, x.size = 16 := by
      intro x hx
      rcases List.mem_append.1 hx with hx | hx
      · rcases List.mem_append.1 hx with hx | hx
        · exact oz x hx
        · exact sz x hx
      · exact dz x hx
    have hlen : ((o ++ s) ++ d).length = 20 := by simp [ol, sl, dl]
    have HA := Lib.hid hall
    have HLn := Lib.hid hlen
    have R1 := Lib.hid (fun wx (hx : Below (w.heap.size + 1) (w.alloc (.cells #[.int .i64 p, .slice a1 o.length c1, .slice a2 s.length c2, .slice a3 d.length c3] 44)) wx) => (r1.below hB (Nat.le_refl _)).below hx (by rw [hz]; exact Nat.le_refl _))
    have R2 := Lib.hid (fun wx (hx : Below (w.heap.size + 1) (w.alloc (.cells #[.int .i64 p, .slice a1 o.length c1, .slice a2 s.length c2, .slice a3 d.length c3] 44)) wx) => (r2.below hB (Nat.le_refl _)).below hx (by rw [hz]; exact Nat.le_refl _))
    have R3 := Lib.hid (fun wx (hx : Below (w.heap.size + 1) (w.alloc (.cells #[.int .i64 p, .slice a1 o.length c1, .slice a2 s.length c2, .slice a3 d.length c3] 44)) wx) => (r3.below hB (Nat.le_refl _)).below hx (by rw [hz]; exact Nat.le_refl _))
    have HP := Lib.hid (fun wx => built_txt (P := Try.prog) Try.underlying22 Try.underlying5 Try.underlying9 wx _ _ (p_cell p hp) 1 1 rfl 5)
    have OL := Lib.hid ol
    have SL := Lib.hid sl
    have DL := Lib.hid dl
    have ol8 : o.length ≤ 8 := by omega
    have sl8 : s.length ≤ 8 := by omega
    have dl4 : d.length ≤ 4 := by omega
    obtain ⟨hp0, hp1⟩ := hp
    clear r1 r2 r3 hB hz k0 CF ho' hs' hd' oz sz dz hall hlen ol sl dl
    go_enter Try.func20, Try.ntmps20
    go_wp2_with fail
    refine DF.out.mono ?_
    rintro e w1 ⟨rfl, hb1⟩
    rw [HZ.out] at hb1
    have G1 := Lib.hid hb1
    clear hb1
    obtain ⟨e0, e1, e2, e3⟩ := K0.out w1 G1.out
    have hcv := HP.out w1
    have hs1 := G1.out.size
    rw [HZ.out] at hs1
    go_upto_region 4 with fail
    have hs2 : w.heap.size + 1 ≤ (w1.alloc (.cells #[.int .u8 p] 5)).heap.size := by rw [alloc_size]; omega
    have G2 := Lib.hid (G1.out.alloc hs1 (.cells #[.int .u8 p] 5))
    clear e0 e1 e2 e3 hcv
    generalize w1.alloc (.cells #[.int .u8 p] 5) = w2 at *
    generalize w.alloc (.cells #[.int .i64 p, .slice a1 o.length c1, .slice a2 s.length c2, .slice a3 d.length c3] 44) = W1 at *
    obtain ⟨e0, e1, e2, e3⟩ := K0.out w2 G2.out
    have G2d := Lib.hid (G2.out.drew)
    have LE : Hid (Below (w.heap.size + 1) w2 (w2.drew.alloc (.cells #[] 9))) := Lib.hid ((Below.refl _ _).drew.alloc hs2 (.cells #[] 9))
    have HE := Lib.hid (G2.out.drew.alloc hs2 (.cells #[] 9))
    have HO0 : Hid (OwnS (w2.drew.alloc (.cells #[] 9)) (w.heap.size + 1) (.slice (some ⟨w2.heap.size, 0, none⟩) 0 0) []) := Lib.hid (OwnS.empty w2.drew _ 9 hs2)
    go_region_held3 (fun W => W.cell? ⟨w.heap.size, 0, none⟩ = some (.int .i64 p) ∧ W.cell? ⟨w.heap.size, 1, none⟩ = some (.slice a1 o.length c1) ∧ W.cell? ⟨w.heap.size, 2, none⟩ = some (.slice a2 s.length c2) ∧ W.cell? ⟨w.heap.size, 3, none⟩ = some (.slice a3 d.length c3))
      (first | exact K0.out _ G2d.out | exact K0.out _ HE.out | exact K0.out _ HB7.out | exact K0.out _ HB6.out | exact K0.out _ HB5.out | go_keep)
      (first
        | (refine step_append_strs _ (by rfl) _ _ 39 (by rfl) 9 Try.underlying39 Try.infoStr (w.heap.size + 1) _ [] (by rfl) HO0.out a1 c1 o (R1.out _ HE.out) (by rfl) (by simp only [List.length_nil]; omega) (Nat.le_trans hs2 LE.out.size) ?_; intro v5 w5 ho5 _ hb5; have HO5 := Lib.hid ho5; have HB5 := Lib.hid (HE.out.trans hb5); have L5 : Hid (Below (w.heap.size + 1) w2 w5) := Lib.hid (LE.out.trans hb5); obtain ⟨q5, k5, rfl⟩ := Own.shape ho5)
        | (refine step_append_strs _ (by rfl) _ _ 39 (by rfl) 9 Try.underlying39 Try.infoStr (w.heap.size + 1) _ ([] ++ o) (by rfl) HO5.out a2 c2 s (R2.out _ HB5.out) (by rfl) (by simp only [List.length_append, List.length_nil]; omega) (Nat.le_trans hs2 L5.out.size) ?_; intro v6 w6 ho6 _ hb6; have HO6 := Lib.hid ho6; have HB6 := Lib.hid (HB5.out.trans hb6); have L6 : Hid (Below (w.heap.size + 1) w2 w6) := Lib.hid (L5.out.trans hb6); obtain ⟨q6, k6, rfl⟩ := Own.shape ho6)
        | (refine step_append_strs _ (by rfl) _ _ 39 (by rfl) 9 Try.underlying39 Try.infoStr (w.heap.size + 1) _ ([] ++ o ++ s) (by rfl) HO6.out a3 c3 d (R3.out _ HB6.out) (by rfl) (by simp only [List.length_append, List.length_nil]; omega) (Nat.le_trans hs2 L6.out.size) ?_; intro v7 w7 ho7 _ hb7; have HO7 := Lib.hid ho7; have HB7 := Lib.hid (HB6.out.trans hb7); have L7 : Hid (Below (w.heap.size + 1) w2 w7) := Lib.hid (L6.out.trans hb7); obtain ⟨q7, k7, rfl⟩ := Own.shape ho7))
    have HR : Hid (RdS w7 q7 (o ++ s ++ d)) := Lib.hid (by
      have h := HO7.out
      rw [List.nil_append] at h
      obtain ⟨_, _, e, r⟩ := h.rd
      cases e
      exact r)
    have HL7 := Lib.hid (HB.out.trans (HB7.out.mono (Nat.le_succ _)))
    have hN : o.length + (s.length + d.length) = (o ++ s ++ d).length := by simp
    have hM : o.length + (s.length + d.length) = 20 := by rw [hN]; exact HLn.out
    have HS : Hid (txt (sigL p o s d) = txt (UInt8.ofNat p.toNat :: joinS (o ++ s ++ d))) := Lib.hid rfl
    clear HO5 HO6 HO7 HB5 HB6 HB7 L5 L6 L7 HE LE G2d HO0 R1 R2 R3 K0 e0 e1 e2 e3 hb5 hb6 hb7 ho5 ho6 ho7
    generalize hA : o ++ s ++ d = A at *
    go_wp2_with fail
    generalize o.length + (s.length + d.length) = N at *
    have hN2 := Lib.hid hN
    clear hN
    go_loop [4, 6] (fun q i => ∃ k : Nat, k ≤ N ∧ i = .int .i64 k ∧ q = .string (txt (UInt8.ofNat p.toNat :: joinS (A.take k)))) (fun _ i => N - (intOf i).toNat)
    case atStart => exact ⟨0, Nat.zero_le _, rfl, rfl⟩
    case round =>
      obtain ⟨k, hk, rfl, rfl⟩ := hrel
      by_cases hlt : k < N
      · obtain ⟨x, hx⟩ : ∃ x, A[k]? = some x := ⟨_, List.getElem?_eq_getElem (by have := hN2.out; omega)⟩
        obtain ⟨b, off, rfl, hc⟩ := HR.out k x hx
        have hxs : x.size ≤ 16 := by have := HA.out x (List.mem_of_getElem? hx); omega
        have hq : (txt (UInt8.ofNat p.toNat :: joinS (A.take k))).size ≤ 336 := by rw [txt_size, List.length_cons]; have := joinS_take_len HA.out k; omega
        have HN := Lib.hid (sigL_step (p := p) hx)
        generalize hT : txt (UInt8.ofNat p.toNat :: joinS (A.take k)) = T at *
        have HT := Lib.hid hT
        clear hx hT
        go_wp2_with fail
        exact ⟨⟨k + 1, by omega, by go_num, by rw [HN.out]⟩, by simp [intOf]; omega⟩
      · obtain rfl : k = N := by omega
        have hkA : A.take k = A := List.take_of_length_le (by have := hN2.out; omega)
        rw [hkA]
        go_wp2_with fail
        go_ret2
        exact ⟨by rw [HS.out]; rfl, HL7.out⟩
  · rw [decide_eq_false hf] at CF
    have DF := Lib.hid CF
    rw [sigR_no hf]
    simp only [optTxt]
    clear r1 r2 r3 hB hf CF hz k0
    go_enter Try.func20, Try.ntmps20
    go_wp2_with fail
    refine DF.out.mono ?_
    rintro e w1 ⟨rfl, hb1⟩
    have HG := Lib.hid (HB.out.trans (hb1.mono HB.out.size))
    clear hb1
    go_wp2_with fail
    go_ret2
    exact ⟨rfl, HG.out⟩

end Go.Proofs.Ytnlddjlbioelnaa
