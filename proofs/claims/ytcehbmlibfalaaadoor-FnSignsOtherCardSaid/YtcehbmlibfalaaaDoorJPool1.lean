/-
  The walks of public keys.
-/
import Derived.Test.YtcehbmlibfalaaaDoorJSha6
import Derived.Test.YtcehbmlibfalaaaDoorBase7
namespace Go.Proofs.YtcehbmlibfalaaaDoor
open Go.RowKit

set_option maxHeartbeats 1000000 in
theorem sPublicOf_any (s : ByteArray) (hs : s.size ≤ 1048576) (a : Int) (w : World) :
    Calls Tryd.prog 11 #[.string s, .int .i64 a] w fun e w' => e = .returned (.string (txt (pubL s a))) ∧ Below w.heap.size w w' := by
  by_cases h : s.size ≤ 100 ∧ 0 ≤ a ∧ a ≤ 15
  · rw [pubL_yes h]
    generalize hd0 : hashT 6 (pubLocks s a 16) 16 = d0
    have HD := Lib.hid hd0
    clear hd0
    have hS : Hid (∀ b c : Nat, b < 8 → c < 2 → SecOk s a b c) := Lib.hid fun b c hb hc => ⟨h.1, ⟨by omega, by omega⟩, ⟨by omega, by omega⟩, ⟨by omega, by omega⟩⟩
    clear h
    go_enter Tryd.func11, Tryd.ntmps11
    go_wp2_with fail
    go_loopw [5, 6] (fun v i wr => ∃ b : Nat, b ≤ 8 ∧ i = .int .i64 b ∧ OwnS wr w.heap.size v (pubLocks s a (2 * b)) ∧ Below w.heap.size w wr) (fun _ i _ => 8 - (intOf i).toNat)
    case atStart => exact ⟨0, Nat.zero_le _, rfl, OwnS.empty _ _ _ (Nat.le_refl _), (Below.refl _ _).alloc (Nat.le_refl _) _⟩
    case round =>
      obtain ⟨b, hb8, rfl, hown, hb⟩ := hrel
      by_cases hlt : b < 8
      · go_wp2_with fail
        have Hlt := Lib.hid hlt
        clear hlt
        generalize Value.bool (decide ((b : Int) < 8)) = q11
        go_loopw [5, 7] (fun v i wr => ∃ c : Nat, c ≤ 2 ∧ i = .int .i64 c ∧ OwnS wr w.heap.size v (pubLocks s a (2 * b + c)) ∧ Below w.heap.size w wr) (fun _ i _ => 2 - (intOf i).toNat)
        case atStart => exact ⟨0, Nat.zero_le _, rfl, hown, hb⟩
        case round =>
          clear hown hb
          obtain ⟨c, hc2, rfl, hown, hb⟩ := hrel
          have hbs := hb.size
          by_cases hlc : c < 2
          · have hnext := pubLocks_next s a b c hlc
            have hpl : (pubLocks s a (2 * b + c)).length ≤ 32 := by rw [pubLocks_len]; omega
            have C0 := fun wx => sSecretOf_any s hs a b c wx
            have D0 := fun wx => sLockOf_any (txt (secretL s a b c)) (by rw [txt_size]; have := secret_le s a b c; omega) wx
            obtain ⟨e1, e2⟩ := full_text (secret_len (hS.out b c Hlt.out hlc))
            generalize lockL (txt (secretL s a b c)) = d at *
            generalize txt (secretL s a b c) = t at *
            generalize pubLocks s a (2 * b + c) = pl at *
            have C := Lib.hid C0
            have D := Lib.hid D0
            have HN := Lib.hid hnext
            clear C0 D0 hnext
            go_wp2_with fail
            refine (C.out _).mono ?_
            rintro e w1 ⟨rfl, hb1⟩
            have hown1 := hown.below hb1 (Nat.le_refl _)
            have hb01 := hb.trans (hb1.mono hbs)
            have hbs1 := hb01.size
            clear hown hb hb1
            go_wp2_with fail
            refine (D.out _).mono ?_
            rintro e w2 ⟨rfl, hb2⟩
            have hown2 := hown1.below hb2 (Nat.le_refl _)
            have hb02 := hb01.trans (hb2.mono hbs1)
            have hbs2 := hb02.size
            clear hown1 hb01 hb2
            go_wp2_with (at_builtin; refine wpList_push_strs _ _ rfl _ _ 24 rfl 9 Tryd.underlying24 Tryd.infoStr _ _ pl rfl hown2 _ [txt d] rfl 1 1 rfl _ rfl rfl (by omega) hbs2 rfl ?_; intro v1 w3 hown3 hg3 hb3)
            exact ⟨⟨c + 1, by omega, by go_num, by rw [show 2 * b + (c + 1) = 2 * b + c + 1 from rfl, HN.out]; exact hown3, hb02.trans hb3⟩, by simp [intOf] <;> omega⟩
          · obtain rfl : c = 2 := by omega
            go_wp2_with fail
            have hlt := Hlt.out
            exact ⟨⟨b + 1, by omega, by go_num, hown, hb⟩, by simp [intOf] <;> omega⟩
      · obtain rfl : b = 8 := by omega
        have C0 := fun ao cap wx hx => sTagHash_any 6 ao cap (pubLocks s a 16) 16 wx (by rw [pubLocks_len]; decide) (fun x hx => by have := pubLocks_size s a 16 x hx; omega) hx
        obtain ⟨ao, cap, rfl, hrd⟩ := hown.rd
        have C1 := C0 ao cap _ hrd
        rw [show 2 * 8 = 16 from rfl, pubLocks_len]
        rw [pubLocks_len] at C1
        rw [HD.out] at C1
        have C := Lib.hid C1
        have hbs := hb.size
        clear C0 C1 hown hrd
        go_wp2_with fail
        refine C.out.mono ?_
        rintro e w2 ⟨rfl, hb2⟩
        go_wp2_with fail
        go_ret
        exact ⟨rfl, hb.trans (hb2.mono hbs)⟩
  · rw [pubL_no h]
    have C0 := fun wx => sSecretOf_any s hs a 0 0 wx
    rw [secretL_no (fun hk => h ⟨hk.1, hk.2.1⟩)] at C0
    have e0 : (txt []).toList = [] := by rw [ByteArray.toList_eq, txt_data]
    have C := Lib.hid C0
    clear C0 h
    go_enter Tryd.func11, Tryd.ntmps11
    go_wp2_with fail
    go_loopw [6] (fun i wr => i = .int .i64 0 ∧ Below w.heap.size w wr) (fun i _ => 1)
    case atStart => exact ⟨rfl, (Below.refl _ _).alloc (Nat.le_refl _) _⟩
    case round =>
      obtain ⟨rfl, hb⟩ := hrel
      have hbs := hb.size
      go_wp2_with fail
      go_loopw [7] (fun i wr => i = .int .i64 0 ∧ Below w.heap.size w wr) (fun i _ => 1)
      case atStart => exact ⟨rfl, hb⟩
      case round =>
        clear hb hbs
        obtain ⟨rfl, hb⟩ := hrel
        have hbs := hb.size
        go_wp2_with fail
        refine (C.out _).mono ?_
        rintro e w1 ⟨rfl, hb1⟩
        go_wp2_with fail
        go_ret
        exact ⟨rfl, hb.trans (hb1.mono hbs)⟩

set_option maxHeartbeats 1000000 in
theorem iPublicOf_any (s : ByteArray) (hs : s.size ≤ 1048576) (a : Int) (w : World) (hT : YtcehbmlibfalaaaDoorTabs w) :
    Calls Tryd.prog 12 #[.string s, .int .i64 a] w fun e w' => e = .returned (.string (txt (pubL s a))) ∧ Below w.heap.size w w' := by
  by_cases h : s.size ≤ 100 ∧ 0 ≤ a ∧ a ≤ 15
  · rw [pubL_yes h]
    generalize hd0 : hashT 6 (pubLocks s a 16) 16 = d0
    have HD := Lib.hid hd0
    clear hd0
    have hS : Hid (∀ b c : Nat, b < 8 → c < 2 → SecOk s a b c) := Lib.hid fun b c hb hc => ⟨h.1, ⟨by omega, by omega⟩, ⟨by omega, by omega⟩, ⟨by omega, by omega⟩⟩
    have HT := Lib.hid hT
    clear h hT
    go_enter Tryd.func12, Tryd.ntmps12
    go_wp2_with fail
    go_loopw [5, 9] (fun v i wr => ∃ b : Nat, b ≤ 8 ∧ i = .int .i64 b ∧ OwnS wr w.heap.size v (pubLocks s a (2 * b)) ∧ Below w.heap.size w wr) (fun _ i _ => 8 - (intOf i).toNat)
    case atStart => exact ⟨0, Nat.zero_le _, rfl, OwnS.nil _ _, Below.refl _ _⟩
    case round =>
      obtain ⟨b, hb8, rfl, hown, hb⟩ := hrel
      by_cases hlt : b < 8
      · go_wp2_with fail
        have Hlt := Lib.hid hlt
        clear hlt
        generalize Value.bool (decide ((b : Int) < 8)) = q11
        go_loopw [5, 12] (fun v i wr => ∃ c : Nat, c ≤ 2 ∧ i = .int .i64 c ∧ OwnS wr w.heap.size v (pubLocks s a (2 * b + c)) ∧ Below w.heap.size w wr) (fun _ i _ => 2 - (intOf i).toNat)
        case atStart => exact ⟨0, Nat.zero_le _, rfl, hown, hb⟩
        case round =>
          clear hown hb
          obtain ⟨c, hc2, rfl, hown, hb⟩ := hrel
          have hbs := hb.size
          by_cases hlc : c < 2
          · have hnext := pubLocks_next s a b c hlc
            have hpl : (pubLocks s a (2 * b + c)).length ≤ 32 := by rw [pubLocks_len]; omega
            have C0 := fun wx hx => iSecretOf_any s hs a b c wx hx
            have D0 := fun wx hx => iLockOf_any (txt (secretL s a b c)) (by rw [txt_size]; have := secret_le s a b c; omega) wx hx
            obtain ⟨e1, e2⟩ := full_text (secret_len (hS.out b c Hlt.out hlc))
            generalize lockL (txt (secretL s a b c)) = d at *
            generalize txt (secretL s a b c) = t at *
            generalize pubLocks s a (2 * b + c) = pl at *
            have C := Lib.hid C0
            have D := Lib.hid D0
            have HN := Lib.hid hnext
            clear C0 D0 hnext
            go_wp2_with fail
            refine (C.out _ (HT.out.below hb (Nat.le_refl _))).mono ?_
            rintro e w1 ⟨rfl, hb1⟩
            have hown1 := hown.below hb1 (Nat.le_refl _)
            have hb01 := hb.trans (hb1.mono hbs)
            have hbs1 := hb01.size
            clear hown hb hb1
            go_wp2_with fail
            refine (D.out _ (HT.out.below hb01 (Nat.le_refl _))).mono ?_
            rintro e w2 ⟨rfl, hb2⟩
            have hown2 := hown1.below hb2 (Nat.le_refl _)
            have hb02 := hb01.trans (hb2.mono hbs1)
            have hbs2 := hb02.size
            clear hown1 hb01 hb2
            go_wp2_with (at_builtin; refine wpList_push_strs _ _ rfl _ _ 24 rfl 9 Tryd.underlying24 Tryd.infoStr _ _ pl rfl hown2 _ [txt d] rfl 1 1 rfl _ rfl rfl (by omega) hbs2 rfl ?_; intro v1 w3 hown3 hg3 hb3)
            exact ⟨⟨c + 1, by omega, by go_num, by rw [show 2 * b + (c + 1) = 2 * b + c + 1 from rfl, HN.out]; exact hown3, hb02.trans hb3⟩, by simp [intOf] <;> omega⟩
          · obtain rfl : c = 2 := by omega
            go_wp2_with fail
            have hlt := Hlt.out
            exact ⟨⟨b + 1, by omega, by go_num, hown, hb⟩, by simp [intOf] <;> omega⟩
      · obtain rfl : b = 8 := by omega
        have C0 := fun ao cap wx hx => iTagHash_any 6 ao cap (pubLocks s a 16) 16 wx (by rw [pubLocks_len]; decide) (fun x hx => by have := pubLocks_size s a 16 x hx; omega) hx
        obtain ⟨ao, cap, rfl, hrd⟩ := hown.rd
        have C1 := C0 ao cap _ hrd (HT.out.below hb (Nat.le_refl _))
        rw [show 2 * 8 = 16 from rfl, pubLocks_len]
        rw [pubLocks_len] at C1
        rw [HD.out] at C1
        have C := Lib.hid C1
        have hbs := hb.size
        clear C0 C1 hown hrd
        go_wp2_with fail
        refine C.out.mono ?_
        rintro e w2 ⟨rfl, hb2⟩
        go_wp2_with fail
        go_ret
        exact ⟨rfl, hb.trans (hb2.mono hbs)⟩
  · rw [pubL_no h]
    have C0 := fun wx hx => iSecretOf_any s hs a 0 0 wx hx
    rw [secretL_no (fun hk => h ⟨hk.1, hk.2.1⟩)] at C0
    have e0 : (txt []).toList = [] := by rw [ByteArray.toList_eq, txt_data]
    have C := Lib.hid C0
    have HT := Lib.hid hT
    clear C0 h hT
    go_enter Tryd.func12, Tryd.ntmps12
    go_wp2_with fail
    go_loopw [9] (fun i wr => i = .int .i64 0 ∧ Below w.heap.size w wr) (fun i _ => 1)
    case atStart => exact ⟨rfl, Below.refl _ _⟩
    case round =>
      obtain ⟨rfl, hb⟩ := hrel
      have hbs := hb.size
      go_wp2_with fail
      go_loopw [12] (fun i wr => i = .int .i64 0 ∧ Below w.heap.size w wr) (fun i _ => 1)
      case atStart => exact ⟨rfl, hb⟩
      case round =>
        clear hb hbs
        obtain ⟨rfl, hb⟩ := hrel
        have hbs := hb.size
        go_wp2_with fail
        refine (C.out _ (HT.out.below hb (Nat.le_refl _))).mono ?_
        rintro e w1 ⟨rfl, hb1⟩
        go_wp2_with fail
        go_ret
        exact ⟨rfl, hb.trans (hb1.mono hbs)⟩

end Go.Proofs.YtcehbmlibfalaaaDoor
