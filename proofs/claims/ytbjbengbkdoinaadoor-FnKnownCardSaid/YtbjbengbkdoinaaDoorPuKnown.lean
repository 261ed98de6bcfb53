/-
  Plain law: the digest's known values, reckoned by the kernel. No program in sight.
-/
import Derived.Test.YtbjbengbkdoinaaDoorPuDig
import Derived.Test.YtbjbengbkdoinaaDoorPuHex
namespace Go.Proofs.YtbjbengbkdoinaaDoor
open Go.RowKit

/-- f at n, n reckoned first. -/
def forceN {α : Type} (n : Nat) (f : Nat → α) : α := match n with
  | 0 => f 0
  | k + 1 => f (k + 1)
theorem forceN_eq {α : Type} (n : Nat) (f : Nat → α) : forceN n f = f n := by cases n <;> rfl

/-- The schedule, the newest word first. -/
def schedR : Nat → List Nat → List Nat
  | 0, acc => acc
  | m + 1, acc => forceN (nextW (acc.getD 15 0) (acc.getD 14 0) (acc.getD 6 0) (acc.getD 1 0)) fun x => schedR m (x :: acc)
theorem getD_rev (l : List Nat) (j : Nat) (hj : j < l.length) : l.reverse.getD j 0 = l.getD (l.length - 1 - j) 0 := by
  rw [List.getD_eq_getElem?_getD, List.getD_eq_getElem?_getD, List.getElem?_reverse hj]
theorem schedR_eq (b : List UInt8) : ∀ (m k : Nat), 16 ≤ k → schedR m (sched b k).reverse = (sched b (k + m)).reverse
  | 0, _, _ => rfl
  | m + 1, k, hk => by
    have hl := sched_length b k
    rw [schedR, forceN_eq, getD_rev _ _ (by omega), getD_rev _ _ (by omega), getD_rev _ _ (by omega), getD_rev _ _ (by omega), hl, show k - 1 - 15 = k - 16 by omega, show k - 1 - 14 = k - 15 by omega, show k - 1 - 6 = k - 7 by omega, show k - 1 - 1 = k - 2 by omega]
    have h : ∀ x, x = nextW ((sched b k).getD (k - 16) 0) ((sched b k).getD (k - 15) 0) ((sched b k).getD (k - 7) 0) ((sched b k).getD (k - 2) 0) → x :: (sched b k).reverse = (sched b (k + 1)).reverse := by
      intro x hx
      rw [sched, if_neg (by omega), List.reverse_append, ← hx]; rfl
    rw [h _ rfl, schedR_eq b m (k + 1) (by omega), show k + 1 + m = k + (m + 1) by omega]
/-- The first sixteen words, the newest first. -/
def firstR (b : List UInt8) : Nat → List Nat → List Nat
  | 0, acc => acc
  | m + 1, acc => forceN (wordAt b acc.length) fun x => firstR b m (x :: acc)
theorem firstR_eq (b : List UInt8) : ∀ (m k : Nat), k + m ≤ 16 → firstR b m (sched b k).reverse = (sched b (k + m)).reverse
  | 0, _, _ => rfl
  | m + 1, k, hk => by
    have h : wordAt b (sched b k).reverse.length :: (sched b k).reverse = (sched b (k + 1)).reverse := by
      rw [sched, if_pos (by omega), List.length_reverse, sched_length, List.reverse_append]; rfl
    rw [firstR, forceN_eq, h, firstR_eq b m (k + 1) (by omega), show k + 1 + m = k + (m + 1) by omega]
theorem sched64 (b : List UInt8) : sched b 64 = (schedR 48 (firstR b 16 [])).reverse := by
  have h1 := firstR_eq b 16 0 (by decide)
  have h2 := schedR_eq b 48 16 (by decide)
  rw [show (sched b 0).reverse = [] from rfl] at h1
  rw [h1, h2, List.reverse_reverse]

/-- The rounds, word by word. -/
def rndR : List Nat → List Nat → W8 → W8
  | k :: ks, w :: ws, s => forceN ((rndT s k w + rndU s) % 4294967296) fun a => forceN ((s.d + rndT s k w) % 4294967296) fun e => rndR ks ws ⟨a, s.a, s.b, s.c, e, s.e, s.f, s.g⟩
  | _, _, s => s
theorem rndR_eq (ws : List Nat) (s : W8) (hw : ws.length = 64) : ∀ (m i : Nat), i + m = 64 → rndR (keyL.drop i) (ws.drop i) (rnds ws s i) = rnds ws s 64
  | 0, i, h => by
    obtain rfl : i = 64 := by omega
    have e : keyL.drop 64 = [] := rfl
    rw [e, rndR]
    intro _ _ _ _ h
    cases h
  | m + 1, i, h => by
    have hk : i < keyL.length := by rw [keyL_length]; omega
    have hi : i < ws.length := by omega
    rw [List.drop_eq_getElem_cons hk, List.drop_eq_getElem_cons hi, rndR, forceN_eq, forceN_eq]
    have hn : rnds ws s (i + 1) = ⟨(rndT (rnds ws s i) keyL[i] ws[i] + rndU (rnds ws s i)) % 4294967296, (rnds ws s i).a, (rnds ws s i).b, (rnds ws s i).c, ((rnds ws s i).d + rndT (rnds ws s i) keyL[i] ws[i]) % 4294967296, (rnds ws s i).e, (rnds ws s i).f, (rnds ws s i).g⟩ := by
      rw [rnds, rnd]
      have e1 : keyL.getD i 0 = keyL[i] := by rw [List.getD_eq_getElem?_getD, List.getElem?_eq_getElem hk]; rfl
      have e2 : ws.getD i 0 = ws[i] := by rw [List.getD_eq_getElem?_getD, List.getElem?_eq_getElem hi]; rfl
      rw [e1, e2]
    rw [← hn]
    exact rndR_eq ws s hw m (i + 1) (by omega)
/-- The compression function, word by word. -/
def compR (s : W8) (b : List UInt8) : W8 := addW s (rndR keyL (schedR 48 (firstR b 16 [])).reverse s)
theorem compR_eq (s : W8) (b : List UInt8) : comp s b = compR s b := by
  have h := rndR_eq (sched b 64) s (sched_length b 64) 64 0 rfl
  rw [comp, compR, ← sched64]
  rw [← h]
  rfl
def force8 {α : Type} (s : W8) (f : W8 → α) : α := forceN s.a fun a => forceN s.b fun b => forceN s.c fun c => forceN s.d fun d => forceN s.e fun e => forceN s.f fun x => forceN s.g fun g => forceN s.h fun h => f ⟨a, b, c, d, e, x, g, h⟩
theorem force8_eq {α : Type} (s : W8) (f : W8 → α) : force8 s f = f s := by
  unfold force8
  rw [forceN_eq, forceN_eq, forceN_eq, forceN_eq, forceN_eq, forceN_eq, forceN_eq, forceN_eq]
def chainR (p : List UInt8) : Nat → W8
  | 0 => startW
  | k + 1 => force8 (chainR p k) fun s => compR s ((p.drop (64 * k)).take 64)
theorem chainR_eq (p : List UInt8) (k : Nat) : chain p k = chainR p k := by
  induction k with
  | zero => rfl
  | succ k ih => rw [chain, chainR, force8_eq, ih, compR_eq]
def shaR (l : List UInt8) : List UInt8 := force8 (chainR (padL l) ((padL l).length / 64)) fun s => be32s s.toL
theorem shaR_eq (l : List UInt8) : sha l = shaR l := by rw [sha, shaR, force8_eq, chainR_eq]

theorem known0 : hexL (sha []) = [101, 51, 98, 48, 99, 52, 52, 50, 57, 56, 102, 99, 49, 99, 49, 52, 57, 97, 102, 98, 102, 52, 99, 56, 57, 57, 54, 102, 98, 57, 50, 52, 50, 55, 97, 101, 52, 49, 101, 52, 54, 52, 57, 98, 57, 51, 52, 99, 97, 52, 57, 53, 57, 57, 49, 98, 55, 56, 53, 50, 98, 56, 53, 53] := by
  rw [shaR_eq]; decide +kernel
theorem known1 : hexL (sha [97, 98, 99]) = [98, 97, 55, 56, 49, 54, 98, 102, 56, 102, 48, 49, 99, 102, 101, 97, 52, 49, 52, 49, 52, 48, 100, 101, 53, 100, 97, 101, 50, 50, 50, 51, 98, 48, 48, 51, 54, 49, 97, 51, 57, 54, 49, 55, 55, 97, 57, 99, 98, 52, 49, 48, 102, 102, 54, 49, 102, 50, 48, 48, 49, 53, 97, 100] := by
  rw [shaR_eq]; decide +kernel
theorem known2 : hexL (sha [97, 98, 99, 100, 98, 99, 100, 101, 99, 100, 101, 102, 100, 101, 102, 103, 101, 102, 103, 104, 102, 103, 104, 105, 103, 104, 105, 106, 104, 105, 106, 107, 105, 106, 107, 108, 106, 107, 108, 109, 107, 108, 109, 110, 108, 109, 110, 111, 109, 110, 111, 112, 110, 111, 112, 113]) = [50, 52, 56, 100, 54, 97, 54, 49, 100, 50, 48, 54, 51, 56, 98, 56, 101, 53, 99, 48, 50, 54, 57, 51, 48, 99, 51, 101, 54, 48, 51, 57, 97, 51, 51, 99, 101, 52, 53, 57, 54, 52, 102, 102, 50, 49, 54, 55, 102, 54, 101, 99, 101, 100, 100, 52, 49, 57, 100, 98, 48, 54, 99, 49] := by
  rw [shaR_eq]; decide +kernel

end Go.Proofs.YtbjbengbkdoinaaDoor
