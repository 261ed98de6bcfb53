/-
  The walks of the draws of names, of places, and of what may be a name or a value.
-/
import Derived.Test.YtdecehecjlbbiaaJDraw2
import Derived.Test.YtdecehecjlbbiaaJBits
namespace Go.Proofs.Ytdecehecjlbbiaa
open Go.RowKit

def nameL : List ByteArray := [⟨#[97, 110, 110]⟩, ⟨#[98, 111, 98]⟩, ⟨#[99, 97, 116]⟩, ⟨#[100, 97, 110]⟩, ⟨#[101, 118, 101]⟩, ⟨#[102, 97, 121]⟩, ⟨#[103, 117, 115]⟩, ⟨#[104, 97, 108]⟩, ⟨#[105, 118, 121]⟩, ⟨#[106, 111, 101, 64, 120, 46, 111, 114, 103]⟩, ⟨#[107, 105, 109]⟩, ⟨#[108, 101, 111]⟩]
def nokL : List ByteArray := [⟨#[]⟩, ⟨#[97, 110, 110]⟩, ⟨#[106, 111, 101, 64, 120, 46, 111, 114, 103]⟩, ⟨#[65]⟩, ⟨#[116, 119, 101, 108, 118, 101, 116, 119, 101, 108, 118, 101]⟩, ⟨#[116, 104, 105, 114, 116, 101, 101, 110, 116, 104, 105, 114, 116]⟩, ⟨#[97, 32, 98]⟩, ⟨#[48]⟩, ⟨#[97, 0]⟩]
def vokL : List ByteArray := [⟨#[]⟩, ⟨#[107, 49]⟩, ⟨#[126]⟩, ⟨#[116, 119, 101, 108, 118, 101, 116, 119, 101, 108, 118, 101]⟩, ⟨#[116, 104, 105, 114, 116, 101, 101, 110, 116, 104, 105, 114, 116]⟩, ⟨#[97, 32, 98]⟩, ⟨#[127]⟩, ⟨#[65, 33]⟩]
theorem nameL_ok : ∀ s ∈ nameL, okBy nByte s.data.toList = true ∧ s.size ≤ 20 := by decide +kernel
theorem nokL_ok : ∀ s ∈ nokL, s.size ≤ 20 := by decide +kernel
theorem vokL_ok : ∀ s ∈ vokL, s.size ≤ 20 := by decide +kernel
/-- Two numbers are handed back. -/
def Drew2 (w : World) (e : Ending) (w' : World) : Prop := (∃ x y : Int, e = .returned (.tuple #[.int .i64 x, .int .i64 y])) ∧ Below w.heap.size w w'
/-- A number is handed back. -/
def DrawnA (T : TypeId) (w0 : World) (n g : Nat) (w : World) (e : Ending) (w' : World) : Prop := (∃ x : Int, e = .returned (.int .i64 x)) ∧ Cur T w0 n w' g ∧ w.grownBy w' (some g)

set_option maxHeartbeats 1000000 in
theorem l01Place_any (w0 : World) (n g : Nat) (N : Int) (h0 : 0 < N) (h1 : N ≤ 1000000) (w : World) (h : Cur 114 w0 n w g) :
    Calls Try.prog 95 #[.pointer (some ⟨g, 0, none⟩), .int .i64 N] w (DrawnA 114 w0 n g w) := by
  have C := Lib.hid (l01Once_any w0 n g 15 (by omega) (by omega) w h)
  clear h
  go_enter Try.func95, Try.ntmps95
  go_wp2_with fail
  refine C.out.mono ?_
  rintro e w1 ⟨⟨x, rfl⟩, hc, hg⟩
  have Hg := Lib.hid hg
  clear hg
  cases x with
  | true =>
    have hgl := hc.lt
    have D := Lib.hid (l01PickInt_any w0 n g (some ⟨w1.heap.size, 0, none⟩) 5 [-1, N, N + 1, 9223372036854775807, -9223372036854775808] (by simp) (by simp) _ (Cur.alloc hc _) (rdC_new w1 (intC [-1, N, N + 1, 9223372036854775807, -9223372036854775808]) _ rfl 3) (fun b off e => by cases e; omega))
    clear hc
    go_wp2_with fail
    refine D.out.mono ?_
    rintro e w2 ⟨⟨y, hy, rfl⟩, hc, hg⟩
    have Hg2 := Lib.hid (grownBy_trans Hg.out (grownBy_trans (grownBy_alloc' (World.grownBy.refl w1 (some g)) _) hg))
    have Hc := Lib.hid hc
    clear hc hg hy
    go_wp2_with fail
    go_ret
    exact ⟨⟨_, rfl⟩, Hc.out, Hg2.out⟩
  | false =>
    have D := Lib.hid (l01Below_any w0 n g N h0 (by omega) w1 hc)
    clear hc
    go_wp2_with fail
    refine D.out.mono ?_
    rintro e w2 ⟨⟨y, y0, y1, rfl⟩, hc, hg⟩
    have Hg2 := Lib.hid (grownBy_trans Hg.out hg)
    have Hc := Lib.hid hc
    clear hc hg
    go_wp2_with fail
    go_ret
    exact ⟨⟨_, rfl⟩, Hc.out, Hg2.out⟩

end Go.Proofs.Ytdecehecjlbbiaa
