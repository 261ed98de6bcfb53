/-
  No cell of these rows narrows 'for every input' (looked for: loops, veiled, ifaces, maps, wideKeys, modest, calm, conditions, laid).
  DERIVED. THE GIVEN ROWS OF THIS SEAT. 12 by the template 'for every input the law returns true; each argument reads behind the call as it read before'; 0 by the template 'total and deterministic' (their statements: YtdecehecjlbbiaaTotals.lean).
  GIVEN WITH THE SEED: the statements are not yours to turn. If you find one false, say at which input.
  Laid BY PROGRAM, IN A SANDBOX (cutbox-rows.mjs): the forced cells as the released guide's own fill.sh prints them over the translation 06d5f64e9461ff8a… (all of the seat's roots in one cut). By AI agents, Wed Nov 11 2026. No macro, syntax, notation, axiom, sorry.
-/
import Derived.Test.YtdecehecjlbbiaaChecked
import GoSem.Claim
import GoSem.ClaimJoined
import GoSem.ClaimMapViews
import Derived.JoinedTies
import Derived.KernelRfl
namespace Go.Proofs.Ytdecehecjlbbiaa
/- THE CELL 'sum', in the pinned program and in every row, IS THE sha256 OF THE DUMP (.gsa) THAT YtdecehecjlbbiaaProg.lean LOADS. Nothing in Lean hashes anything: it is a label: what it is worth is what the hold of that sum in a sandbox is worth. -/
noncomputable def Try.pinned : Pinned := { name := "ytdecehecjlbbiaa", sum := "06d5f64e9461ff8a66070166ea1994468dff3fe2d61d06d61cf29a35aa40f2a1", checked := Try.checked }
namespace Rows
def none {H : Type} : Left H := { results := [], args := [] }

/-- 'laws.FnExactDiskOk': WHATEVER THE INPUT: true; the input reads as it did. -/
def fnExactDiskOkSpec : ChangeSpec := { name := "fnExactDiskOk", fn := fun _ => fun
  | [d] => { results := [.lit (.bool true)], args := [d] }
  | _ => none }
def fnExactDiskOkRow : OpenClaim := { program := "ytdecehecjlbbiaa", sum := "06d5f64e9461ff8a66070166ea1994468dff3fe2d61d06d61cf29a35aa40f2a1", func := "loop.example/g00284/laws.FnExactDiskOk", spec := "fnExactDiskOk", apart := false }
def FnExactDiskOkSaid : Prop := fnExactDiskOkRow.holds Try.pinned (OpenSpec.ofChange fnExactDiskOkSpec)

/-- ITS FALSE NEIGHBOUR: 'it returns false'. Refute it at one input. -/
def fnExactDiskOkWrong : ChangeSpec := { name := "fnExactDiskOk", fn := fun _ => fun
  | [d] => { results := [.lit (.bool false)], args := [d] }
  | _ => none }
def FnExactDiskOkWrongFalsely : Prop := fnExactDiskOkRow.holds Try.pinned (OpenSpec.ofChange fnExactDiskOkWrong)

/-- 'laws.FnExactFileAt': WHATEVER THE INPUT: true; the input reads as it did. -/
def fnExactFileAtSpec : ChangeSpec := { name := "fnExactFileAt", fn := fun _ => fun
  | [d1, d2] => { results := [.lit (.bool true)], args := [d1, d2] }
  | _ => none }
def fnExactFileAtRow : OpenClaim := { program := "ytdecehecjlbbiaa", sum := "06d5f64e9461ff8a66070166ea1994468dff3fe2d61d06d61cf29a35aa40f2a1", func := "loop.example/g00284/laws.FnExactFileAt", spec := "fnExactFileAt", apart := false }
def FnExactFileAtSaid : Prop := fnExactFileAtRow.holds Try.pinned (OpenSpec.ofChange fnExactFileAtSpec)

/-- ITS FALSE NEIGHBOUR: 'it returns false'. Refute it at one input. -/
def fnExactFileAtWrong : ChangeSpec := { name := "fnExactFileAt", fn := fun _ => fun
  | [d1, d2] => { results := [.lit (.bool false)], args := [d1, d2] }
  | _ => none }
def FnExactFileAtWrongFalsely : Prop := fnExactFileAtRow.holds Try.pinned (OpenSpec.ofChange fnExactFileAtWrong)

/-- 'laws.FnExactAllKept': WHATEVER THE INPUT: true; the input reads as it did. -/
def fnExactAllKeptSpec : ChangeSpec := { name := "fnExactAllKept", fn := fun _ => fun
  | [d] => { results := [.lit (.bool true)], args := [d] }
  | _ => none }
def fnExactAllKeptRow : OpenClaim := { program := "ytdecehecjlbbiaa", sum := "06d5f64e9461ff8a66070166ea1994468dff3fe2d61d06d61cf29a35aa40f2a1", func := "loop.example/g00284/laws.FnExactAllKept", spec := "fnExactAllKept", apart := false }
def FnExactAllKeptSaid : Prop := fnExactAllKeptRow.holds Try.pinned (OpenSpec.ofChange fnExactAllKeptSpec)

/-- ITS FALSE NEIGHBOUR: 'it returns false'. Refute it at one input. -/
def fnExactAllKeptWrong : ChangeSpec := { name := "fnExactAllKept", fn := fun _ => fun
  | [d] => { results := [.lit (.bool false)], args := [d] }
  | _ => none }
def FnExactAllKeptWrongFalsely : Prop := fnExactAllKeptRow.holds Try.pinned (OpenSpec.ofChange fnExactAllKeptWrong)

/-- 'laws.FnExactLoseDisk': WHATEVER THE INPUT: true; the input reads as it did. -/
def fnExactLoseDiskSpec : ChangeSpec := { name := "fnExactLoseDisk", fn := fun _ => fun
  | [d1, d2] => { results := [.lit (.bool true)], args := [d1, d2] }
  | _ => none }
def fnExactLoseDiskRow : OpenClaim := { program := "ytdecehecjlbbiaa", sum := "06d5f64e9461ff8a66070166ea1994468dff3fe2d61d06d61cf29a35aa40f2a1", func := "loop.example/g00284/laws.FnExactLoseDisk", spec := "fnExactLoseDisk", apart := false }
def FnExactLoseDiskSaid : Prop := fnExactLoseDiskRow.holds Try.pinned (OpenSpec.ofChange fnExactLoseDiskSpec)

/-- ITS FALSE NEIGHBOUR: 'it returns false'. Refute it at one input. -/
def fnExactLoseDiskWrong : ChangeSpec := { name := "fnExactLoseDisk", fn := fun _ => fun
  | [d1, d2] => { results := [.lit (.bool false)], args := [d1, d2] }
  | _ => none }
def FnExactLoseDiskWrongFalsely : Prop := fnExactLoseDiskRow.holds Try.pinned (OpenSpec.ofChange fnExactLoseDiskWrong)

/-- 'laws.FnKeeps': WHATEVER THE INPUT: true; the input reads as it did. -/
def fnKeepsSpec : ChangeSpec := { name := "fnKeeps", fn := fun _ => fun
  | [d] => { results := [.lit (.bool true)], args := [d] }
  | _ => none }
def fnKeepsRow : OpenClaim := { program := "ytdecehecjlbbiaa", sum := "06d5f64e9461ff8a66070166ea1994468dff3fe2d61d06d61cf29a35aa40f2a1", func := "loop.example/g00284/laws.FnKeeps", spec := "fnKeeps", apart := false }
def FnKeepsSaid : Prop := fnKeepsRow.holds Try.pinned (OpenSpec.ofChange fnKeepsSpec)

/-- ITS FALSE NEIGHBOUR: 'it returns false'. Refute it at one input. -/
def fnKeepsWrong : ChangeSpec := { name := "fnKeeps", fn := fun _ => fun
  | [d] => { results := [.lit (.bool false)], args := [d] }
  | _ => none }
def FnKeepsWrongFalsely : Prop := fnKeepsRow.holds Try.pinned (OpenSpec.ofChange fnKeepsWrong)

/-- 'laws.FnExactLogActs': WHATEVER THE INPUT: true; the input reads as it did. -/
def fnExactLogActsSpec : ChangeSpec := { name := "fnExactLogActs", fn := fun _ => fun
  | [d1, d2] => { results := [.lit (.bool true)], args := [d1, d2] }
  | _ => none }
def fnExactLogActsRow : OpenClaim := { program := "ytdecehecjlbbiaa", sum := "06d5f64e9461ff8a66070166ea1994468dff3fe2d61d06d61cf29a35aa40f2a1", func := "loop.example/g00284/laws.FnExactLogActs", spec := "fnExactLogActs", apart := false }
def FnExactLogActsSaid : Prop := fnExactLogActsRow.holds Try.pinned (OpenSpec.ofChange fnExactLogActsSpec)

/-- ITS FALSE NEIGHBOUR: 'it returns false'. Refute it at one input. -/
def fnExactLogActsWrong : ChangeSpec := { name := "fnExactLogActs", fn := fun _ => fun
  | [d1, d2] => { results := [.lit (.bool false)], args := [d1, d2] }
  | _ => none }
def FnExactLogActsWrongFalsely : Prop := fnExactLogActsRow.holds Try.pinned (OpenSpec.ofChange fnExactLogActsWrong)

/-- 'laws.FnExactLogTexts': WHATEVER THE INPUT: true; the input reads as it did. -/
def fnExactLogTextsSpec : ChangeSpec := { name := "fnExactLogTexts", fn := fun _ => fun
  | [d1, d2] => { results := [.lit (.bool true)], args := [d1, d2] }
  | _ => none }
def fnExactLogTextsRow : OpenClaim := { program := "ytdecehecjlbbiaa", sum := "06d5f64e9461ff8a66070166ea1994468dff3fe2d61d06d61cf29a35aa40f2a1", func := "loop.example/g00284/laws.FnExactLogTexts", spec := "fnExactLogTexts", apart := false }
def FnExactLogTextsSaid : Prop := fnExactLogTextsRow.holds Try.pinned (OpenSpec.ofChange fnExactLogTextsSpec)

/-- ITS FALSE NEIGHBOUR: 'it returns false'. Refute it at one input. -/
def fnExactLogTextsWrong : ChangeSpec := { name := "fnExactLogTexts", fn := fun _ => fun
  | [d1, d2] => { results := [.lit (.bool false)], args := [d1, d2] }
  | _ => none }
def FnExactLogTextsWrongFalsely : Prop := fnExactLogTextsRow.holds Try.pinned (OpenSpec.ofChange fnExactLogTextsWrong)

/-- 'laws.FnExactAnewActs': WHATEVER THE INPUT: true; the input reads as it did. -/
def fnExactAnewActsSpec : ChangeSpec := { name := "fnExactAnewActs", fn := fun _ => fun
  | [d1, d2, d3] => { results := [.lit (.bool true)], args := [d1, d2, d3] }
  | _ => none }
def fnExactAnewActsRow : OpenClaim := { program := "ytdecehecjlbbiaa", sum := "06d5f64e9461ff8a66070166ea1994468dff3fe2d61d06d61cf29a35aa40f2a1", func := "loop.example/g00284/laws.FnExactAnewActs", spec := "fnExactAnewActs", apart := false }
def FnExactAnewActsSaid : Prop := fnExactAnewActsRow.holds Try.pinned (OpenSpec.ofChange fnExactAnewActsSpec)

/-- ITS FALSE NEIGHBOUR: 'it returns false'. Refute it at one input. -/
def fnExactAnewActsWrong : ChangeSpec := { name := "fnExactAnewActs", fn := fun _ => fun
  | [d1, d2, d3] => { results := [.lit (.bool false)], args := [d1, d2, d3] }
  | _ => none }
def FnExactAnewActsWrongFalsely : Prop := fnExactAnewActsRow.holds Try.pinned (OpenSpec.ofChange fnExactAnewActsWrong)

/-- 'laws.FnExactDoAct': WHATEVER THE INPUT: true; the input reads as it did. -/
def fnExactDoActSpec : ChangeSpec := { name := "fnExactDoAct", fn := fun _ => fun
  | [d1, d2] => { results := [.lit (.bool true)], args := [d1, d2] }
  | _ => none }
def fnExactDoActRow : OpenClaim := { program := "ytdecehecjlbbiaa", sum := "06d5f64e9461ff8a66070166ea1994468dff3fe2d61d06d61cf29a35aa40f2a1", func := "loop.example/g00284/laws.FnExactDoAct", spec := "fnExactDoAct", inPlace := ["internal/reflectlite.ValueOf", "internal/reflectlite.Swapper", "(internal/reflectlite.Value).Len"], unfollowed := true, recurses := true, apart := false }
def FnExactDoActSaid : Prop := fnExactDoActRow.holds Try.pinned (OpenSpec.ofChange fnExactDoActSpec)

/-- ITS FALSE NEIGHBOUR: 'it returns false'. Refute it at one input. -/
def fnExactDoActWrong : ChangeSpec := { name := "fnExactDoAct", fn := fun _ => fun
  | [d1, d2] => { results := [.lit (.bool false)], args := [d1, d2] }
  | _ => none }
def FnExactDoActWrongFalsely : Prop := fnExactDoActRow.holds Try.pinned (OpenSpec.ofChange fnExactDoActWrong)

/-- 'laws.FnExactDoActs': WHATEVER THE INPUT: true; the input reads as it did. -/
def fnExactDoActsSpec : ChangeSpec := { name := "fnExactDoActs", fn := fun _ => fun
  | [d1, d2] => { results := [.lit (.bool true)], args := [d1, d2] }
  | _ => none }
def fnExactDoActsRow : OpenClaim := { program := "ytdecehecjlbbiaa", sum := "06d5f64e9461ff8a66070166ea1994468dff3fe2d61d06d61cf29a35aa40f2a1", func := "loop.example/g00284/laws.FnExactDoActs", spec := "fnExactDoActs", inPlace := ["internal/reflectlite.ValueOf", "internal/reflectlite.Swapper", "(internal/reflectlite.Value).Len"], unfollowed := true, recurses := true, apart := false }
def FnExactDoActsSaid : Prop := fnExactDoActsRow.holds Try.pinned (OpenSpec.ofChange fnExactDoActsSpec)

/-- ITS FALSE NEIGHBOUR: 'it returns false'. Refute it at one input. -/
def fnExactDoActsWrong : ChangeSpec := { name := "fnExactDoActs", fn := fun _ => fun
  | [d1, d2] => { results := [.lit (.bool false)], args := [d1, d2] }
  | _ => none }
def FnExactDoActsWrongFalsely : Prop := fnExactDoActsRow.holds Try.pinned (OpenSpec.ofChange fnExactDoActsWrong)

/-- 'laws.FnExactCutActs': WHATEVER THE INPUT: true; the input reads as it did. -/
def fnExactCutActsSpec : ChangeSpec := { name := "fnExactCutActs", fn := fun _ => fun
  | [d1, d2, d3, d4] => { results := [.lit (.bool true)], args := [d1, d2, d3, d4] }
  | _ => none }
def fnExactCutActsRow : OpenClaim := { program := "ytdecehecjlbbiaa", sum := "06d5f64e9461ff8a66070166ea1994468dff3fe2d61d06d61cf29a35aa40f2a1", func := "loop.example/g00284/laws.FnExactCutActs", spec := "fnExactCutActs", inPlace := ["internal/reflectlite.ValueOf", "internal/reflectlite.Swapper", "(internal/reflectlite.Value).Len"], unfollowed := true, recurses := true, apart := false }
def FnExactCutActsSaid : Prop := fnExactCutActsRow.holds Try.pinned (OpenSpec.ofChange fnExactCutActsSpec)

/-- ITS FALSE NEIGHBOUR: 'it returns false'. Refute it at one input. -/
def fnExactCutActsWrong : ChangeSpec := { name := "fnExactCutActs", fn := fun _ => fun
  | [d1, d2, d3, d4] => { results := [.lit (.bool false)], args := [d1, d2, d3, d4] }
  | _ => none }
def FnExactCutActsWrongFalsely : Prop := fnExactCutActsRow.holds Try.pinned (OpenSpec.ofChange fnExactCutActsWrong)

/-- 'laws.FnActs': WHATEVER THE INPUT: true; the input reads as it did. -/
def fnActsSpec : ChangeSpec := { name := "fnActs", fn := fun _ => fun
  | [d] => { results := [.lit (.bool true)], args := [d] }
  | _ => none }
def fnActsRow : OpenClaim := { program := "ytdecehecjlbbiaa", sum := "06d5f64e9461ff8a66070166ea1994468dff3fe2d61d06d61cf29a35aa40f2a1", func := "loop.example/g00284/laws.FnActs", spec := "fnActs", inPlace := ["internal/reflectlite.ValueOf", "internal/reflectlite.Swapper", "(internal/reflectlite.Value).Len"], unfollowed := true, recurses := true, apart := false }
def FnActsSaid : Prop := fnActsRow.holds Try.pinned (OpenSpec.ofChange fnActsSpec)

/-- ITS FALSE NEIGHBOUR: 'it returns false'. Refute it at one input. -/
def fnActsWrong : ChangeSpec := { name := "fnActs", fn := fun _ => fun
  | [d] => { results := [.lit (.bool false)], args := [d] }
  | _ => none }
def FnActsWrongFalsely : Prop := fnActsRow.holds Try.pinned (OpenSpec.ofChange fnActsWrong)

/- THE SECOND FORM. 'bulk': how many values and letters a reading holds, each counted each time it is reached (what is shared counts as often as it is met; a slice's spare places count too). A statement '..UptoSaid' is the law's where the arguments, and the package variables that the reading takes, are together of bulk at most 1048576: NARROWER than '..Said'. Prove '..Said' where nothing that the law and all that it calls make is longer than what came in: it says more and counts as full. Else prove '..UptoSaid'. A law counts once. -/
mutual
def uptoBulk {H : Type} : DataW H → Nat
  | .lit (.string bytes) => bytes.length + 1
  | .lit _ => 1
  | .nil => 1
  | .ptr d => uptoBulk d + 1
  | .slice elems spare => uptoBulkAll elems + uptoBulkAll spare + 1
  | .agg parts => uptoBulkAll parts + 1
  | .iface _ d => uptoBulk d + 1
  | .map entries => uptoBulkEntries entries + 1
  | .held _ => 1
def uptoBulkAll {H : Type} : List (DataW H) → Nat
  | [] => 0
  | d :: r => uptoBulk d + uptoBulkAll r
def uptoBulkEntries {H : Type} : List (Lit × DataW H) → Nat
  | [] => 0
  | x :: r => uptoBulkEntry x + uptoBulkEntries r
def uptoBulkEntry {H : Type} : Lit × DataW H → Nat
  | (.string bytes, d) => bytes.length + uptoBulk d + 1
  | (_, d) => uptoBulk d + 1
 end
def uptoSmall : (H : Type) → List (DataW H) → Bool := fun _ ds => decide (uptoBulkAll ds ≤ 1048576)
def OpenSpec.upto (s : _root_.Go.ChangeSpec) : _root_.Go.OpenSpec := { _root_.Go.OpenSpec.ofChange s with cond := some uptoSmall }

/-- 'laws.FnExactDiskOk', WHERE WHAT IT READS IS OF BULK AT MOST 1048576: true; the input reads as it did. -/
def fnExactDiskOkUptoRow : OpenClaim := { program := "ytdecehecjlbbiaa", sum := "06d5f64e9461ff8a66070166ea1994468dff3fe2d61d06d61cf29a35aa40f2a1", func := "loop.example/g00284/laws.FnExactDiskOk", spec := "fnExactDiskOk", apart := false, narrowed := true }
def FnExactDiskOkUptoSaid : Prop := fnExactDiskOkUptoRow.holds Try.pinned (OpenSpec.upto fnExactDiskOkSpec)

/-- 'laws.FnExactFileAt', WHERE WHAT IT READS IS OF BULK AT MOST 1048576: true; the input reads as it did. -/
def fnExactFileAtUptoRow : OpenClaim := { program := "ytdecehecjlbbiaa", sum := "06d5f64e9461ff8a66070166ea1994468dff3fe2d61d06d61cf29a35aa40f2a1", func := "loop.example/g00284/laws.FnExactFileAt", spec := "fnExactFileAt", apart := false, narrowed := true }
def FnExactFileAtUptoSaid : Prop := fnExactFileAtUptoRow.holds Try.pinned (OpenSpec.upto fnExactFileAtSpec)

/-- 'laws.FnExactAllKept', WHERE WHAT IT READS IS OF BULK AT MOST 1048576: true; the input reads as it did. -/
def fnExactAllKeptUptoRow : OpenClaim := { program := "ytdecehecjlbbiaa", sum := "06d5f64e9461ff8a66070166ea1994468dff3fe2d61d06d61cf29a35aa40f2a1", func := "loop.example/g00284/laws.FnExactAllKept", spec := "fnExactAllKept", apart := false, narrowed := true }
def FnExactAllKeptUptoSaid : Prop := fnExactAllKeptUptoRow.holds Try.pinned (OpenSpec.upto fnExactAllKeptSpec)

/-- 'laws.FnExactLoseDisk', WHERE WHAT IT READS IS OF BULK AT MOST 1048576: true; the input reads as it did. -/
def fnExactLoseDiskUptoRow : OpenClaim := { program := "ytdecehecjlbbiaa", sum := "06d5f64e9461ff8a66070166ea1994468dff3fe2d61d06d61cf29a35aa40f2a1", func := "loop.example/g00284/laws.FnExactLoseDisk", spec := "fnExactLoseDisk", apart := false, narrowed := true }
def FnExactLoseDiskUptoSaid : Prop := fnExactLoseDiskUptoRow.holds Try.pinned (OpenSpec.upto fnExactLoseDiskSpec)

/-- 'laws.FnKeeps', WHERE WHAT IT READS IS OF BULK AT MOST 1048576: true; the input reads as it did. -/
def fnKeepsUptoRow : OpenClaim := { program := "ytdecehecjlbbiaa", sum := "06d5f64e9461ff8a66070166ea1994468dff3fe2d61d06d61cf29a35aa40f2a1", func := "loop.example/g00284/laws.FnKeeps", spec := "fnKeeps", apart := false, narrowed := true }
def FnKeepsUptoSaid : Prop := fnKeepsUptoRow.holds Try.pinned (OpenSpec.upto fnKeepsSpec)

/-- 'laws.FnExactLogActs', WHERE WHAT IT READS IS OF BULK AT MOST 1048576: true; the input reads as it did. -/
def fnExactLogActsUptoRow : OpenClaim := { program := "ytdecehecjlbbiaa", sum := "06d5f64e9461ff8a66070166ea1994468dff3fe2d61d06d61cf29a35aa40f2a1", func := "loop.example/g00284/laws.FnExactLogActs", spec := "fnExactLogActs", apart := false, narrowed := true }
def FnExactLogActsUptoSaid : Prop := fnExactLogActsUptoRow.holds Try.pinned (OpenSpec.upto fnExactLogActsSpec)

/-- 'laws.FnExactLogTexts', WHERE WHAT IT READS IS OF BULK AT MOST 1048576: true; the input reads as it did. -/
def fnExactLogTextsUptoRow : OpenClaim := { program := "ytdecehecjlbbiaa", sum := "06d5f64e9461ff8a66070166ea1994468dff3fe2d61d06d61cf29a35aa40f2a1", func := "loop.example/g00284/laws.FnExactLogTexts", spec := "fnExactLogTexts", apart := false, narrowed := true }
def FnExactLogTextsUptoSaid : Prop := fnExactLogTextsUptoRow.holds Try.pinned (OpenSpec.upto fnExactLogTextsSpec)

/-- 'laws.FnExactAnewActs', WHERE WHAT IT READS IS OF BULK AT MOST 1048576: true; the input reads as it did. -/
def fnExactAnewActsUptoRow : OpenClaim := { program := "ytdecehecjlbbiaa", sum := "06d5f64e9461ff8a66070166ea1994468dff3fe2d61d06d61cf29a35aa40f2a1", func := "loop.example/g00284/laws.FnExactAnewActs", spec := "fnExactAnewActs", apart := false, narrowed := true }
def FnExactAnewActsUptoSaid : Prop := fnExactAnewActsUptoRow.holds Try.pinned (OpenSpec.upto fnExactAnewActsSpec)

/-- 'laws.FnExactDoAct', WHERE WHAT IT READS IS OF BULK AT MOST 1048576: true; the input reads as it did. -/
def fnExactDoActUptoRow : OpenClaim := { program := "ytdecehecjlbbiaa", sum := "06d5f64e9461ff8a66070166ea1994468dff3fe2d61d06d61cf29a35aa40f2a1", func := "loop.example/g00284/laws.FnExactDoAct", spec := "fnExactDoAct", inPlace := ["internal/reflectlite.ValueOf", "internal/reflectlite.Swapper", "(internal/reflectlite.Value).Len"], unfollowed := true, recurses := true, apart := false, narrowed := true }
def FnExactDoActUptoSaid : Prop := fnExactDoActUptoRow.holds Try.pinned (OpenSpec.upto fnExactDoActSpec)

/-- 'laws.FnExactDoActs', WHERE WHAT IT READS IS OF BULK AT MOST 1048576: true; the input reads as it did. -/
def fnExactDoActsUptoRow : OpenClaim := { program := "ytdecehecjlbbiaa", sum := "06d5f64e9461ff8a66070166ea1994468dff3fe2d61d06d61cf29a35aa40f2a1", func := "loop.example/g00284/laws.FnExactDoActs", spec := "fnExactDoActs", inPlace := ["internal/reflectlite.ValueOf", "internal/reflectlite.Swapper", "(internal/reflectlite.Value).Len"], unfollowed := true, recurses := true, apart := false, narrowed := true }
def FnExactDoActsUptoSaid : Prop := fnExactDoActsUptoRow.holds Try.pinned (OpenSpec.upto fnExactDoActsSpec)

/-- 'laws.FnExactCutActs', WHERE WHAT IT READS IS OF BULK AT MOST 1048576: true; the input reads as it did. -/
def fnExactCutActsUptoRow : OpenClaim := { program := "ytdecehecjlbbiaa", sum := "06d5f64e9461ff8a66070166ea1994468dff3fe2d61d06d61cf29a35aa40f2a1", func := "loop.example/g00284/laws.FnExactCutActs", spec := "fnExactCutActs", inPlace := ["internal/reflectlite.ValueOf", "internal/reflectlite.Swapper", "(internal/reflectlite.Value).Len"], unfollowed := true, recurses := true, apart := false, narrowed := true }
def FnExactCutActsUptoSaid : Prop := fnExactCutActsUptoRow.holds Try.pinned (OpenSpec.upto fnExactCutActsSpec)

/-- 'laws.FnActs', WHERE WHAT IT READS IS OF BULK AT MOST 1048576: true; the input reads as it did. -/
def fnActsUptoRow : OpenClaim := { program := "ytdecehecjlbbiaa", sum := "06d5f64e9461ff8a66070166ea1994468dff3fe2d61d06d61cf29a35aa40f2a1", func := "loop.example/g00284/laws.FnActs", spec := "fnActs", inPlace := ["internal/reflectlite.ValueOf", "internal/reflectlite.Swapper", "(internal/reflectlite.Value).Len"], unfollowed := true, recurses := true, apart := false, narrowed := true }
def FnActsUptoSaid : Prop := fnActsUptoRow.holds Try.pinned (OpenSpec.upto fnActsSpec)

end Rows
end Go.Proofs.Ytdecehecjlbbiaa
