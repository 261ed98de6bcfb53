/-
  No cell of these rows narrows 'for every input' (looked for: loops, veiled, ifaces, maps, wideKeys, modest, calm, conditions, laid).
  DERIVED. THE GIVEN ROWS OF THIS SEAT. 4 by the template 'for every input the law returns true; each argument reads behind the call as it read before'; 0 by the template 'total and deterministic' (their statements: YtnlddjlbioelnaaTotals.lean).
  GIVEN WITH THE SEED: the statements are not yours to turn. If you find one false, say at which input.
  Laid BY PROGRAM, IN A SANDBOX (cutbox-rows.mjs): the forced cells as the released guide's own fill.sh prints them over the translation 8145c121d82e0870… (all of the seat's roots in one cut). By AI agents, Wed Nov 11 2026. No macro, syntax, notation, axiom, sorry.
-/
import Derived.Test.YtnlddjlbioelnaaChecked
import GoSem.Claim
import GoSem.ClaimJoined
import GoSem.ClaimMapViews
import Derived.JoinedTies
import Derived.KernelRfl
namespace Go.Proofs.Ytnlddjlbioelnaa
/- THE CELL 'sum', in the pinned program and in every row, IS THE sha256 OF THE DUMP (.gsa) THAT YtnlddjlbioelnaaProg.lean LOADS. Nothing in Lean hashes anything: it is a label: what it is worth is what the hold of that sum in a sandbox is worth. -/
noncomputable def Try.pinned : Pinned := { name := "ytnlddjlbioelnaa", sum := "8145c121d82e0870585c3ff0035931d51e1dbaa35bf1def0a3f05175505c45e7", checked := Try.checked }
namespace Rows
def none {H : Type} : Left H := { results := [], args := [] }

/-- 'laws.FnTurned': WHATEVER THE INPUT: true; the input reads as it did. -/
def fnTurnedSpec : ChangeSpec := { name := "fnTurned", fn := fun _ => fun
  | [d] => { results := [.lit (.bool true)], args := [d] }
  | _ => none }
def fnTurnedRow : OpenClaim := { program := "ytnlddjlbioelnaa", sum := "8145c121d82e0870585c3ff0035931d51e1dbaa35bf1def0a3f05175505c45e7", func := "loop.example/g00284/laws.FnTurned", spec := "fnTurned", apart := false }
def FnTurnedSaid : Prop := fnTurnedRow.holds Try.pinned (OpenSpec.ofChange fnTurnedSpec)

/-- ITS FALSE NEIGHBOUR: 'it returns false'. Refute it at one input. -/
def fnTurnedWrong : ChangeSpec := { name := "fnTurned", fn := fun _ => fun
  | [d] => { results := [.lit (.bool false)], args := [d] }
  | _ => none }
def FnTurnedWrongFalsely : Prop := fnTurnedRow.holds Try.pinned (OpenSpec.ofChange fnTurnedWrong)

/-- 'laws.FnExactLeafGet': WHATEVER THE INPUT: true; the input reads as it did. -/
def fnExactLeafGetSpec : ChangeSpec := { name := "fnExactLeafGet", fn := fun _ => fun
  | [d1, d2] => { results := [.lit (.bool true)], args := [d1, d2] }
  | _ => none }
def fnExactLeafGetRow : OpenClaim := { program := "ytnlddjlbioelnaa", sum := "8145c121d82e0870585c3ff0035931d51e1dbaa35bf1def0a3f05175505c45e7", func := "loop.example/g00284/laws.FnExactLeafGet", spec := "fnExactLeafGet", apart := false }
def FnExactLeafGetSaid : Prop := fnExactLeafGetRow.holds Try.pinned (OpenSpec.ofChange fnExactLeafGetSpec)

/-- ITS FALSE NEIGHBOUR: 'it returns false'. Refute it at one input. -/
def fnExactLeafGetWrong : ChangeSpec := { name := "fnExactLeafGet", fn := fun _ => fun
  | [d1, d2] => { results := [.lit (.bool false)], args := [d1, d2] }
  | _ => none }
def FnExactLeafGetWrongFalsely : Prop := fnExactLeafGetRow.holds Try.pinned (OpenSpec.ofChange fnExactLeafGetWrong)

/-- 'laws.FnExactSigText': WHATEVER THE INPUT: true; the input reads as it did. -/
def fnExactSigTextSpec : ChangeSpec := { name := "fnExactSigText", fn := fun _ => fun
  | [d] => { results := [.lit (.bool true)], args := [d] }
  | _ => none }
def fnExactSigTextRow : OpenClaim := { program := "ytnlddjlbioelnaa", sum := "8145c121d82e0870585c3ff0035931d51e1dbaa35bf1def0a3f05175505c45e7", func := "loop.example/g00284/laws.FnExactSigText", spec := "fnExactSigText", apart := false }
def FnExactSigTextSaid : Prop := fnExactSigTextRow.holds Try.pinned (OpenSpec.ofChange fnExactSigTextSpec)

/-- ITS FALSE NEIGHBOUR: 'it returns false'. Refute it at one input. -/
def fnExactSigTextWrong : ChangeSpec := { name := "fnExactSigText", fn := fun _ => fun
  | [d] => { results := [.lit (.bool false)], args := [d] }
  | _ => none }
def FnExactSigTextWrongFalsely : Prop := fnExactSigTextRow.holds Try.pinned (OpenSpec.ofChange fnExactSigTextWrong)

/-- 'laws.FnExactReadSig': WHATEVER THE INPUT: true; the input reads as it did. -/
def fnExactReadSigSpec : ChangeSpec := { name := "fnExactReadSig", fn := fun _ => fun
  | [d] => { results := [.lit (.bool true)], args := [d] }
  | _ => none }
def fnExactReadSigRow : OpenClaim := { program := "ytnlddjlbioelnaa", sum := "8145c121d82e0870585c3ff0035931d51e1dbaa35bf1def0a3f05175505c45e7", func := "loop.example/g00284/laws.FnExactReadSig", spec := "fnExactReadSig", apart := false }
def FnExactReadSigSaid : Prop := fnExactReadSigRow.holds Try.pinned (OpenSpec.ofChange fnExactReadSigSpec)

/-- ITS FALSE NEIGHBOUR: 'it returns false'. Refute it at one input. -/
def fnExactReadSigWrong : ChangeSpec := { name := "fnExactReadSig", fn := fun _ => fun
  | [d] => { results := [.lit (.bool false)], args := [d] }
  | _ => none }
def FnExactReadSigWrongFalsely : Prop := fnExactReadSigRow.holds Try.pinned (OpenSpec.ofChange fnExactReadSigWrong)

/- THE SECOND FORM. 'bulk': how many values and letters a reading holds, each counted each time it is reached (what is shared counts as often as it is met; a slice's spare places count too). A statement '..UptoSaid' is the law's where the arguments, and the package variables that the reading takes, are together of bulk at most 1048576: NARROWER than '..Said'. Prove '..Said' where nothing that the law and all that it calls make is longer than what came in: it says more and counts as full. Else prove '..UptoSaid'. A law counts once. -/
mutual
def uptoBulk {H : Type} : DataW H → Nat
  | .lit (.string bytes) => bytes.length + 1
  | .lit _ => 1
  | .nil => 1
  | .ptr d => uptoBulk d + 1
  | .slice elems spare => uptoBulkAll elems + uptoBulkAll spare + 1
  | .agg parts => uptoBulkAll parts + 1
  | .iface _ d => uptoBulk d + 1
  | .map entries => uptoBulkEntries entries + 1
  | .held _ => 1
def uptoBulkAll {H : Type} : List (DataW H) → Nat
  | [] => 0
  | d :: r => uptoBulk d + uptoBulkAll r
def uptoBulkEntries {H : Type} : List (Lit × DataW H) → Nat
  | [] => 0
  | x :: r => uptoBulkEntry x + uptoBulkEntries r
def uptoBulkEntry {H : Type} : Lit × DataW H → Nat
  | (.string bytes, d) => bytes.length + uptoBulk d + 1
  | (_, d) => uptoBulk d + 1
 end
def uptoSmall : (H : Type) → List (DataW H) → Bool := fun _ ds => decide (uptoBulkAll ds ≤ 1048576)
def OpenSpec.upto (s : _root_.Go.ChangeSpec) : _root_.Go.OpenSpec := { _root_.Go.OpenSpec.ofChange s with cond := some uptoSmall }

/-- 'laws.FnTurned', WHERE WHAT IT READS IS OF BULK AT MOST 1048576: true; the input reads as it did. -/
def fnTurnedUptoRow : OpenClaim := { program := "ytnlddjlbioelnaa", sum := "8145c121d82e0870585c3ff0035931d51e1dbaa35bf1def0a3f05175505c45e7", func := "loop.example/g00284/laws.FnTurned", spec := "fnTurned", apart := false, narrowed := true }
def FnTurnedUptoSaid : Prop := fnTurnedUptoRow.holds Try.pinned (OpenSpec.upto fnTurnedSpec)

/-- 'laws.FnExactLeafGet', WHERE WHAT IT READS IS OF BULK AT MOST 1048576: true; the input reads as it did. -/
def fnExactLeafGetUptoRow : OpenClaim := { program := "ytnlddjlbioelnaa", sum := "8145c121d82e0870585c3ff0035931d51e1dbaa35bf1def0a3f05175505c45e7", func := "loop.example/g00284/laws.FnExactLeafGet", spec := "fnExactLeafGet", apart := false, narrowed := true }
def FnExactLeafGetUptoSaid : Prop := fnExactLeafGetUptoRow.holds Try.pinned (OpenSpec.upto fnExactLeafGetSpec)

/-- 'laws.FnExactSigText', WHERE WHAT IT READS IS OF BULK AT MOST 1048576: true; the input reads as it did. -/
def fnExactSigTextUptoRow : OpenClaim := { program := "ytnlddjlbioelnaa", sum := "8145c121d82e0870585c3ff0035931d51e1dbaa35bf1def0a3f05175505c45e7", func := "loop.example/g00284/laws.FnExactSigText", spec := "fnExactSigText", apart := false, narrowed := true }
def FnExactSigTextUptoSaid : Prop := fnExactSigTextUptoRow.holds Try.pinned (OpenSpec.upto fnExactSigTextSpec)

/-- 'laws.FnExactReadSig', WHERE WHAT IT READS IS OF BULK AT MOST 1048576: true; the input reads as it did. -/
def fnExactReadSigUptoRow : OpenClaim := { program := "ytnlddjlbioelnaa", sum := "8145c121d82e0870585c3ff0035931d51e1dbaa35bf1def0a3f05175505c45e7", func := "loop.example/g00284/laws.FnExactReadSig", spec := "fnExactReadSig", apart := false, narrowed := true }
def FnExactReadSigUptoSaid : Prop := fnExactReadSigUptoRow.holds Try.pinned (OpenSpec.upto fnExactReadSigSpec)

end Rows
end Go.Proofs.Ytnlddjlbioelnaa
