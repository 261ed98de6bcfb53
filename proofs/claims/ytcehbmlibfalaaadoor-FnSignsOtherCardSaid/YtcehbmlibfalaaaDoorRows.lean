/-
  NARROWER THAN 'FOR EVERY INPUT', by the rows' own cells (each row's printed sentence says how): FnExactPublicOf: laid · FnExactPoolRoot: laid · FnExactPoolOf: laid · FnTags: laid · FnExactSigOk: laid · FnExactSigTexts: laid · FnExactSignText: laid · FnSignsOther: laid.
  DERIVED. THE GIVEN ROWS OF THIS SEAT. 8 by the template 'for every input the law returns true; each argument reads behind the call as it read before'; 0 by the template 'total and deterministic' (their statements: YtcehbmlibfalaaaDoorTotals.lean).
  GIVEN WITH THE SEED: the statements are not yours to turn. If you find one false, say at which input.
  Laid BY PROGRAM, IN A SANDBOX (cutbox-rows.mjs): the forced cells as the released guide's own fill.sh prints them over the translation 9bed2a63e3e4f762… (all of the seat's roots in one cut). By AI agents, Wed Nov 11 2026. No macro, syntax, notation, axiom, sorry.
-/
import Derived.Test.YtcehbmlibfalaaaDoorChecked
import GoSem.Claim
import GoSem.ClaimJoined
import GoSem.ClaimMapViews
import Derived.JoinedTies
import Derived.KernelRfl
namespace Go.Proofs.YtcehbmlibfalaaaDoor
/- THE CELL 'sum', in the pinned program and in every row, IS THE sha256 OF THE DUMP (.gsa) THAT YtcehbmlibfalaaaDoorProg.lean LOADS. Nothing in Lean hashes anything: it is a label: what it is worth is what the hold of that sum in a sandbox is worth. -/
noncomputable def Tryd.pinned : Pinned := { name := "ytcehbmlibfalaaadoor", sum := "9bed2a63e3e4f7625d871ac9601b6e11e10b7a06bc7a082ee686de6f81d82de2", checked := Tryd.checked }
namespace Rows
def none {H : Type} : Left H := { results := [], args := [] }

/- WHAT THE LISTED PACKAGE-LEVEL VARIABLES READ AS WHEN THE CALL BEGINS. Each datum BY PROGRAM (the guide's laid-datum.mjs) off the statement by which the dump's own 'gosem.cut.vars' lays the variable. In a bare row this is a premise. The card (YtcehbmlibfalaaaDoorCards.lean) ties it to the program's text. -/
def laid_loop_example_g00284_impl_roundWords {H : Type} : DataW H := .agg [.lit (.int .u32 1116352408), .lit (.int .u32 1899447441), .lit (.int .u32 3049323471), .lit (.int .u32 3921009573), .lit (.int .u32 961987163), .lit (.int .u32 1508970993), .lit (.int .u32 2453635748), .lit (.int .u32 2870763221), .lit (.int .u32 3624381080), .lit (.int .u32 310598401), .lit (.int .u32 607225278), .lit (.int .u32 1426881987), .lit (.int .u32 1925078388), .lit (.int .u32 2162078206), .lit (.int .u32 2614888103), .lit (.int .u32 3248222580), .lit (.int .u32 3835390401), .lit (.int .u32 4022224774), .lit (.int .u32 264347078), .lit (.int .u32 604807628), .lit (.int .u32 770255983), .lit (.int .u32 1249150122), .lit (.int .u32 1555081692), .lit (.int .u32 1996064986), .lit (.int .u32 2554220882), .lit (.int .u32 2821834349), .lit (.int .u32 2952996808), .lit (.int .u32 3210313671), .lit (.int .u32 3336571891), .lit (.int .u32 3584528711), .lit (.int .u32 113926993), .lit (.int .u32 338241895), .lit (.int .u32 666307205), .lit (.int .u32 773529912), .lit (.int .u32 1294757372), .lit (.int .u32 1396182291), .lit (.int .u32 1695183700), .lit (.int .u32 1986661051), .lit (.int .u32 2177026350), .lit (.int .u32 2456956037), .lit (.int .u32 2730485921), .lit (.int .u32 2820302411), .lit (.int .u32 3259730800), .lit (.int .u32 3345764771), .lit (.int .u32 3516065817), .lit (.int .u32 3600352804), .lit (.int .u32 4094571909), .lit (.int .u32 275423344), .lit (.int .u32 430227734), .lit (.int .u32 506948616), .lit (.int .u32 659060556), .lit (.int .u32 883997877), .lit (.int .u32 958139571), .lit (.int .u32 1322822218), .lit (.int .u32 1537002063), .lit (.int .u32 1747873779), .lit (.int .u32 1955562222), .lit (.int .u32 2024104815), .lit (.int .u32 2227730452), .lit (.int .u32 2361852424), .lit (.int .u32 2428436474), .lit (.int .u32 2756734187), .lit (.int .u32 3204031479), .lit (.int .u32 3329325298)]
def laid_loop_example_g00284_impl_startWords {H : Type} : DataW H := .agg [.lit (.int .u32 1779033703), .lit (.int .u32 3144134277), .lit (.int .u32 1013904242), .lit (.int .u32 2773480762), .lit (.int .u32 1359893119), .lit (.int .u32 2600822924), .lit (.int .u32 528734635), .lit (.int .u32 1541459225)]

/-- 'laws.FnExactPublicOf': WHATEVER THE INPUT: true; the input reads as it did. -/
def fnExactPublicOfSpec : ChangeSpec := { name := "fnExactPublicOf", vars := ["loop.example/g00284/impl.startWords", "loop.example/g00284/impl.roundWords"], fn := fun _ => fun
  | [d1, d2, g1, g2] => { results := [.lit (.bool true)], args := [d1, d2], vars := [g1, g2] }
  | _ => none }
def fnExactPublicOfRow : OpenClaim := { program := "ytcehbmlibfalaaadoor", sum := "9bed2a63e3e4f7625d871ac9601b6e11e10b7a06bc7a082ee686de6f81d82de2", func := "loop.example/g00284/laws.FnExactPublicOf", spec := "fnExactPublicOf", unfollowed := true, recurses := true, named := ["loop.example/g00284/impl.startWords", "loop.example/g00284/impl.roundWords"], apart := false, laid := [("loop.example/g00284/impl.roundWords", laid_loop_example_g00284_impl_roundWords), ("loop.example/g00284/impl.startWords", laid_loop_example_g00284_impl_startWords)] }
def FnExactPublicOfSaid : Prop := fnExactPublicOfRow.holds Tryd.pinned (OpenSpec.ofChange fnExactPublicOfSpec)

/-- ITS FALSE NEIGHBOUR: 'it returns false'. Refute it at one input. -/
def fnExactPublicOfWrong : ChangeSpec := { name := "fnExactPublicOf", vars := ["loop.example/g00284/impl.startWords", "loop.example/g00284/impl.roundWords"], fn := fun _ => fun
  | [d1, d2, g1, g2] => { results := [.lit (.bool false)], args := [d1, d2], vars := [g1, g2] }
  | _ => none }
def FnExactPublicOfWrongFalsely : Prop := fnExactPublicOfRow.holds Tryd.pinned (OpenSpec.ofChange fnExactPublicOfWrong)

/-- 'laws.FnExactPoolRoot': WHATEVER THE INPUT: true; the input reads as it did. -/
def fnExactPoolRootSpec : ChangeSpec := { name := "fnExactPoolRoot", vars := ["loop.example/g00284/impl.startWords", "loop.example/g00284/impl.roundWords"], fn := fun _ => fun
  | [d, g1, g2] => { results := [.lit (.bool true)], args := [d], vars := [g1, g2] }
  | _ => none }
def fnExactPoolRootRow : OpenClaim := { program := "ytcehbmlibfalaaadoor", sum := "9bed2a63e3e4f7625d871ac9601b6e11e10b7a06bc7a082ee686de6f81d82de2", func := "loop.example/g00284/laws.FnExactPoolRoot", spec := "fnExactPoolRoot", unfollowed := true, recurses := true, named := ["loop.example/g00284/impl.startWords", "loop.example/g00284/impl.roundWords"], apart := false, laid := [("loop.example/g00284/impl.roundWords", laid_loop_example_g00284_impl_roundWords), ("loop.example/g00284/impl.startWords", laid_loop_example_g00284_impl_startWords)] }
def FnExactPoolRootSaid : Prop := fnExactPoolRootRow.holds Tryd.pinned (OpenSpec.ofChange fnExactPoolRootSpec)

/-- ITS FALSE NEIGHBOUR: 'it returns false'. Refute it at one input. -/
def fnExactPoolRootWrong : ChangeSpec := { name := "fnExactPoolRoot", vars := ["loop.example/g00284/impl.startWords", "loop.example/g00284/impl.roundWords"], fn := fun _ => fun
  | [d, g1, g2] => { results := [.lit (.bool false)], args := [d], vars := [g1, g2] }
  | _ => none }
def FnExactPoolRootWrongFalsely : Prop := fnExactPoolRootRow.holds Tryd.pinned (OpenSpec.ofChange fnExactPoolRootWrong)

/-- 'laws.FnExactPoolOf': WHATEVER THE INPUT: true; the input reads as it did. -/
def fnExactPoolOfSpec : ChangeSpec := { name := "fnExactPoolOf", vars := ["loop.example/g00284/impl.startWords", "loop.example/g00284/impl.roundWords"], fn := fun _ => fun
  | [d, g1, g2] => { results := [.lit (.bool true)], args := [d], vars := [g1, g2] }
  | _ => none }
def fnExactPoolOfRow : OpenClaim := { program := "ytcehbmlibfalaaadoor", sum := "9bed2a63e3e4f7625d871ac9601b6e11e10b7a06bc7a082ee686de6f81d82de2", func := "loop.example/g00284/laws.FnExactPoolOf", spec := "fnExactPoolOf", unfollowed := true, recurses := true, named := ["loop.example/g00284/impl.startWords", "loop.example/g00284/impl.roundWords"], apart := false, laid := [("loop.example/g00284/impl.roundWords", laid_loop_example_g00284_impl_roundWords), ("loop.example/g00284/impl.startWords", laid_loop_example_g00284_impl_startWords)] }
def FnExactPoolOfSaid : Prop := fnExactPoolOfRow.holds Tryd.pinned (OpenSpec.ofChange fnExactPoolOfSpec)

/-- ITS FALSE NEIGHBOUR: 'it returns false'. Refute it at one input. -/
def fnExactPoolOfWrong : ChangeSpec := { name := "fnExactPoolOf", vars := ["loop.example/g00284/impl.startWords", "loop.example/g00284/impl.roundWords"], fn := fun _ => fun
  | [d, g1, g2] => { results := [.lit (.bool false)], args := [d], vars := [g1, g2] }
  | _ => none }
def FnExactPoolOfWrongFalsely : Prop := fnExactPoolOfRow.holds Tryd.pinned (OpenSpec.ofChange fnExactPoolOfWrong)

/-- 'laws.FnTags': WHATEVER THE INPUT: true; the input reads as it did. -/
def fnTagsSpec : ChangeSpec := { name := "fnTags", vars := ["loop.example/g00284/impl.startWords", "loop.example/g00284/impl.roundWords"], fn := fun _ => fun
  | [d, g1, g2] => { results := [.lit (.bool true)], args := [d], vars := [g1, g2] }
  | _ => none }
def fnTagsRow : OpenClaim := { program := "ytcehbmlibfalaaadoor", sum := "9bed2a63e3e4f7625d871ac9601b6e11e10b7a06bc7a082ee686de6f81d82de2", func := "loop.example/g00284/laws.FnTags", spec := "fnTags", unfollowed := true, recurses := true, named := ["loop.example/g00284/impl.startWords", "loop.example/g00284/impl.roundWords"], apart := false, laid := [("loop.example/g00284/impl.roundWords", laid_loop_example_g00284_impl_roundWords), ("loop.example/g00284/impl.startWords", laid_loop_example_g00284_impl_startWords)] }
def FnTagsSaid : Prop := fnTagsRow.holds Tryd.pinned (OpenSpec.ofChange fnTagsSpec)

/-- ITS FALSE NEIGHBOUR: 'it returns false'. Refute it at one input. -/
def fnTagsWrong : ChangeSpec := { name := "fnTags", vars := ["loop.example/g00284/impl.startWords", "loop.example/g00284/impl.roundWords"], fn := fun _ => fun
  | [d, g1, g2] => { results := [.lit (.bool false)], args := [d], vars := [g1, g2] }
  | _ => none }
def FnTagsWrongFalsely : Prop := fnTagsRow.holds Tryd.pinned (OpenSpec.ofChange fnTagsWrong)

/-- 'laws.FnExactSigOk': WHATEVER THE INPUT: true; the input reads as it did. -/
def fnExactSigOkSpec : ChangeSpec := { name := "fnExactSigOk", vars := ["loop.example/g00284/impl.startWords", "loop.example/g00284/impl.roundWords"], fn := fun _ => fun
  | [d1, d2, d3, g1, g2] => { results := [.lit (.bool true)], args := [d1, d2, d3], vars := [g1, g2] }
  | _ => none }
def fnExactSigOkRow : OpenClaim := { program := "ytcehbmlibfalaaadoor", sum := "9bed2a63e3e4f7625d871ac9601b6e11e10b7a06bc7a082ee686de6f81d82de2", func := "loop.example/g00284/laws.FnExactSigOk", spec := "fnExactSigOk", unfollowed := true, recurses := true, named := ["loop.example/g00284/impl.startWords", "loop.example/g00284/impl.roundWords"], apart := false, laid := [("loop.example/g00284/impl.roundWords", laid_loop_example_g00284_impl_roundWords), ("loop.example/g00284/impl.startWords", laid_loop_example_g00284_impl_startWords)] }
def FnExactSigOkSaid : Prop := fnExactSigOkRow.holds Tryd.pinned (OpenSpec.ofChange fnExactSigOkSpec)

/-- ITS FALSE NEIGHBOUR: 'it returns false'. Refute it at one input. -/
def fnExactSigOkWrong : ChangeSpec := { name := "fnExactSigOk", vars := ["loop.example/g00284/impl.startWords", "loop.example/g00284/impl.roundWords"], fn := fun _ => fun
  | [d1, d2, d3, g1, g2] => { results := [.lit (.bool false)], args := [d1, d2, d3], vars := [g1, g2] }
  | _ => none }
def FnExactSigOkWrongFalsely : Prop := fnExactSigOkRow.holds Tryd.pinned (OpenSpec.ofChange fnExactSigOkWrong)

/-- 'laws.FnExactSigTexts': WHATEVER THE INPUT: true; the input reads as it did. -/
def fnExactSigTextsSpec : ChangeSpec := { name := "fnExactSigTexts", vars := ["loop.example/g00284/impl.startWords", "loop.example/g00284/impl.roundWords"], fn := fun _ => fun
  | [d1, d2, g1, g2] => { results := [.lit (.bool true)], args := [d1, d2], vars := [g1, g2] }
  | _ => none }
def fnExactSigTextsRow : OpenClaim := { program := "ytcehbmlibfalaaadoor", sum := "9bed2a63e3e4f7625d871ac9601b6e11e10b7a06bc7a082ee686de6f81d82de2", func := "loop.example/g00284/laws.FnExactSigTexts", spec := "fnExactSigTexts", unfollowed := true, recurses := true, named := ["loop.example/g00284/impl.startWords", "loop.example/g00284/impl.roundWords"], apart := false, laid := [("loop.example/g00284/impl.roundWords", laid_loop_example_g00284_impl_roundWords), ("loop.example/g00284/impl.startWords", laid_loop_example_g00284_impl_startWords)] }
def FnExactSigTextsSaid : Prop := fnExactSigTextsRow.holds Tryd.pinned (OpenSpec.ofChange fnExactSigTextsSpec)

/-- ITS FALSE NEIGHBOUR: 'it returns false'. Refute it at one input. -/
def fnExactSigTextsWrong : ChangeSpec := { name := "fnExactSigTexts", vars := ["loop.example/g00284/impl.startWords", "loop.example/g00284/impl.roundWords"], fn := fun _ => fun
  | [d1, d2, g1, g2] => { results := [.lit (.bool false)], args := [d1, d2], vars := [g1, g2] }
  | _ => none }
def FnExactSigTextsWrongFalsely : Prop := fnExactSigTextsRow.holds Tryd.pinned (OpenSpec.ofChange fnExactSigTextsWrong)

/-- 'laws.FnExactSignText': WHATEVER THE INPUT: true; the input reads as it did. -/
def fnExactSignTextSpec : ChangeSpec := { name := "fnExactSignText", vars := ["loop.example/g00284/impl.startWords", "loop.example/g00284/impl.roundWords"], fn := fun _ => fun
  | [d1, d2, d3, d4, g1, g2] => { results := [.lit (.bool true)], args := [d1, d2, d3, d4], vars := [g1, g2] }
  | _ => none }
def fnExactSignTextRow : OpenClaim := { program := "ytcehbmlibfalaaadoor", sum := "9bed2a63e3e4f7625d871ac9601b6e11e10b7a06bc7a082ee686de6f81d82de2", func := "loop.example/g00284/laws.FnExactSignText", spec := "fnExactSignText", unfollowed := true, recurses := true, named := ["loop.example/g00284/impl.startWords", "loop.example/g00284/impl.roundWords"], apart := false, laid := [("loop.example/g00284/impl.roundWords", laid_loop_example_g00284_impl_roundWords), ("loop.example/g00284/impl.startWords", laid_loop_example_g00284_impl_startWords)] }
def FnExactSignTextSaid : Prop := fnExactSignTextRow.holds Tryd.pinned (OpenSpec.ofChange fnExactSignTextSpec)

/-- ITS FALSE NEIGHBOUR: 'it returns false'. Refute it at one input. -/
def fnExactSignTextWrong : ChangeSpec := { name := "fnExactSignText", vars := ["loop.example/g00284/impl.startWords", "loop.example/g00284/impl.roundWords"], fn := fun _ => fun
  | [d1, d2, d3, d4, g1, g2] => { results := [.lit (.bool false)], args := [d1, d2, d3, d4], vars := [g1, g2] }
  | _ => none }
def FnExactSignTextWrongFalsely : Prop := fnExactSignTextRow.holds Tryd.pinned (OpenSpec.ofChange fnExactSignTextWrong)

/-- 'laws.FnSignsOther': WHATEVER THE INPUT: true; the input reads as it did. -/
def fnSignsOtherSpec : ChangeSpec := { name := "fnSignsOther", vars := ["loop.example/g00284/impl.startWords", "loop.example/g00284/impl.roundWords"], fn := fun _ => fun
  | [d, g1, g2] => { results := [.lit (.bool true)], args := [d], vars := [g1, g2] }
  | _ => none }
def fnSignsOtherRow : OpenClaim := { program := "ytcehbmlibfalaaadoor", sum := "9bed2a63e3e4f7625d871ac9601b6e11e10b7a06bc7a082ee686de6f81d82de2", func := "loop.example/g00284/laws.FnSignsOther", spec := "fnSignsOther", unfollowed := true, recurses := true, named := ["loop.example/g00284/impl.startWords", "loop.example/g00284/impl.roundWords"], apart := false, laid := [("loop.example/g00284/impl.roundWords", laid_loop_example_g00284_impl_roundWords), ("loop.example/g00284/impl.startWords", laid_loop_example_g00284_impl_startWords)] }
def FnSignsOtherSaid : Prop := fnSignsOtherRow.holds Tryd.pinned (OpenSpec.ofChange fnSignsOtherSpec)

/-- ITS FALSE NEIGHBOUR: 'it returns false'. Refute it at one input. -/
def fnSignsOtherWrong : ChangeSpec := { name := "fnSignsOther", vars := ["loop.example/g00284/impl.startWords", "loop.example/g00284/impl.roundWords"], fn := fun _ => fun
  | [d, g1, g2] => { results := [.lit (.bool false)], args := [d], vars := [g1, g2] }
  | _ => none }
def FnSignsOtherWrongFalsely : Prop := fnSignsOtherRow.holds Tryd.pinned (OpenSpec.ofChange fnSignsOtherWrong)

/- THE SECOND FORM. 'bulk': how many values and letters a reading holds, each counted each time it is reached (what is shared counts as often as it is met; a slice's spare places count too). A statement '..UptoSaid' is the law's where the arguments, and the package variables that the reading takes, are together of bulk at most 1048576: NARROWER than '..Said'. Prove '..Said' where nothing that the law and all that it calls make is longer than what came in: it says more and counts as full. Else prove '..UptoSaid'. A law counts once. -/
mutual
def uptoBulk {H : Type} : DataW H → Nat
  | .lit (.string bytes) => bytes.length + 1
  | .lit _ => 1
  | .nil => 1
  | .ptr d => uptoBulk d + 1
  | .slice elems spare => uptoBulkAll elems + uptoBulkAll spare + 1
  | .agg parts => uptoBulkAll parts + 1
  | .iface _ d => uptoBulk d + 1
  | .map entries => uptoBulkEntries entries + 1
  | .held _ => 1
def uptoBulkAll {H : Type} : List (DataW H) → Nat
  | [] => 0
  | d :: r => uptoBulk d + uptoBulkAll r
def uptoBulkEntries {H : Type} : List (Lit × DataW H) → Nat
  | [] => 0
  | x :: r => uptoBulkEntry x + uptoBulkEntries r
def uptoBulkEntry {H : Type} : Lit × DataW H → Nat
  | (.string bytes, d) => bytes.length + uptoBulk d + 1
  | (_, d) => uptoBulk d + 1
 end
def uptoSmall : (H : Type) → List (DataW H) → Bool := fun _ ds => decide (uptoBulkAll ds ≤ 1048576)
def OpenSpec.upto (s : _root_.Go.ChangeSpec) : _root_.Go.OpenSpec := { _root_.Go.OpenSpec.ofChange s with cond := some uptoSmall }

/-- 'laws.FnExactPublicOf', WHERE WHAT IT READS IS OF BULK AT MOST 1048576: true; the input reads as it did. -/
def fnExactPublicOfUptoRow : OpenClaim := { program := "ytcehbmlibfalaaadoor", sum := "9bed2a63e3e4f7625d871ac9601b6e11e10b7a06bc7a082ee686de6f81d82de2", func := "loop.example/g00284/laws.FnExactPublicOf", spec := "fnExactPublicOf", unfollowed := true, recurses := true, named := ["loop.example/g00284/impl.startWords", "loop.example/g00284/impl.roundWords"], apart := false, laid := [("loop.example/g00284/impl.roundWords", laid_loop_example_g00284_impl_roundWords), ("loop.example/g00284/impl.startWords", laid_loop_example_g00284_impl_startWords)], narrowed := true }
def FnExactPublicOfUptoSaid : Prop := fnExactPublicOfUptoRow.holds Tryd.pinned (OpenSpec.upto fnExactPublicOfSpec)

/-- 'laws.FnExactPoolRoot', WHERE WHAT IT READS IS OF BULK AT MOST 1048576: true; the input reads as it did. -/
def fnExactPoolRootUptoRow : OpenClaim := { program := "ytcehbmlibfalaaadoor", sum := "9bed2a63e3e4f7625d871ac9601b6e11e10b7a06bc7a082ee686de6f81d82de2", func := "loop.example/g00284/laws.FnExactPoolRoot", spec := "fnExactPoolRoot", unfollowed := true, recurses := true, named := ["loop.example/g00284/impl.startWords", "loop.example/g00284/impl.roundWords"], apart := false, laid := [("loop.example/g00284/impl.roundWords", laid_loop_example_g00284_impl_roundWords), ("loop.example/g00284/impl.startWords", laid_loop_example_g00284_impl_startWords)], narrowed := true }
def FnExactPoolRootUptoSaid : Prop := fnExactPoolRootUptoRow.holds Tryd.pinned (OpenSpec.upto fnExactPoolRootSpec)

/-- 'laws.FnExactPoolOf', WHERE WHAT IT READS IS OF BULK AT MOST 1048576: true; the input reads as it did. -/
def fnExactPoolOfUptoRow : OpenClaim := { program := "ytcehbmlibfalaaadoor", sum := "9bed2a63e3e4f7625d871ac9601b6e11e10b7a06bc7a082ee686de6f81d82de2", func := "loop.example/g00284/laws.FnExactPoolOf", spec := "fnExactPoolOf", unfollowed := true, recurses := true, named := ["loop.example/g00284/impl.startWords", "loop.example/g00284/impl.roundWords"], apart := false, laid := [("loop.example/g00284/impl.roundWords", laid_loop_example_g00284_impl_roundWords), ("loop.example/g00284/impl.startWords", laid_loop_example_g00284_impl_startWords)], narrowed := true }
def FnExactPoolOfUptoSaid : Prop := fnExactPoolOfUptoRow.holds Tryd.pinned (OpenSpec.upto fnExactPoolOfSpec)

/-- 'laws.FnTags', WHERE WHAT IT READS IS OF BULK AT MOST 1048576: true; the input reads as it did. -/
def fnTagsUptoRow : OpenClaim := { program := "ytcehbmlibfalaaadoor", sum := "9bed2a63e3e4f7625d871ac9601b6e11e10b7a06bc7a082ee686de6f81d82de2", func := "loop.example/g00284/laws.FnTags", spec := "fnTags", unfollowed := true, recurses := true, named := ["loop.example/g00284/impl.startWords", "loop.example/g00284/impl.roundWords"], apart := false, laid := [("loop.example/g00284/impl.roundWords", laid_loop_example_g00284_impl_roundWords), ("loop.example/g00284/impl.startWords", laid_loop_example_g00284_impl_startWords)], narrowed := true }
def FnTagsUptoSaid : Prop := fnTagsUptoRow.holds Tryd.pinned (OpenSpec.upto fnTagsSpec)

/-- 'laws.FnExactSigOk', WHERE WHAT IT READS IS OF BULK AT MOST 1048576: true; the input reads as it did. -/
def fnExactSigOkUptoRow : OpenClaim := { program := "ytcehbmlibfalaaadoor", sum := "9bed2a63e3e4f7625d871ac9601b6e11e10b7a06bc7a082ee686de6f81d82de2", func := "loop.example/g00284/laws.FnExactSigOk", spec := "fnExactSigOk", unfollowed := true, recurses := true, named := ["loop.example/g00284/impl.startWords", "loop.example/g00284/impl.roundWords"], apart := false, laid := [("loop.example/g00284/impl.roundWords", laid_loop_example_g00284_impl_roundWords), ("loop.example/g00284/impl.startWords", laid_loop_example_g00284_impl_startWords)], narrowed := true }
def FnExactSigOkUptoSaid : Prop := fnExactSigOkUptoRow.holds Tryd.pinned (OpenSpec.upto fnExactSigOkSpec)

/-- 'laws.FnExactSigTexts', WHERE WHAT IT READS IS OF BULK AT MOST 1048576: true; the input reads as it did. -/
def fnExactSigTextsUptoRow : OpenClaim := { program := "ytcehbmlibfalaaadoor", sum := "9bed2a63e3e4f7625d871ac9601b6e11e10b7a06bc7a082ee686de6f81d82de2", func := "loop.example/g00284/laws.FnExactSigTexts", spec := "fnExactSigTexts", unfollowed := true, recurses := true, named := ["loop.example/g00284/impl.startWords", "loop.example/g00284/impl.roundWords"], apart := false, laid := [("loop.example/g00284/impl.roundWords", laid_loop_example_g00284_impl_roundWords), ("loop.example/g00284/impl.startWords", laid_loop_example_g00284_impl_startWords)], narrowed := true }
def FnExactSigTextsUptoSaid : Prop := fnExactSigTextsUptoRow.holds Tryd.pinned (OpenSpec.upto fnExactSigTextsSpec)

/-- 'laws.FnExactSignText', WHERE WHAT IT READS IS OF BULK AT MOST 1048576: true; the input reads as it did. -/
def fnExactSignTextUptoRow : OpenClaim := { program := "ytcehbmlibfalaaadoor", sum := "9bed2a63e3e4f7625d871ac9601b6e11e10b7a06bc7a082ee686de6f81d82de2", func := "loop.example/g00284/laws.FnExactSignText", spec := "fnExactSignText", unfollowed := true, recurses := true, named := ["loop.example/g00284/impl.startWords", "loop.example/g00284/impl.roundWords"], apart := false, laid := [("loop.example/g00284/impl.roundWords", laid_loop_example_g00284_impl_roundWords), ("loop.example/g00284/impl.startWords", laid_loop_example_g00284_impl_startWords)], narrowed := true }
def FnExactSignTextUptoSaid : Prop := fnExactSignTextUptoRow.holds Tryd.pinned (OpenSpec.upto fnExactSignTextSpec)

/-- 'laws.FnSignsOther', WHERE WHAT IT READS IS OF BULK AT MOST 1048576: true; the input reads as it did. -/
def fnSignsOtherUptoRow : OpenClaim := { program := "ytcehbmlibfalaaadoor", sum := "9bed2a63e3e4f7625d871ac9601b6e11e10b7a06bc7a082ee686de6f81d82de2", func := "loop.example/g00284/laws.FnSignsOther", spec := "fnSignsOther", unfollowed := true, recurses := true, named := ["loop.example/g00284/impl.startWords", "loop.example/g00284/impl.roundWords"], apart := false, laid := [("loop.example/g00284/impl.roundWords", laid_loop_example_g00284_impl_roundWords), ("loop.example/g00284/impl.startWords", laid_loop_example_g00284_impl_startWords)], narrowed := true }
def FnSignsOtherUptoSaid : Prop := fnSignsOtherUptoRow.holds Tryd.pinned (OpenSpec.upto fnSignsOtherSpec)

end Rows
end Go.Proofs.YtcehbmlibfalaaaDoor
