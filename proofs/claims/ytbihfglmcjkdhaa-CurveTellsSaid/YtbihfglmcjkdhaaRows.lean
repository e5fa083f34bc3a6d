/-
  No cell of these rows narrows 'for every input' (looked for: loops, veiled, ifaces, maps, wideKeys, modest, calm, conditions, laid).
  DERIVED. THE GIVEN ROWS OF THIS SEAT. 7 by the template 'for every input the law returns true; each argument reads behind the call as it read before'; 0 by the template 'total and deterministic' (their statements: YtbihfglmcjkdhaaTotals.lean).
  GIVEN WITH THE SEED: the statements are not yours to turn. If you find one false, say at which input.
  Laid BY PROGRAM, IN A SANDBOX (cutbox-rows.mjs): the forced cells as the released guide's own fill.sh prints them over the translation 44ab79cbde088541… (all of the seat's roots in one cut). By AI agents, Wed Nov 11 2026. No macro, syntax, notation, axiom, sorry.
-/
import Derived.Test.YtbihfglmcjkdhaaChecked
import GoSem.Claim
import GoSem.ClaimJoined
import GoSem.ClaimMapViews
import Derived.JoinedTies
import Derived.KernelRfl
namespace Go.Proofs.Ytbihfglmcjkdhaa
/- THE CELL 'sum', in the pinned program and in every row, IS THE sha256 OF THE DUMP (.gsa) THAT YtbihfglmcjkdhaaProg.lean LOADS. Nothing in Lean hashes anything: it is a label: what it is worth is what the hold of that sum in a sandbox is worth. -/
noncomputable def Try.pinned : Pinned := { name := "ytbihfglmcjkdhaa", sum := "44ab79cbde088541956d11d4d970f991ce08e17865d7e4841384c52350c90321", checked := Try.checked }
namespace Rows
def none {H : Type} : Left H := { results := [], args := [] }

/-- 'nacellelaw02.CurveConcave': WHATEVER THE INPUT: true; the input reads as it did. -/
def curveConcaveSpec : ChangeSpec := { name := "curveConcave", fn := fun _ => fun
  | [d1, d2, d3] => { results := [.lit (.bool true)], args := [d1, d2, d3] }
  | _ => none }
def curveConcaveRow : OpenClaim := { program := "ytbihfglmcjkdhaa", sum := "44ab79cbde088541956d11d4d970f991ce08e17865d7e4841384c52350c90321", func := "nacelle/nacellelaw02.CurveConcave", spec := "curveConcave", unfollowed := true, recurses := true, apart := false }
def CurveConcaveSaid : Prop := curveConcaveRow.holds Try.pinned (OpenSpec.ofChange curveConcaveSpec)

/-- ITS FALSE NEIGHBOUR: 'it returns false'. Refute it at one input. -/
def curveConcaveWrong : ChangeSpec := { name := "curveConcave", fn := fun _ => fun
  | [d1, d2, d3] => { results := [.lit (.bool false)], args := [d1, d2, d3] }
  | _ => none }
def CurveConcaveWrongFalsely : Prop := curveConcaveRow.holds Try.pinned (OpenSpec.ofChange curveConcaveWrong)

/-- 'nacellelaw02.CurveNorm': WHATEVER THE INPUT: true; the input reads as it did. -/
def curveNormSpec : ChangeSpec := { name := "curveNorm", fn := fun _ => fun
  | [d] => { results := [.lit (.bool true)], args := [d] }
  | _ => none }
def curveNormRow : OpenClaim := { program := "ytbihfglmcjkdhaa", sum := "44ab79cbde088541956d11d4d970f991ce08e17865d7e4841384c52350c90321", func := "nacelle/nacellelaw02.CurveNorm", spec := "curveNorm", unfollowed := true, recurses := true, apart := false }
def CurveNormSaid : Prop := curveNormRow.holds Try.pinned (OpenSpec.ofChange curveNormSpec)

/-- ITS FALSE NEIGHBOUR: 'it returns false'. Refute it at one input. -/
def curveNormWrong : ChangeSpec := { name := "curveNorm", fn := fun _ => fun
  | [d] => { results := [.lit (.bool false)], args := [d] }
  | _ => none }
def CurveNormWrongFalsely : Prop := curveNormRow.holds Try.pinned (OpenSpec.ofChange curveNormWrong)

/-- 'nacellelaw02.CurveBreaks': WHATEVER THE INPUT: true; the input reads as it did. -/
def curveBreaksSpec : ChangeSpec := { name := "curveBreaks", fn := fun _ => fun
  | [d1, d2, d3] => { results := [.lit (.bool true)], args := [d1, d2, d3] }
  | _ => none }
def curveBreaksRow : OpenClaim := { program := "ytbihfglmcjkdhaa", sum := "44ab79cbde088541956d11d4d970f991ce08e17865d7e4841384c52350c90321", func := "nacelle/nacellelaw02.CurveBreaks", spec := "curveBreaks", unfollowed := true, recurses := true, apart := false }
def CurveBreaksSaid : Prop := curveBreaksRow.holds Try.pinned (OpenSpec.ofChange curveBreaksSpec)

/-- ITS FALSE NEIGHBOUR: 'it returns false'. Refute it at one input. -/
def curveBreaksWrong : ChangeSpec := { name := "curveBreaks", fn := fun _ => fun
  | [d1, d2, d3] => { results := [.lit (.bool false)], args := [d1, d2, d3] }
  | _ => none }
def CurveBreaksWrongFalsely : Prop := curveBreaksRow.holds Try.pinned (OpenSpec.ofChange curveBreaksWrong)

/-- 'nacellelaw02.CurveTells': WHATEVER THE INPUT: true; the input reads as it did. -/
def curveTellsSpec : ChangeSpec := { name := "curveTells", fn := fun _ => fun
  | [d1, d2, d3] => { results := [.lit (.bool true)], args := [d1, d2, d3] }
  | _ => none }
def curveTellsRow : OpenClaim := { program := "ytbihfglmcjkdhaa", sum := "44ab79cbde088541956d11d4d970f991ce08e17865d7e4841384c52350c90321", func := "nacelle/nacellelaw02.CurveTells", spec := "curveTells", unfollowed := true, recurses := true, apart := false }
def CurveTellsSaid : Prop := curveTellsRow.holds Try.pinned (OpenSpec.ofChange curveTellsSpec)

/-- ITS FALSE NEIGHBOUR: 'it returns false'. Refute it at one input. -/
def curveTellsWrong : ChangeSpec := { name := "curveTells", fn := fun _ => fun
  | [d1, d2, d3] => { results := [.lit (.bool false)], args := [d1, d2, d3] }
  | _ => none }
def CurveTellsWrongFalsely : Prop := curveTellsRow.holds Try.pinned (OpenSpec.ofChange curveTellsWrong)

/-- 'nacellelaw02.CurveSum': WHATEVER THE INPUT: true; the input reads as it did. -/
def curveSumSpec : ChangeSpec := { name := "curveSum", fn := fun _ => fun
  | [d1, d2, d3, d4] => { results := [.lit (.bool true)], args := [d1, d2, d3, d4] }
  | _ => none }
def curveSumRow : OpenClaim := { program := "ytbihfglmcjkdhaa", sum := "44ab79cbde088541956d11d4d970f991ce08e17865d7e4841384c52350c90321", func := "nacelle/nacellelaw02.CurveSum", spec := "curveSum", unfollowed := true, recurses := true, apart := false }
def CurveSumSaid : Prop := curveSumRow.holds Try.pinned (OpenSpec.ofChange curveSumSpec)

/-- ITS FALSE NEIGHBOUR: 'it returns false'. Refute it at one input. -/
def curveSumWrong : ChangeSpec := { name := "curveSum", fn := fun _ => fun
  | [d1, d2, d3, d4] => { results := [.lit (.bool false)], args := [d1, d2, d3, d4] }
  | _ => none }
def CurveSumWrongFalsely : Prop := curveSumRow.holds Try.pinned (OpenSpec.ofChange curveSumWrong)

/-- 'nacellelaw02.CurveAlgebra': WHATEVER THE INPUT: true; the input reads as it did. -/
def curveAlgebraSpec : ChangeSpec := { name := "curveAlgebra", fn := fun _ => fun
  | [d1, d2, d3, d4] => { results := [.lit (.bool true)], args := [d1, d2, d3, d4] }
  | _ => none }
def curveAlgebraRow : OpenClaim := { program := "ytbihfglmcjkdhaa", sum := "44ab79cbde088541956d11d4d970f991ce08e17865d7e4841384c52350c90321", func := "nacelle/nacellelaw02.CurveAlgebra", spec := "curveAlgebra", unfollowed := true, recurses := true, apart := false }
def CurveAlgebraSaid : Prop := curveAlgebraRow.holds Try.pinned (OpenSpec.ofChange curveAlgebraSpec)

/-- ITS FALSE NEIGHBOUR: 'it returns false'. Refute it at one input. -/
def curveAlgebraWrong : ChangeSpec := { name := "curveAlgebra", fn := fun _ => fun
  | [d1, d2, d3, d4] => { results := [.lit (.bool false)], args := [d1, d2, d3, d4] }
  | _ => none }
def CurveAlgebraWrongFalsely : Prop := curveAlgebraRow.holds Try.pinned (OpenSpec.ofChange curveAlgebraWrong)

/-- 'nacellelaw02.CurveWrong': WHATEVER THE INPUT: true; the input reads as it did. -/
def curveWrongSpec : ChangeSpec := { name := "curveWrong", fn := fun _ => fun
  | [d1, d2, d3] => { results := [.lit (.bool true)], args := [d1, d2, d3] }
  | _ => none }
def curveWrongRow : OpenClaim := { program := "ytbihfglmcjkdhaa", sum := "44ab79cbde088541956d11d4d970f991ce08e17865d7e4841384c52350c90321", func := "nacelle/nacellelaw02.CurveWrong", spec := "curveWrong", unfollowed := true, recurses := true, apart := false }
def CurveWrongSaid : Prop := curveWrongRow.holds Try.pinned (OpenSpec.ofChange curveWrongSpec)

/-- ITS FALSE NEIGHBOUR: 'it returns false'. Refute it at one input. -/
def curveWrongWrong : ChangeSpec := { name := "curveWrong", fn := fun _ => fun
  | [d1, d2, d3] => { results := [.lit (.bool false)], args := [d1, d2, d3] }
  | _ => none }
def CurveWrongWrongFalsely : Prop := curveWrongRow.holds Try.pinned (OpenSpec.ofChange curveWrongWrong)

/- THE SECOND FORM. 'bulk': how many values and letters a reading holds, each counted each time it is reached (what is shared counts as often as it is met; a slice's spare places count too). A statement '..UptoSaid' is the law's where the arguments, and the package variables that the reading takes, are together of bulk at most 1048576: NARROWER than '..Said'. Prove '..Said' where nothing that the law and all that it calls make is longer than what came in: it says more and counts as full. Else prove '..UptoSaid'. A law counts once. -/
mutual
def uptoBulk {H : Type} : DataW H → Nat
  | .lit (.string bytes) => bytes.length + 1
  | .lit _ => 1
  | .nil => 1
  | .ptr d => uptoBulk d + 1
  | .slice elems spare => uptoBulkAll elems + uptoBulkAll spare + 1
  | .agg parts => uptoBulkAll parts + 1
  | .iface _ d => uptoBulk d + 1
  | .map entries => uptoBulkEntries entries + 1
  | .held _ => 1
def uptoBulkAll {H : Type} : List (DataW H) → Nat
  | [] => 0
  | d :: r => uptoBulk d + uptoBulkAll r
def uptoBulkEntries {H : Type} : List (Lit × DataW H) → Nat
  | [] => 0
  | x :: r => uptoBulkEntry x + uptoBulkEntries r
def uptoBulkEntry {H : Type} : Lit × DataW H → Nat
  | (.string bytes, d) => bytes.length + uptoBulk d + 1
  | (_, d) => uptoBulk d + 1
 end
def uptoSmall : (H : Type) → List (DataW H) → Bool := fun _ ds => decide (uptoBulkAll ds ≤ 1048576)
def OpenSpec.upto (s : _root_.Go.ChangeSpec) : _root_.Go.OpenSpec := { _root_.Go.OpenSpec.ofChange s with cond := some uptoSmall }

/-- 'nacellelaw02.CurveConcave', WHERE WHAT IT READS IS OF BULK AT MOST 1048576: true; the input reads as it did. -/
def curveConcaveUptoRow : OpenClaim := { program := "ytbihfglmcjkdhaa", sum := "44ab79cbde088541956d11d4d970f991ce08e17865d7e4841384c52350c90321", func := "nacelle/nacellelaw02.CurveConcave", spec := "curveConcave", unfollowed := true, recurses := true, apart := false, narrowed := true }
def CurveConcaveUptoSaid : Prop := curveConcaveUptoRow.holds Try.pinned (OpenSpec.upto curveConcaveSpec)

/-- 'nacellelaw02.CurveNorm', WHERE WHAT IT READS IS OF BULK AT MOST 1048576: true; the input reads as it did. -/
def curveNormUptoRow : OpenClaim := { program := "ytbihfglmcjkdhaa", sum := "44ab79cbde088541956d11d4d970f991ce08e17865d7e4841384c52350c90321", func := "nacelle/nacellelaw02.CurveNorm", spec := "curveNorm", unfollowed := true, recurses := true, apart := false, narrowed := true }
def CurveNormUptoSaid : Prop := curveNormUptoRow.holds Try.pinned (OpenSpec.upto curveNormSpec)

/-- 'nacellelaw02.CurveBreaks', WHERE WHAT IT READS IS OF BULK AT MOST 1048576: true; the input reads as it did. -/
def curveBreaksUptoRow : OpenClaim := { program := "ytbihfglmcjkdhaa", sum := "44ab79cbde088541956d11d4d970f991ce08e17865d7e4841384c52350c90321", func := "nacelle/nacellelaw02.CurveBreaks", spec := "curveBreaks", unfollowed := true, recurses := true, apart := false, narrowed := true }
def CurveBreaksUptoSaid : Prop := curveBreaksUptoRow.holds Try.pinned (OpenSpec.upto curveBreaksSpec)

/-- 'nacellelaw02.CurveTells', WHERE WHAT IT READS IS OF BULK AT MOST 1048576: true; the input reads as it did. -/
def curveTellsUptoRow : OpenClaim := { program := "ytbihfglmcjkdhaa", sum := "44ab79cbde088541956d11d4d970f991ce08e17865d7e4841384c52350c90321", func := "nacelle/nacellelaw02.CurveTells", spec := "curveTells", unfollowed := true, recurses := true, apart := false, narrowed := true }
def CurveTellsUptoSaid : Prop := curveTellsUptoRow.holds Try.pinned (OpenSpec.upto curveTellsSpec)

/-- 'nacellelaw02.CurveSum', WHERE WHAT IT READS IS OF BULK AT MOST 1048576: true; the input reads as it did. -/
def curveSumUptoRow : OpenClaim := { program := "ytbihfglmcjkdhaa", sum := "44ab79cbde088541956d11d4d970f991ce08e17865d7e4841384c52350c90321", func := "nacelle/nacellelaw02.CurveSum", spec := "curveSum", unfollowed := true, recurses := true, apart := false, narrowed := true }
def CurveSumUptoSaid : Prop := curveSumUptoRow.holds Try.pinned (OpenSpec.upto curveSumSpec)

/-- 'nacellelaw02.CurveAlgebra', WHERE WHAT IT READS IS OF BULK AT MOST 1048576: true; the input reads as it did. -/
def curveAlgebraUptoRow : OpenClaim := { program := "ytbihfglmcjkdhaa", sum := "44ab79cbde088541956d11d4d970f991ce08e17865d7e4841384c52350c90321", func := "nacelle/nacellelaw02.CurveAlgebra", spec := "curveAlgebra", unfollowed := true, recurses := true, apart := false, narrowed := true }
def CurveAlgebraUptoSaid : Prop := curveAlgebraUptoRow.holds Try.pinned (OpenSpec.upto curveAlgebraSpec)

/-- 'nacellelaw02.CurveWrong', WHERE WHAT IT READS IS OF BULK AT MOST 1048576: true; the input reads as it did. -/
def curveWrongUptoRow : OpenClaim := { program := "ytbihfglmcjkdhaa", sum := "44ab79cbde088541956d11d4d970f991ce08e17865d7e4841384c52350c90321", func := "nacelle/nacellelaw02.CurveWrong", spec := "curveWrong", unfollowed := true, recurses := true, apart := false, narrowed := true }
def CurveWrongUptoSaid : Prop := curveWrongUptoRow.holds Try.pinned (OpenSpec.upto curveWrongSpec)

end Rows
end Go.Proofs.Ytbihfglmcjkdhaa
