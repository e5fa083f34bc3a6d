/-
  No cell of these rows narrows 'for every input' (looked for: loops, veiled, ifaces, maps, wideKeys, modest, calm, conditions, laid).
  DERIVED. THE GIVEN ROWS OF THIS SEAT. 7 by the template 'for every input the law returns true; each argument reads behind the call as it read before'; 0 by the template 'total and deterministic' (their statements: YtkhiiafgikioiaaTotals.lean).
  GIVEN WITH THE SEED: the statements are not yours to turn. If you find one false, say at which input.
  Laid BY PROGRAM, IN A SANDBOX (cutbox-rows.mjs): the forced cells as the released guide's own fill.sh prints them over the translation d4dacc52da9eb72a… (all of the seat's roots in one cut). By AI agents, Wed Nov 11 2026. No macro, syntax, notation, axiom, sorry.
-/
import Derived.Test.YtkhiiafgikioiaaChecked
import GoSem.Claim
import GoSem.ClaimJoined
import GoSem.ClaimMapViews
import Derived.JoinedTies
import Derived.KernelRfl
namespace Go.Proofs.Ytkhiiafgikioiaa
/- THE CELL 'sum', in the pinned program and in every row, IS THE sha256 OF THE DUMP (.gsa) THAT YtkhiiafgikioiaaProg.lean LOADS. Nothing in Lean hashes anything: it is a label: what it is worth is what the hold of that sum in a sandbox is worth. -/
noncomputable def Try.pinned : Pinned := { name := "ytkhiiafgikioiaa", sum := "d4dacc52da9eb72a5dfec026a12894736f26aa9c2d4c45232ae702cf03fabc2b", checked := Try.checked }
namespace Rows
def none {H : Type} : Left H := { results := [], args := [] }

/-- 'nacellelaw33.ClockTells': WHATEVER THE INPUT: true; the input reads as it did. -/
def clockTellsSpec : ChangeSpec := { name := "clockTells", fn := fun _ => fun
  | [d1, d2, d3, d4] => { results := [.lit (.bool true)], args := [d1, d2, d3, d4] }
  | _ => none }
def clockTellsRow : OpenClaim := { program := "ytkhiiafgikioiaa", sum := "d4dacc52da9eb72a5dfec026a12894736f26aa9c2d4c45232ae702cf03fabc2b", func := "nacelle/nacellelaw33.ClockTells", spec := "clockTells", unfollowed := true, recurses := true, apart := false }
def ClockTellsSaid : Prop := clockTellsRow.holds Try.pinned (OpenSpec.ofChange clockTellsSpec)

/-- ITS FALSE NEIGHBOUR: 'it returns false'. Refute it at one input. -/
def clockTellsWrong : ChangeSpec := { name := "clockTells", fn := fun _ => fun
  | [d1, d2, d3, d4] => { results := [.lit (.bool false)], args := [d1, d2, d3, d4] }
  | _ => none }
def ClockTellsWrongFalsely : Prop := clockTellsRow.holds Try.pinned (OpenSpec.ofChange clockTellsWrong)

/-- 'nacellelaw33.ClockTrue': WHATEVER THE INPUT: true; the input reads as it did. -/
def clockTrueSpec : ChangeSpec := { name := "clockTrue", fn := fun _ => fun
  | [d1, d2, d3, d4] => { results := [.lit (.bool true)], args := [d1, d2, d3, d4] }
  | _ => none }
def clockTrueRow : OpenClaim := { program := "ytkhiiafgikioiaa", sum := "d4dacc52da9eb72a5dfec026a12894736f26aa9c2d4c45232ae702cf03fabc2b", func := "nacelle/nacellelaw33.ClockTrue", spec := "clockTrue", unfollowed := true, recurses := true, apart := false }
def ClockTrueSaid : Prop := clockTrueRow.holds Try.pinned (OpenSpec.ofChange clockTrueSpec)

/-- ITS FALSE NEIGHBOUR: 'it returns false'. Refute it at one input. -/
def clockTrueWrong : ChangeSpec := { name := "clockTrue", fn := fun _ => fun
  | [d1, d2, d3, d4] => { results := [.lit (.bool false)], args := [d1, d2, d3, d4] }
  | _ => none }
def ClockTrueWrongFalsely : Prop := clockTrueRow.holds Try.pinned (OpenSpec.ofChange clockTrueWrong)

/-- 'nacellelaw33.ClockFair': WHATEVER THE INPUT: true; the input reads as it did. -/
def clockFairSpec : ChangeSpec := { name := "clockFair", fn := fun _ => fun
  | [d1, d2, d3, d4] => { results := [.lit (.bool true)], args := [d1, d2, d3, d4] }
  | _ => none }
def clockFairRow : OpenClaim := { program := "ytkhiiafgikioiaa", sum := "d4dacc52da9eb72a5dfec026a12894736f26aa9c2d4c45232ae702cf03fabc2b", func := "nacelle/nacellelaw33.ClockFair", spec := "clockFair", unfollowed := true, recurses := true, apart := false }
def ClockFairSaid : Prop := clockFairRow.holds Try.pinned (OpenSpec.ofChange clockFairSpec)

/-- ITS FALSE NEIGHBOUR: 'it returns false'. Refute it at one input. -/
def clockFairWrong : ChangeSpec := { name := "clockFair", fn := fun _ => fun
  | [d1, d2, d3, d4] => { results := [.lit (.bool false)], args := [d1, d2, d3, d4] }
  | _ => none }
def ClockFairWrongFalsely : Prop := clockFairRow.holds Try.pinned (OpenSpec.ofChange clockFairWrong)

/-- 'nacellelaw33.ClockMeets': WHATEVER THE INPUT: true; the input reads as it did. -/
def clockMeetsSpec : ChangeSpec := { name := "clockMeets", fn := fun _ => fun
  | [d1, d2, d3, d4] => { results := [.lit (.bool true)], args := [d1, d2, d3, d4] }
  | _ => none }
def clockMeetsRow : OpenClaim := { program := "ytkhiiafgikioiaa", sum := "d4dacc52da9eb72a5dfec026a12894736f26aa9c2d4c45232ae702cf03fabc2b", func := "nacelle/nacellelaw33.ClockMeets", spec := "clockMeets", unfollowed := true, recurses := true, apart := false }
def ClockMeetsSaid : Prop := clockMeetsRow.holds Try.pinned (OpenSpec.ofChange clockMeetsSpec)

/-- ITS FALSE NEIGHBOUR: 'it returns false'. Refute it at one input. -/
def clockMeetsWrong : ChangeSpec := { name := "clockMeets", fn := fun _ => fun
  | [d1, d2, d3, d4] => { results := [.lit (.bool false)], args := [d1, d2, d3, d4] }
  | _ => none }
def ClockMeetsWrongFalsely : Prop := clockMeetsRow.holds Try.pinned (OpenSpec.ofChange clockMeetsWrong)

/-- 'nacellelaw33.ClockOrder': WHATEVER THE INPUT: true; the input reads as it did. -/
def clockOrderSpec : ChangeSpec := { name := "clockOrder", fn := fun _ => fun
  | [d1, d2, d3, d4, d5] => { results := [.lit (.bool true)], args := [d1, d2, d3, d4, d5] }
  | _ => none }
def clockOrderRow : OpenClaim := { program := "ytkhiiafgikioiaa", sum := "d4dacc52da9eb72a5dfec026a12894736f26aa9c2d4c45232ae702cf03fabc2b", func := "nacelle/nacellelaw33.ClockOrder", spec := "clockOrder", unfollowed := true, recurses := true, apart := false }
def ClockOrderSaid : Prop := clockOrderRow.holds Try.pinned (OpenSpec.ofChange clockOrderSpec)

/-- ITS FALSE NEIGHBOUR: 'it returns false'. Refute it at one input. -/
def clockOrderWrong : ChangeSpec := { name := "clockOrder", fn := fun _ => fun
  | [d1, d2, d3, d4, d5] => { results := [.lit (.bool false)], args := [d1, d2, d3, d4, d5] }
  | _ => none }
def ClockOrderWrongFalsely : Prop := clockOrderRow.holds Try.pinned (OpenSpec.ofChange clockOrderWrong)

/-- 'nacellelaw33.ClockMore': WHATEVER THE INPUT: true; the input reads as it did. -/
def clockMoreSpec : ChangeSpec := { name := "clockMore", fn := fun _ => fun
  | [d1, d2, d3] => { results := [.lit (.bool true)], args := [d1, d2, d3] }
  | _ => none }
def clockMoreRow : OpenClaim := { program := "ytkhiiafgikioiaa", sum := "d4dacc52da9eb72a5dfec026a12894736f26aa9c2d4c45232ae702cf03fabc2b", func := "nacelle/nacellelaw33.ClockMore", spec := "clockMore", unfollowed := true, recurses := true, apart := false }
def ClockMoreSaid : Prop := clockMoreRow.holds Try.pinned (OpenSpec.ofChange clockMoreSpec)

/-- ITS FALSE NEIGHBOUR: 'it returns false'. Refute it at one input. -/
def clockMoreWrong : ChangeSpec := { name := "clockMore", fn := fun _ => fun
  | [d1, d2, d3] => { results := [.lit (.bool false)], args := [d1, d2, d3] }
  | _ => none }
def ClockMoreWrongFalsely : Prop := clockMoreRow.holds Try.pinned (OpenSpec.ofChange clockMoreWrong)

/-- 'nacellelaw33.ClockWrong': WHATEVER THE INPUT: true; the input reads as it did. -/
def clockWrongSpec : ChangeSpec := { name := "clockWrong", fn := fun _ => fun
  | [d1, d2, d3] => { results := [.lit (.bool true)], args := [d1, d2, d3] }
  | _ => none }
def clockWrongRow : OpenClaim := { program := "ytkhiiafgikioiaa", sum := "d4dacc52da9eb72a5dfec026a12894736f26aa9c2d4c45232ae702cf03fabc2b", func := "nacelle/nacellelaw33.ClockWrong", spec := "clockWrong", unfollowed := true, recurses := true, apart := false }
def ClockWrongSaid : Prop := clockWrongRow.holds Try.pinned (OpenSpec.ofChange clockWrongSpec)

/-- ITS FALSE NEIGHBOUR: 'it returns false'. Refute it at one input. -/
def clockWrongWrong : ChangeSpec := { name := "clockWrong", fn := fun _ => fun
  | [d1, d2, d3] => { results := [.lit (.bool false)], args := [d1, d2, d3] }
  | _ => none }
def ClockWrongWrongFalsely : Prop := clockWrongRow.holds Try.pinned (OpenSpec.ofChange clockWrongWrong)

/- THE SECOND FORM. 'bulk': how many values and letters a reading holds, each counted each time it is reached (what is shared counts as often as it is met; a slice's spare places count too). A statement '..UptoSaid' is the law's where the arguments, and the package variables that the reading takes, are together of bulk at most 1048576: NARROWER than '..Said'. Prove '..Said' where nothing that the law and all that it calls make is longer than what came in: it says more and counts as full. Else prove '..UptoSaid'. A law counts once. -/
mutual
def uptoBulk {H : Type} : DataW H → Nat
  | .lit (.string bytes) => bytes.length + 1
  | .lit _ => 1
  | .nil => 1
  | .ptr d => uptoBulk d + 1
  | .slice elems spare => uptoBulkAll elems + uptoBulkAll spare + 1
  | .agg parts => uptoBulkAll parts + 1
  | .iface _ d => uptoBulk d + 1
  | .map entries => uptoBulkEntries entries + 1
  | .held _ => 1
def uptoBulkAll {H : Type} : List (DataW H) → Nat
  | [] => 0
  | d :: r => uptoBulk d + uptoBulkAll r
def uptoBulkEntries {H : Type} : List (Lit × DataW H) → Nat
  | [] => 0
  | x :: r => uptoBulkEntry x + uptoBulkEntries r
def uptoBulkEntry {H : Type} : Lit × DataW H → Nat
  | (.string bytes, d) => bytes.length + uptoBulk d + 1
  | (_, d) => uptoBulk d + 1
 end
def uptoSmall : (H : Type) → List (DataW H) → Bool := fun _ ds => decide (uptoBulkAll ds ≤ 1048576)
def OpenSpec.upto (s : _root_.Go.ChangeSpec) : _root_.Go.OpenSpec := { _root_.Go.OpenSpec.ofChange s with cond := some uptoSmall }

/-- 'nacellelaw33.ClockTells', WHERE WHAT IT READS IS OF BULK AT MOST 1048576: true; the input reads as it did. -/
def clockTellsUptoRow : OpenClaim := { program := "ytkhiiafgikioiaa", sum := "d4dacc52da9eb72a5dfec026a12894736f26aa9c2d4c45232ae702cf03fabc2b", func := "nacelle/nacellelaw33.ClockTells", spec := "clockTells", unfollowed := true, recurses := true, apart := false, narrowed := true }
def ClockTellsUptoSaid : Prop := clockTellsUptoRow.holds Try.pinned (OpenSpec.upto clockTellsSpec)

/-- 'nacellelaw33.ClockTrue', WHERE WHAT IT READS IS OF BULK AT MOST 1048576: true; the input reads as it did. -/
def clockTrueUptoRow : OpenClaim := { program := "ytkhiiafgikioiaa", sum := "d4dacc52da9eb72a5dfec026a12894736f26aa9c2d4c45232ae702cf03fabc2b", func := "nacelle/nacellelaw33.ClockTrue", spec := "clockTrue", unfollowed := true, recurses := true, apart := false, narrowed := true }
def ClockTrueUptoSaid : Prop := clockTrueUptoRow.holds Try.pinned (OpenSpec.upto clockTrueSpec)

/-- 'nacellelaw33.ClockFair', WHERE WHAT IT READS IS OF BULK AT MOST 1048576: true; the input reads as it did. -/
def clockFairUptoRow : OpenClaim := { program := "ytkhiiafgikioiaa", sum := "d4dacc52da9eb72a5dfec026a12894736f26aa9c2d4c45232ae702cf03fabc2b", func := "nacelle/nacellelaw33.ClockFair", spec := "clockFair", unfollowed := true, recurses := true, apart := false, narrowed := true }
def ClockFairUptoSaid : Prop := clockFairUptoRow.holds Try.pinned (OpenSpec.upto clockFairSpec)

/-- 'nacellelaw33.ClockMeets', WHERE WHAT IT READS IS OF BULK AT MOST 1048576: true; the input reads as it did. -/
def clockMeetsUptoRow : OpenClaim := { program := "ytkhiiafgikioiaa", sum := "d4dacc52da9eb72a5dfec026a12894736f26aa9c2d4c45232ae702cf03fabc2b", func := "nacelle/nacellelaw33.ClockMeets", spec := "clockMeets", unfollowed := true, recurses := true, apart := false, narrowed := true }
def ClockMeetsUptoSaid : Prop := clockMeetsUptoRow.holds Try.pinned (OpenSpec.upto clockMeetsSpec)

/-- 'nacellelaw33.ClockOrder', WHERE WHAT IT READS IS OF BULK AT MOST 1048576: true; the input reads as it did. -/
def clockOrderUptoRow : OpenClaim := { program := "ytkhiiafgikioiaa", sum := "d4dacc52da9eb72a5dfec026a12894736f26aa9c2d4c45232ae702cf03fabc2b", func := "nacelle/nacellelaw33.ClockOrder", spec := "clockOrder", unfollowed := true, recurses := true, apart := false, narrowed := true }
def ClockOrderUptoSaid : Prop := clockOrderUptoRow.holds Try.pinned (OpenSpec.upto clockOrderSpec)

/-- 'nacellelaw33.ClockMore', WHERE WHAT IT READS IS OF BULK AT MOST 1048576: true; the input reads as it did. -/
def clockMoreUptoRow : OpenClaim := { program := "ytkhiiafgikioiaa", sum := "d4dacc52da9eb72a5dfec026a12894736f26aa9c2d4c45232ae702cf03fabc2b", func := "nacelle/nacellelaw33.ClockMore", spec := "clockMore", unfollowed := true, recurses := true, apart := false, narrowed := true }
def ClockMoreUptoSaid : Prop := clockMoreUptoRow.holds Try.pinned (OpenSpec.upto clockMoreSpec)

/-- 'nacellelaw33.ClockWrong', WHERE WHAT IT READS IS OF BULK AT MOST 1048576: true; the input reads as it did. -/
def clockWrongUptoRow : OpenClaim := { program := "ytkhiiafgikioiaa", sum := "d4dacc52da9eb72a5dfec026a12894736f26aa9c2d4c45232ae702cf03fabc2b", func := "nacelle/nacellelaw33.ClockWrong", spec := "clockWrong", unfollowed := true, recurses := true, apart := false, narrowed := true }
def ClockWrongUptoSaid : Prop := clockWrongUptoRow.holds Try.pinned (OpenSpec.upto clockWrongSpec)

end Rows
end Go.Proofs.Ytkhiiafgikioiaa
