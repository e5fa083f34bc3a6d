/-
  No cell of these rows narrows 'for every input' (looked for: loops, veiled, ifaces, maps, wideKeys, modest, calm, conditions, laid).
  DERIVED. THE GIVEN ROWS OF THIS SEAT. 7 by the template 'for every input the law returns true; each argument reads behind the call as it read before'; 0 by the template 'total and deterministic' (their statements: YthjnhebofpebpaaGreatTotals.lean).
  GIVEN WITH THE SEED: the statements are not yours to turn. If you find one false, say at which input.
  Laid BY PROGRAM, IN A SANDBOX (cutbox-rows.mjs): the forced cells as the released guide's own fill.sh prints them over the translation be52d8f872f35fc7… (all of the seat's roots in one cut). By AI agents, Wed Nov 11 2026. No macro, syntax, notation, axiom, sorry.
-/
import Derived.Test.YthjnhebofpebpaaGreatChecked
import GoSem.Claim
import GoSem.ClaimJoined
import GoSem.ClaimMapViews
import Derived.JoinedTies
import Derived.KernelRfl
namespace Go.Proofs.YthjnhebofpebpaaGreat
/- THE CELL 'sum', in the pinned program and in every row, IS THE sha256 OF THE DUMP (.gsa) THAT YthjnhebofpebpaaGreatProg.lean LOADS. Nothing in Lean hashes anything: it is a label: what it is worth is what the hold of that sum in a sandbox is worth. -/
noncomputable def Tryz.pinned : Pinned := { name := "ythjnhebofpebpaagreat", sum := "be52d8f872f35fc77abddfe78635d6c7f839a8d97ef704c9de0becb2074ac1c1", checked := Tryz.checked }
namespace Rows
def none {H : Type} : Left H := { results := [], args := [] }

/-- 'nacellelaw36.HolisticTells': WHATEVER THE INPUT: true; the input reads as it did. -/
def holisticTellsSpec : ChangeSpec := { name := "holisticTells", fn := fun _ => fun
  | [d1, d2, d3, d4] => { results := [.lit (.bool true)], args := [d1, d2, d3, d4] }
  | _ => none }
def holisticTellsRow : OpenClaim := { program := "ythjnhebofpebpaagreat", sum := "be52d8f872f35fc77abddfe78635d6c7f839a8d97ef704c9de0becb2074ac1c1", func := "nacelle/nacellelaw36.HolisticTells", spec := "holisticTells", unfollowed := true, recurses := true, plainKeys := false, apart := false }
def HolisticTellsSaid : Prop := holisticTellsRow.holds Tryz.pinned (OpenSpec.ofChange holisticTellsSpec)

/-- ITS FALSE NEIGHBOUR: 'it returns false'. Refute it at one input. -/
def holisticTellsWrong : ChangeSpec := { name := "holisticTells", fn := fun _ => fun
  | [d1, d2, d3, d4] => { results := [.lit (.bool false)], args := [d1, d2, d3, d4] }
  | _ => none }
def HolisticTellsWrongFalsely : Prop := holisticTellsRow.holds Tryz.pinned (OpenSpec.ofChange holisticTellsWrong)

/-- 'nacellelaw36.HolisticBelow': WHATEVER THE INPUT: true; the input reads as it did. -/
def holisticBelowSpec : ChangeSpec := { name := "holisticBelow", fn := fun _ => fun
  | [d1, d2, d3] => { results := [.lit (.bool true)], args := [d1, d2, d3] }
  | _ => none }
def holisticBelowRow : OpenClaim := { program := "ythjnhebofpebpaagreat", sum := "be52d8f872f35fc77abddfe78635d6c7f839a8d97ef704c9de0becb2074ac1c1", func := "nacelle/nacellelaw36.HolisticBelow", spec := "holisticBelow", unfollowed := true, recurses := true, plainKeys := false, apart := false }
def HolisticBelowSaid : Prop := holisticBelowRow.holds Tryz.pinned (OpenSpec.ofChange holisticBelowSpec)

/-- ITS FALSE NEIGHBOUR: 'it returns false'. Refute it at one input. -/
def holisticBelowWrong : ChangeSpec := { name := "holisticBelow", fn := fun _ => fun
  | [d1, d2, d3] => { results := [.lit (.bool false)], args := [d1, d2, d3] }
  | _ => none }
def HolisticBelowWrongFalsely : Prop := holisticBelowRow.holds Tryz.pinned (OpenSpec.ofChange holisticBelowWrong)

/-- 'nacellelaw36.HolisticJitters': WHATEVER THE INPUT: true; the input reads as it did. -/
def holisticJittersSpec : ChangeSpec := { name := "holisticJitters", fn := fun _ => fun
  | [d1, d2, d3] => { results := [.lit (.bool true)], args := [d1, d2, d3] }
  | _ => none }
def holisticJittersRow : OpenClaim := { program := "ythjnhebofpebpaagreat", sum := "be52d8f872f35fc77abddfe78635d6c7f839a8d97ef704c9de0becb2074ac1c1", func := "nacelle/nacellelaw36.HolisticJitters", spec := "holisticJitters", unfollowed := true, recurses := true, plainKeys := false, apart := false }
def HolisticJittersSaid : Prop := holisticJittersRow.holds Tryz.pinned (OpenSpec.ofChange holisticJittersSpec)

/-- ITS FALSE NEIGHBOUR: 'it returns false'. Refute it at one input. -/
def holisticJittersWrong : ChangeSpec := { name := "holisticJitters", fn := fun _ => fun
  | [d1, d2, d3] => { results := [.lit (.bool false)], args := [d1, d2, d3] }
  | _ => none }
def HolisticJittersWrongFalsely : Prop := holisticJittersRow.holds Tryz.pinned (OpenSpec.ofChange holisticJittersWrong)

/-- 'nacellelaw36.HolisticLess': WHATEVER THE INPUT: true; the input reads as it did. -/
def holisticLessSpec : ChangeSpec := { name := "holisticLess", fn := fun _ => fun
  | [d1, d2, d3, d4, d5] => { results := [.lit (.bool true)], args := [d1, d2, d3, d4, d5] }
  | _ => none }
def holisticLessRow : OpenClaim := { program := "ythjnhebofpebpaagreat", sum := "be52d8f872f35fc77abddfe78635d6c7f839a8d97ef704c9de0becb2074ac1c1", func := "nacelle/nacellelaw36.HolisticLess", spec := "holisticLess", unfollowed := true, recurses := true, plainKeys := false, apart := false }
def HolisticLessSaid : Prop := holisticLessRow.holds Tryz.pinned (OpenSpec.ofChange holisticLessSpec)

/-- ITS FALSE NEIGHBOUR: 'it returns false'. Refute it at one input. -/
def holisticLessWrong : ChangeSpec := { name := "holisticLess", fn := fun _ => fun
  | [d1, d2, d3, d4, d5] => { results := [.lit (.bool false)], args := [d1, d2, d3, d4, d5] }
  | _ => none }
def HolisticLessWrongFalsely : Prop := holisticLessRow.holds Tryz.pinned (OpenSpec.ofChange holisticLessWrong)

/-- 'nacellelaw36.HolisticWrong': WHATEVER THE INPUT: true; the input reads as it did. -/
def holisticWrongSpec : ChangeSpec := { name := "holisticWrong", fn := fun _ => fun
  | [d1, d2, d3, d4, d5] => { results := [.lit (.bool true)], args := [d1, d2, d3, d4, d5] }
  | _ => none }
def holisticWrongRow : OpenClaim := { program := "ythjnhebofpebpaagreat", sum := "be52d8f872f35fc77abddfe78635d6c7f839a8d97ef704c9de0becb2074ac1c1", func := "nacelle/nacellelaw36.HolisticWrong", spec := "holisticWrong", unfollowed := true, recurses := true, plainKeys := false, apart := false }
def HolisticWrongSaid : Prop := holisticWrongRow.holds Tryz.pinned (OpenSpec.ofChange holisticWrongSpec)

/-- ITS FALSE NEIGHBOUR: 'it returns false'. Refute it at one input. -/
def holisticWrongWrong : ChangeSpec := { name := "holisticWrong", fn := fun _ => fun
  | [d1, d2, d3, d4, d5] => { results := [.lit (.bool false)], args := [d1, d2, d3, d4, d5] }
  | _ => none }
def HolisticWrongWrongFalsely : Prop := holisticWrongRow.holds Tryz.pinned (OpenSpec.ofChange holisticWrongWrong)

/-- 'nacellelaw36.HolisticHolds': WHATEVER THE INPUT: true; the input reads as it did. -/
def holisticHoldsSpec : ChangeSpec := { name := "holisticHolds", fn := fun _ => fun
  | [d1, d2, d3, d4, d5, d6] => { results := [.lit (.bool true)], args := [d1, d2, d3, d4, d5, d6] }
  | _ => none }
def holisticHoldsRow : OpenClaim := { program := "ythjnhebofpebpaagreat", sum := "be52d8f872f35fc77abddfe78635d6c7f839a8d97ef704c9de0becb2074ac1c1", func := "nacelle/nacellelaw36.HolisticHolds", spec := "holisticHolds", unfollowed := true, recurses := true, plainKeys := false, apart := false }
def HolisticHoldsSaid : Prop := holisticHoldsRow.holds Tryz.pinned (OpenSpec.ofChange holisticHoldsSpec)

/-- ITS FALSE NEIGHBOUR: 'it returns false'. Refute it at one input. -/
def holisticHoldsWrong : ChangeSpec := { name := "holisticHolds", fn := fun _ => fun
  | [d1, d2, d3, d4, d5, d6] => { results := [.lit (.bool false)], args := [d1, d2, d3, d4, d5, d6] }
  | _ => none }
def HolisticHoldsWrongFalsely : Prop := holisticHoldsRow.holds Tryz.pinned (OpenSpec.ofChange holisticHoldsWrong)

/-- 'nacellelaw36.HolisticReached': WHATEVER THE INPUT: true; the input reads as it did. -/
def holisticReachedSpec : ChangeSpec := { name := "holisticReached", fn := fun _ => fun
  | [d1, d2, d3, d4] => { results := [.lit (.bool true)], args := [d1, d2, d3, d4] }
  | _ => none }
def holisticReachedRow : OpenClaim := { program := "ythjnhebofpebpaagreat", sum := "be52d8f872f35fc77abddfe78635d6c7f839a8d97ef704c9de0becb2074ac1c1", func := "nacelle/nacellelaw36.HolisticReached", spec := "holisticReached", unfollowed := true, recurses := true, plainKeys := false, apart := false }
def HolisticReachedSaid : Prop := holisticReachedRow.holds Tryz.pinned (OpenSpec.ofChange holisticReachedSpec)

/-- ITS FALSE NEIGHBOUR: 'it returns false'. Refute it at one input. -/
def holisticReachedWrong : ChangeSpec := { name := "holisticReached", fn := fun _ => fun
  | [d1, d2, d3, d4] => { results := [.lit (.bool false)], args := [d1, d2, d3, d4] }
  | _ => none }
def HolisticReachedWrongFalsely : Prop := holisticReachedRow.holds Tryz.pinned (OpenSpec.ofChange holisticReachedWrong)

/- THE SECOND FORM. 'bulk': how many values and letters a reading holds, each counted each time it is reached (what is shared counts as often as it is met; a slice's spare places count too). A statement '..UptoSaid' is the law's where the arguments, and the package variables that the reading takes, are together of bulk at most 1048576: NARROWER than '..Said'. Prove '..Said' where nothing that the law and all that it calls make is longer than what came in: it says more and counts as full. Else prove '..UptoSaid'. A law counts once. -/
mutual
def uptoBulk {H : Type} : DataW H → Nat
  | .lit (.string bytes) => bytes.length + 1
  | .lit _ => 1
  | .nil => 1
  | .ptr d => uptoBulk d + 1
  | .slice elems spare => uptoBulkAll elems + uptoBulkAll spare + 1
  | .agg parts => uptoBulkAll parts + 1
  | .iface _ d => uptoBulk d + 1
  | .map entries => uptoBulkEntries entries + 1
  | .held _ => 1
def uptoBulkAll {H : Type} : List (DataW H) → Nat
  | [] => 0
  | d :: r => uptoBulk d + uptoBulkAll r
def uptoBulkEntries {H : Type} : List (Lit × DataW H) → Nat
  | [] => 0
  | x :: r => uptoBulkEntry x + uptoBulkEntries r
def uptoBulkEntry {H : Type} : Lit × DataW H → Nat
  | (.string bytes, d) => bytes.length + uptoBulk d + 1
  | (_, d) => uptoBulk d + 1
 end
def uptoSmall : (H : Type) → List (DataW H) → Bool := fun _ ds => decide (uptoBulkAll ds ≤ 1048576)
def OpenSpec.upto (s : _root_.Go.ChangeSpec) : _root_.Go.OpenSpec := { _root_.Go.OpenSpec.ofChange s with cond := some uptoSmall }

/-- 'nacellelaw36.HolisticTells', WHERE WHAT IT READS IS OF BULK AT MOST 1048576: true; the input reads as it did. -/
def holisticTellsUptoRow : OpenClaim := { program := "ythjnhebofpebpaagreat", sum := "be52d8f872f35fc77abddfe78635d6c7f839a8d97ef704c9de0becb2074ac1c1", func := "nacelle/nacellelaw36.HolisticTells", spec := "holisticTells", unfollowed := true, recurses := true, plainKeys := false, apart := false, narrowed := true }
def HolisticTellsUptoSaid : Prop := holisticTellsUptoRow.holds Tryz.pinned (OpenSpec.upto holisticTellsSpec)

/-- 'nacellelaw36.HolisticBelow', WHERE WHAT IT READS IS OF BULK AT MOST 1048576: true; the input reads as it did. -/
def holisticBelowUptoRow : OpenClaim := { program := "ythjnhebofpebpaagreat", sum := "be52d8f872f35fc77abddfe78635d6c7f839a8d97ef704c9de0becb2074ac1c1", func := "nacelle/nacellelaw36.HolisticBelow", spec := "holisticBelow", unfollowed := true, recurses := true, plainKeys := false, apart := false, narrowed := true }
def HolisticBelowUptoSaid : Prop := holisticBelowUptoRow.holds Tryz.pinned (OpenSpec.upto holisticBelowSpec)

/-- 'nacellelaw36.HolisticJitters', WHERE WHAT IT READS IS OF BULK AT MOST 1048576: true; the input reads as it did. -/
def holisticJittersUptoRow : OpenClaim := { program := "ythjnhebofpebpaagreat", sum := "be52d8f872f35fc77abddfe78635d6c7f839a8d97ef704c9de0becb2074ac1c1", func := "nacelle/nacellelaw36.HolisticJitters", spec := "holisticJitters", unfollowed := true, recurses := true, plainKeys := false, apart := false, narrowed := true }
def HolisticJittersUptoSaid : Prop := holisticJittersUptoRow.holds Tryz.pinned (OpenSpec.upto holisticJittersSpec)

/-- 'nacellelaw36.HolisticLess', WHERE WHAT IT READS IS OF BULK AT MOST 1048576: true; the input reads as it did. -/
def holisticLessUptoRow : OpenClaim := { program := "ythjnhebofpebpaagreat", sum := "be52d8f872f35fc77abddfe78635d6c7f839a8d97ef704c9de0becb2074ac1c1", func := "nacelle/nacellelaw36.HolisticLess", spec := "holisticLess", unfollowed := true, recurses := true, plainKeys := false, apart := false, narrowed := true }
def HolisticLessUptoSaid : Prop := holisticLessUptoRow.holds Tryz.pinned (OpenSpec.upto holisticLessSpec)

/-- 'nacellelaw36.HolisticWrong', WHERE WHAT IT READS IS OF BULK AT MOST 1048576: true; the input reads as it did. -/
def holisticWrongUptoRow : OpenClaim := { program := "ythjnhebofpebpaagreat", sum := "be52d8f872f35fc77abddfe78635d6c7f839a8d97ef704c9de0becb2074ac1c1", func := "nacelle/nacellelaw36.HolisticWrong", spec := "holisticWrong", unfollowed := true, recurses := true, plainKeys := false, apart := false, narrowed := true }
def HolisticWrongUptoSaid : Prop := holisticWrongUptoRow.holds Tryz.pinned (OpenSpec.upto holisticWrongSpec)

/-- 'nacellelaw36.HolisticHolds', WHERE WHAT IT READS IS OF BULK AT MOST 1048576: true; the input reads as it did. -/
def holisticHoldsUptoRow : OpenClaim := { program := "ythjnhebofpebpaagreat", sum := "be52d8f872f35fc77abddfe78635d6c7f839a8d97ef704c9de0becb2074ac1c1", func := "nacelle/nacellelaw36.HolisticHolds", spec := "holisticHolds", unfollowed := true, recurses := true, plainKeys := false, apart := false, narrowed := true }
def HolisticHoldsUptoSaid : Prop := holisticHoldsUptoRow.holds Tryz.pinned (OpenSpec.upto holisticHoldsSpec)

/-- 'nacellelaw36.HolisticReached', WHERE WHAT IT READS IS OF BULK AT MOST 1048576: true; the input reads as it did. -/
def holisticReachedUptoRow : OpenClaim := { program := "ythjnhebofpebpaagreat", sum := "be52d8f872f35fc77abddfe78635d6c7f839a8d97ef704c9de0becb2074ac1c1", func := "nacelle/nacellelaw36.HolisticReached", spec := "holisticReached", unfollowed := true, recurses := true, plainKeys := false, apart := false, narrowed := true }
def HolisticReachedUptoSaid : Prop := holisticReachedUptoRow.holds Tryz.pinned (OpenSpec.upto holisticReachedSpec)

end Rows
end Go.Proofs.YthjnhebofpebpaaGreat
