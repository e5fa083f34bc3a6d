/-
  No cell of these rows narrows 'for every input' (looked for: loops, veiled, ifaces, maps, wideKeys, modest, calm, conditions, laid).
  DERIVED. THE GIVEN ROWS OF THIS SEAT. 5 by the template 'for every input the law returns true; each argument reads behind the call as it read before'; 0 by the template 'total and deterministic' (their statements: YtakfmdiiehcbdaaTotals.lean).
  GIVEN WITH THE SEED: the statements are not yours to turn. If you find one false, say at which input.
  Laid BY PROGRAM, IN A SANDBOX (cutbox-rows.mjs): the forced cells as the released guide's own fill.sh prints them over the translation 0a21fd463db0b1a5… (all of the seat's roots in one cut). By AI agents, Wed Nov 11 2026. No macro, syntax, notation, axiom, sorry.
-/
import Derived.Test.YtakfmdiiehcbdaaChecked
import GoSem.Claim
import GoSem.ClaimJoined
import GoSem.ClaimMapViews
import Derived.JoinedTies
import Derived.KernelRfl
namespace Go.Proofs.Ytakfmdiiehcbdaa
/- THE CELL 'sum', in the pinned program and in every row, IS THE sha256 OF THE DUMP (.gsa) THAT YtakfmdiiehcbdaaProg.lean LOADS. Nothing in Lean hashes anything: it is a label: what it is worth is what the hold of that sum in a sandbox is worth. -/
noncomputable def Try.pinned : Pinned := { name := "ytakfmdiiehcbdaa", sum := "0a21fd463db0b1a53bf68f71ed5c47fb009660bf0377a35c51de134fcf5fb475", checked := Try.checked }
namespace Rows
def none {H : Type} : Left H := { results := [], args := [] }

/-- 'nacellelaw03.CalculusDelays': WHATEVER THE INPUT: true; the input reads as it did. -/
def calculusDelaysSpec : ChangeSpec := { name := "calculusDelays", fn := fun _ => fun
  | [d1, d2, d3, d4, d5, d6, d7, d8] => { results := [.lit (.bool true)], args := [d1, d2, d3, d4, d5, d6, d7, d8] }
  | _ => none }
def calculusDelaysRow : OpenClaim := { program := "ytakfmdiiehcbdaa", sum := "0a21fd463db0b1a53bf68f71ed5c47fb009660bf0377a35c51de134fcf5fb475", func := "nacelle/nacellelaw03.CalculusDelays", spec := "calculusDelays", unfollowed := true, recurses := true, apart := false }
def CalculusDelaysSaid : Prop := calculusDelaysRow.holds Try.pinned (OpenSpec.ofChange calculusDelaysSpec)

/-- ITS FALSE NEIGHBOUR: 'it returns false'. Refute it at one input. -/
def calculusDelaysWrong : ChangeSpec := { name := "calculusDelays", fn := fun _ => fun
  | [d1, d2, d3, d4, d5, d6, d7, d8] => { results := [.lit (.bool false)], args := [d1, d2, d3, d4, d5, d6, d7, d8] }
  | _ => none }
def CalculusDelaysWrongFalsely : Prop := calculusDelaysRow.holds Try.pinned (OpenSpec.ofChange calculusDelaysWrong)

/-- 'nacellelaw03.CalculusAbove': WHATEVER THE INPUT: true; the input reads as it did. -/
def calculusAboveSpec : ChangeSpec := { name := "calculusAbove", fn := fun _ => fun
  | [d1, d2, d3, d4, d5] => { results := [.lit (.bool true)], args := [d1, d2, d3, d4, d5] }
  | _ => none }
def calculusAboveRow : OpenClaim := { program := "ytakfmdiiehcbdaa", sum := "0a21fd463db0b1a53bf68f71ed5c47fb009660bf0377a35c51de134fcf5fb475", func := "nacelle/nacellelaw03.CalculusAbove", spec := "calculusAbove", unfollowed := true, recurses := true, apart := false }
def CalculusAboveSaid : Prop := calculusAboveRow.holds Try.pinned (OpenSpec.ofChange calculusAboveSpec)

/-- ITS FALSE NEIGHBOUR: 'it returns false'. Refute it at one input. -/
def calculusAboveWrong : ChangeSpec := { name := "calculusAbove", fn := fun _ => fun
  | [d1, d2, d3, d4, d5] => { results := [.lit (.bool false)], args := [d1, d2, d3, d4, d5] }
  | _ => none }
def CalculusAboveWrongFalsely : Prop := calculusAboveRow.holds Try.pinned (OpenSpec.ofChange calculusAboveWrong)

/-- 'nacellelaw03.CalculusMore': WHATEVER THE INPUT: true; the input reads as it did. -/
def calculusMoreSpec : ChangeSpec := { name := "calculusMore", fn := fun _ => fun
  | [d1, d2, d3, d4, d5] => { results := [.lit (.bool true)], args := [d1, d2, d3, d4, d5] }
  | _ => none }
def calculusMoreRow : OpenClaim := { program := "ytakfmdiiehcbdaa", sum := "0a21fd463db0b1a53bf68f71ed5c47fb009660bf0377a35c51de134fcf5fb475", func := "nacelle/nacellelaw03.CalculusMore", spec := "calculusMore", unfollowed := true, recurses := true, apart := false }
def CalculusMoreSaid : Prop := calculusMoreRow.holds Try.pinned (OpenSpec.ofChange calculusMoreSpec)

/-- ITS FALSE NEIGHBOUR: 'it returns false'. Refute it at one input. -/
def calculusMoreWrong : ChangeSpec := { name := "calculusMore", fn := fun _ => fun
  | [d1, d2, d3, d4, d5] => { results := [.lit (.bool false)], args := [d1, d2, d3, d4, d5] }
  | _ => none }
def CalculusMoreWrongFalsely : Prop := calculusMoreRow.holds Try.pinned (OpenSpec.ofChange calculusMoreWrong)

/-- 'nacellelaw03.CalculusFifo': WHATEVER THE INPUT: true; the input reads as it did. -/
def calculusFifoSpec : ChangeSpec := { name := "calculusFifo", fn := fun _ => fun
  | [d1, d2, d3, d4] => { results := [.lit (.bool true)], args := [d1, d2, d3, d4] }
  | _ => none }
def calculusFifoRow : OpenClaim := { program := "ytakfmdiiehcbdaa", sum := "0a21fd463db0b1a53bf68f71ed5c47fb009660bf0377a35c51de134fcf5fb475", func := "nacelle/nacellelaw03.CalculusFifo", spec := "calculusFifo", unfollowed := true, recurses := true, apart := false }
def CalculusFifoSaid : Prop := calculusFifoRow.holds Try.pinned (OpenSpec.ofChange calculusFifoSpec)

/-- ITS FALSE NEIGHBOUR: 'it returns false'. Refute it at one input. -/
def calculusFifoWrong : ChangeSpec := { name := "calculusFifo", fn := fun _ => fun
  | [d1, d2, d3, d4] => { results := [.lit (.bool false)], args := [d1, d2, d3, d4] }
  | _ => none }
def CalculusFifoWrongFalsely : Prop := calculusFifoRow.holds Try.pinned (OpenSpec.ofChange calculusFifoWrong)

/-- 'nacellelaw03.CalculusChain': WHATEVER THE INPUT: true; the input reads as it did. -/
def calculusChainSpec : ChangeSpec := { name := "calculusChain", fn := fun _ => fun
  | [d1, d2, d3, d4, d5] => { results := [.lit (.bool true)], args := [d1, d2, d3, d4, d5] }
  | _ => none }
def calculusChainRow : OpenClaim := { program := "ytakfmdiiehcbdaa", sum := "0a21fd463db0b1a53bf68f71ed5c47fb009660bf0377a35c51de134fcf5fb475", func := "nacelle/nacellelaw03.CalculusChain", spec := "calculusChain", unfollowed := true, recurses := true, apart := false }
def CalculusChainSaid : Prop := calculusChainRow.holds Try.pinned (OpenSpec.ofChange calculusChainSpec)

/-- ITS FALSE NEIGHBOUR: 'it returns false'. Refute it at one input. -/
def calculusChainWrong : ChangeSpec := { name := "calculusChain", fn := fun _ => fun
  | [d1, d2, d3, d4, d5] => { results := [.lit (.bool false)], args := [d1, d2, d3, d4, d5] }
  | _ => none }
def CalculusChainWrongFalsely : Prop := calculusChainRow.holds Try.pinned (OpenSpec.ofChange calculusChainWrong)

/- THE SECOND FORM. 'bulk': how many values and letters a reading holds, each counted each time it is reached (what is shared counts as often as it is met; a slice's spare places count too). A statement '..UptoSaid' is the law's where the arguments, and the package variables that the reading takes, are together of bulk at most 1048576: NARROWER than '..Said'. Prove '..Said' where nothing that the law and all that it calls make is longer than what came in: it says more and counts as full. Else prove '..UptoSaid'. A law counts once. -/
mutual
def uptoBulk {H : Type} : DataW H → Nat
  | .lit (.string bytes) => bytes.length + 1
  | .lit _ => 1
  | .nil => 1
  | .ptr d => uptoBulk d + 1
  | .slice elems spare => uptoBulkAll elems + uptoBulkAll spare + 1
  | .agg parts => uptoBulkAll parts + 1
  | .iface _ d => uptoBulk d + 1
  | .map entries => uptoBulkEntries entries + 1
  | .held _ => 1
def uptoBulkAll {H : Type} : List (DataW H) → Nat
  | [] => 0
  | d :: r => uptoBulk d + uptoBulkAll r
def uptoBulkEntries {H : Type} : List (Lit × DataW H) → Nat
  | [] => 0
  | x :: r => uptoBulkEntry x + uptoBulkEntries r
def uptoBulkEntry {H : Type} : Lit × DataW H → Nat
  | (.string bytes, d) => bytes.length + uptoBulk d + 1
  | (_, d) => uptoBulk d + 1
 end
def uptoSmall : (H : Type) → List (DataW H) → Bool := fun _ ds => decide (uptoBulkAll ds ≤ 1048576)
def OpenSpec.upto (s : _root_.Go.ChangeSpec) : _root_.Go.OpenSpec := { _root_.Go.OpenSpec.ofChange s with cond := some uptoSmall }

/-- 'nacellelaw03.CalculusDelays', WHERE WHAT IT READS IS OF BULK AT MOST 1048576: true; the input reads as it did. -/
def calculusDelaysUptoRow : OpenClaim := { program := "ytakfmdiiehcbdaa", sum := "0a21fd463db0b1a53bf68f71ed5c47fb009660bf0377a35c51de134fcf5fb475", func := "nacelle/nacellelaw03.CalculusDelays", spec := "calculusDelays", unfollowed := true, recurses := true, apart := false, narrowed := true }
def CalculusDelaysUptoSaid : Prop := calculusDelaysUptoRow.holds Try.pinned (OpenSpec.upto calculusDelaysSpec)

/-- 'nacellelaw03.CalculusAbove', WHERE WHAT IT READS IS OF BULK AT MOST 1048576: true; the input reads as it did. -/
def calculusAboveUptoRow : OpenClaim := { program := "ytakfmdiiehcbdaa", sum := "0a21fd463db0b1a53bf68f71ed5c47fb009660bf0377a35c51de134fcf5fb475", func := "nacelle/nacellelaw03.CalculusAbove", spec := "calculusAbove", unfollowed := true, recurses := true, apart := false, narrowed := true }
def CalculusAboveUptoSaid : Prop := calculusAboveUptoRow.holds Try.pinned (OpenSpec.upto calculusAboveSpec)

/-- 'nacellelaw03.CalculusMore', WHERE WHAT IT READS IS OF BULK AT MOST 1048576: true; the input reads as it did. -/
def calculusMoreUptoRow : OpenClaim := { program := "ytakfmdiiehcbdaa", sum := "0a21fd463db0b1a53bf68f71ed5c47fb009660bf0377a35c51de134fcf5fb475", func := "nacelle/nacellelaw03.CalculusMore", spec := "calculusMore", unfollowed := true, recurses := true, apart := false, narrowed := true }
def CalculusMoreUptoSaid : Prop := calculusMoreUptoRow.holds Try.pinned (OpenSpec.upto calculusMoreSpec)

/-- 'nacellelaw03.CalculusFifo', WHERE WHAT IT READS IS OF BULK AT MOST 1048576: true; the input reads as it did. -/
def calculusFifoUptoRow : OpenClaim := { program := "ytakfmdiiehcbdaa", sum := "0a21fd463db0b1a53bf68f71ed5c47fb009660bf0377a35c51de134fcf5fb475", func := "nacelle/nacellelaw03.CalculusFifo", spec := "calculusFifo", unfollowed := true, recurses := true, apart := false, narrowed := true }
def CalculusFifoUptoSaid : Prop := calculusFifoUptoRow.holds Try.pinned (OpenSpec.upto calculusFifoSpec)

/-- 'nacellelaw03.CalculusChain', WHERE WHAT IT READS IS OF BULK AT MOST 1048576: true; the input reads as it did. -/
def calculusChainUptoRow : OpenClaim := { program := "ytakfmdiiehcbdaa", sum := "0a21fd463db0b1a53bf68f71ed5c47fb009660bf0377a35c51de134fcf5fb475", func := "nacelle/nacellelaw03.CalculusChain", spec := "calculusChain", unfollowed := true, recurses := true, apart := false, narrowed := true }
def CalculusChainUptoSaid : Prop := calculusChainUptoRow.holds Try.pinned (OpenSpec.upto calculusChainSpec)

end Rows
end Go.Proofs.Ytakfmdiiehcbdaa
