/-
  No cell of these rows narrows 'for every input' (looked for: loops, veiled, ifaces, maps, wideKeys, modest, calm, conditions, laid).
  DERIVED. THE GIVEN ROWS OF THIS SEAT. 5 by the template 'for every input the law returns true; each argument reads behind the call as it read before'; 0 by the template 'total and deterministic' (their statements: YtcahmabkeaijdaaGreatTotals.lean).
  GIVEN WITH THE SEED: the statements are not yours to turn. If you find one false, say at which input.
  Laid BY PROGRAM, IN A SANDBOX (cutbox-rows.mjs): the forced cells as the released guide's own fill.sh prints them over the translation e2c6d7f9b27dbd4b… (all of the seat's roots in one cut). By AI agents, Wed Nov 11 2026. No macro, syntax, notation, axiom, sorry.
-/
import Derived.Test.YtcahmabkeaijdaaGreatChecked
import GoSem.Claim
import GoSem.ClaimJoined
import GoSem.ClaimMapViews
import Derived.JoinedTies
import Derived.KernelRfl
namespace Go.Proofs.YtcahmabkeaijdaaGreat
/- THE CELL 'sum', in the pinned program and in every row, IS THE sha256 OF THE DUMP (.gsa) THAT YtcahmabkeaijdaaGreatProg.lean LOADS. Nothing in Lean hashes anything: it is a label: what it is worth is what the hold of that sum in a sandbox is worth. -/
noncomputable def Tryz.pinned : Pinned := { name := "ytcahmabkeaijdaagreat", sum := "e2c6d7f9b27dbd4b1e0b31c50b85f2370558e3e21dcab201c2b5790391bd567e", checked := Tryz.checked }
namespace Rows
def none {H : Type} : Left H := { results := [], args := [] }

/-- 'nacellelaw35.BoundLess': WHATEVER THE INPUT: true; the input reads as it did. -/
def boundLessSpec : ChangeSpec := { name := "boundLess", fn := fun _ => fun
  | [d1, d2, d3, d4, d5, d6] => { results := [.lit (.bool true)], args := [d1, d2, d3, d4, d5, d6] }
  | _ => none }
def boundLessRow : OpenClaim := { program := "ytcahmabkeaijdaagreat", sum := "e2c6d7f9b27dbd4b1e0b31c50b85f2370558e3e21dcab201c2b5790391bd567e", func := "nacelle/nacellelaw35.BoundLess", spec := "boundLess", unfollowed := true, recurses := true, plainKeys := false, apart := false }
def BoundLessSaid : Prop := boundLessRow.holds Tryz.pinned (OpenSpec.ofChange boundLessSpec)

/-- ITS FALSE NEIGHBOUR: 'it returns false'. Refute it at one input. -/
def boundLessWrong : ChangeSpec := { name := "boundLess", fn := fun _ => fun
  | [d1, d2, d3, d4, d5, d6] => { results := [.lit (.bool false)], args := [d1, d2, d3, d4, d5, d6] }
  | _ => none }
def BoundLessWrongFalsely : Prop := boundLessRow.holds Tryz.pinned (OpenSpec.ofChange boundLessWrong)

/-- 'nacellelaw35.BoundOrder': WHATEVER THE INPUT: true; the input reads as it did. -/
def boundOrderSpec : ChangeSpec := { name := "boundOrder", fn := fun _ => fun
  | [d1, d2, d3] => { results := [.lit (.bool true)], args := [d1, d2, d3] }
  | _ => none }
def boundOrderRow : OpenClaim := { program := "ytcahmabkeaijdaagreat", sum := "e2c6d7f9b27dbd4b1e0b31c50b85f2370558e3e21dcab201c2b5790391bd567e", func := "nacelle/nacellelaw35.BoundOrder", spec := "boundOrder", unfollowed := true, recurses := true, plainKeys := false, apart := false }
def BoundOrderSaid : Prop := boundOrderRow.holds Tryz.pinned (OpenSpec.ofChange boundOrderSpec)

/-- ITS FALSE NEIGHBOUR: 'it returns false'. Refute it at one input. -/
def boundOrderWrong : ChangeSpec := { name := "boundOrder", fn := fun _ => fun
  | [d1, d2, d3] => { results := [.lit (.bool false)], args := [d1, d2, d3] }
  | _ => none }
def BoundOrderWrongFalsely : Prop := boundOrderRow.holds Tryz.pinned (OpenSpec.ofChange boundOrderWrong)

/-- 'nacellelaw35.BoundAlone': WHATEVER THE INPUT: true; the input reads as it did. -/
def boundAloneSpec : ChangeSpec := { name := "boundAlone", fn := fun _ => fun
  | [d1, d2, d3, d4] => { results := [.lit (.bool true)], args := [d1, d2, d3, d4] }
  | _ => none }
def boundAloneRow : OpenClaim := { program := "ytcahmabkeaijdaagreat", sum := "e2c6d7f9b27dbd4b1e0b31c50b85f2370558e3e21dcab201c2b5790391bd567e", func := "nacelle/nacellelaw35.BoundAlone", spec := "boundAlone", unfollowed := true, recurses := true, plainKeys := false, apart := false }
def BoundAloneSaid : Prop := boundAloneRow.holds Tryz.pinned (OpenSpec.ofChange boundAloneSpec)

/-- ITS FALSE NEIGHBOUR: 'it returns false'. Refute it at one input. -/
def boundAloneWrong : ChangeSpec := { name := "boundAlone", fn := fun _ => fun
  | [d1, d2, d3, d4] => { results := [.lit (.bool false)], args := [d1, d2, d3, d4] }
  | _ => none }
def BoundAloneWrongFalsely : Prop := boundAloneRow.holds Tryz.pinned (OpenSpec.ofChange boundAloneWrong)

/-- 'nacellelaw35.BoundWrong': WHATEVER THE INPUT: true; the input reads as it did. -/
def boundWrongSpec : ChangeSpec := { name := "boundWrong", fn := fun _ => fun
  | [d1, d2, d3, d4, d5] => { results := [.lit (.bool true)], args := [d1, d2, d3, d4, d5] }
  | _ => none }
def boundWrongRow : OpenClaim := { program := "ytcahmabkeaijdaagreat", sum := "e2c6d7f9b27dbd4b1e0b31c50b85f2370558e3e21dcab201c2b5790391bd567e", func := "nacelle/nacellelaw35.BoundWrong", spec := "boundWrong", unfollowed := true, recurses := true, plainKeys := false, apart := false }
def BoundWrongSaid : Prop := boundWrongRow.holds Tryz.pinned (OpenSpec.ofChange boundWrongSpec)

/-- ITS FALSE NEIGHBOUR: 'it returns false'. Refute it at one input. -/
def boundWrongWrong : ChangeSpec := { name := "boundWrong", fn := fun _ => fun
  | [d1, d2, d3, d4, d5] => { results := [.lit (.bool false)], args := [d1, d2, d3, d4, d5] }
  | _ => none }
def BoundWrongWrongFalsely : Prop := boundWrongRow.holds Tryz.pinned (OpenSpec.ofChange boundWrongWrong)

/-- 'nacellelaw35.BoundHolds': WHATEVER THE INPUT: true; the input reads as it did. -/
def boundHoldsSpec : ChangeSpec := { name := "boundHolds", fn := fun _ => fun
  | [d1, d2, d3, d4, d5, d6] => { results := [.lit (.bool true)], args := [d1, d2, d3, d4, d5, d6] }
  | _ => none }
def boundHoldsRow : OpenClaim := { program := "ytcahmabkeaijdaagreat", sum := "e2c6d7f9b27dbd4b1e0b31c50b85f2370558e3e21dcab201c2b5790391bd567e", func := "nacelle/nacellelaw35.BoundHolds", spec := "boundHolds", unfollowed := true, recurses := true, plainKeys := false, apart := false }
def BoundHoldsSaid : Prop := boundHoldsRow.holds Tryz.pinned (OpenSpec.ofChange boundHoldsSpec)

/-- ITS FALSE NEIGHBOUR: 'it returns false'. Refute it at one input. -/
def boundHoldsWrong : ChangeSpec := { name := "boundHolds", fn := fun _ => fun
  | [d1, d2, d3, d4, d5, d6] => { results := [.lit (.bool false)], args := [d1, d2, d3, d4, d5, d6] }
  | _ => none }
def BoundHoldsWrongFalsely : Prop := boundHoldsRow.holds Tryz.pinned (OpenSpec.ofChange boundHoldsWrong)

/- THE SECOND FORM. 'bulk': how many values and letters a reading holds, each counted each time it is reached (what is shared counts as often as it is met; a slice's spare places count too). A statement '..UptoSaid' is the law's where the arguments, and the package variables that the reading takes, are together of bulk at most 1048576: NARROWER than '..Said'. Prove '..Said' where nothing that the law and all that it calls make is longer than what came in: it says more and counts as full. Else prove '..UptoSaid'. A law counts once. -/
mutual
def uptoBulk {H : Type} : DataW H → Nat
  | .lit (.string bytes) => bytes.length + 1
  | .lit _ => 1
  | .nil => 1
  | .ptr d => uptoBulk d + 1
  | .slice elems spare => uptoBulkAll elems + uptoBulkAll spare + 1
  | .agg parts => uptoBulkAll parts + 1
  | .iface _ d => uptoBulk d + 1
  | .map entries => uptoBulkEntries entries + 1
  | .held _ => 1
def uptoBulkAll {H : Type} : List (DataW H) → Nat
  | [] => 0
  | d :: r => uptoBulk d + uptoBulkAll r
def uptoBulkEntries {H : Type} : List (Lit × DataW H) → Nat
  | [] => 0
  | x :: r => uptoBulkEntry x + uptoBulkEntries r
def uptoBulkEntry {H : Type} : Lit × DataW H → Nat
  | (.string bytes, d) => bytes.length + uptoBulk d + 1
  | (_, d) => uptoBulk d + 1
 end
def uptoSmall : (H : Type) → List (DataW H) → Bool := fun _ ds => decide (uptoBulkAll ds ≤ 1048576)
def OpenSpec.upto (s : _root_.Go.ChangeSpec) : _root_.Go.OpenSpec := { _root_.Go.OpenSpec.ofChange s with cond := some uptoSmall }

/-- 'nacellelaw35.BoundLess', WHERE WHAT IT READS IS OF BULK AT MOST 1048576: true; the input reads as it did. -/
def boundLessUptoRow : OpenClaim := { program := "ytcahmabkeaijdaagreat", sum := "e2c6d7f9b27dbd4b1e0b31c50b85f2370558e3e21dcab201c2b5790391bd567e", func := "nacelle/nacellelaw35.BoundLess", spec := "boundLess", unfollowed := true, recurses := true, plainKeys := false, apart := false, narrowed := true }
def BoundLessUptoSaid : Prop := boundLessUptoRow.holds Tryz.pinned (OpenSpec.upto boundLessSpec)

/-- 'nacellelaw35.BoundOrder', WHERE WHAT IT READS IS OF BULK AT MOST 1048576: true; the input reads as it did. -/
def boundOrderUptoRow : OpenClaim := { program := "ytcahmabkeaijdaagreat", sum := "e2c6d7f9b27dbd4b1e0b31c50b85f2370558e3e21dcab201c2b5790391bd567e", func := "nacelle/nacellelaw35.BoundOrder", spec := "boundOrder", unfollowed := true, recurses := true, plainKeys := false, apart := false, narrowed := true }
def BoundOrderUptoSaid : Prop := boundOrderUptoRow.holds Tryz.pinned (OpenSpec.upto boundOrderSpec)

/-- 'nacellelaw35.BoundAlone', WHERE WHAT IT READS IS OF BULK AT MOST 1048576: true; the input reads as it did. -/
def boundAloneUptoRow : OpenClaim := { program := "ytcahmabkeaijdaagreat", sum := "e2c6d7f9b27dbd4b1e0b31c50b85f2370558e3e21dcab201c2b5790391bd567e", func := "nacelle/nacellelaw35.BoundAlone", spec := "boundAlone", unfollowed := true, recurses := true, plainKeys := false, apart := false, narrowed := true }
def BoundAloneUptoSaid : Prop := boundAloneUptoRow.holds Tryz.pinned (OpenSpec.upto boundAloneSpec)

/-- 'nacellelaw35.BoundWrong', WHERE WHAT IT READS IS OF BULK AT MOST 1048576: true; the input reads as it did. -/
def boundWrongUptoRow : OpenClaim := { program := "ytcahmabkeaijdaagreat", sum := "e2c6d7f9b27dbd4b1e0b31c50b85f2370558e3e21dcab201c2b5790391bd567e", func := "nacelle/nacellelaw35.BoundWrong", spec := "boundWrong", unfollowed := true, recurses := true, plainKeys := false, apart := false, narrowed := true }
def BoundWrongUptoSaid : Prop := boundWrongUptoRow.holds Tryz.pinned (OpenSpec.upto boundWrongSpec)

/-- 'nacellelaw35.BoundHolds', WHERE WHAT IT READS IS OF BULK AT MOST 1048576: true; the input reads as it did. -/
def boundHoldsUptoRow : OpenClaim := { program := "ytcahmabkeaijdaagreat", sum := "e2c6d7f9b27dbd4b1e0b31c50b85f2370558e3e21dcab201c2b5790391bd567e", func := "nacelle/nacellelaw35.BoundHolds", spec := "boundHolds", unfollowed := true, recurses := true, plainKeys := false, apart := false, narrowed := true }
def BoundHoldsUptoSaid : Prop := boundHoldsUptoRow.holds Tryz.pinned (OpenSpec.upto boundHoldsSpec)

end Rows
end Go.Proofs.YtcahmabkeaijdaaGreat
