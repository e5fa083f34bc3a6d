/-
  No cell of these rows narrows 'for every input' (looked for: loops, veiled, ifaces, maps, wideKeys, modest, calm, conditions, laid).
  DERIVED. THE GIVEN ROWS OF THIS SEAT. 6 by the template 'for every input the law returns true; each argument reads behind the call as it read before'; 0 by the template 'total and deterministic' (their statements: YtahpdiojgdlmgaaTotals.lean).
  GIVEN WITH THE SEED: the statements are not yours to turn. If you find one false, say at which input.
  Laid BY PROGRAM, IN A SANDBOX (cutbox-rows.mjs): the forced cells as the released guide's own fill.sh prints them over the translation 4dee96af6bd2778d… (all of the seat's roots in one cut). By AI agents, Wed Nov 11 2026. No macro, syntax, notation, axiom, sorry.
-/
import Derived.Test.YtahpdiojgdlmgaaChecked
import GoSem.Claim
import GoSem.ClaimJoined
import GoSem.ClaimMapViews
import Derived.JoinedTies
import Derived.KernelRfl
namespace Go.Proofs.Ytahpdiojgdlmgaa
/- THE CELL 'sum', in the pinned program and in every row, IS THE sha256 OF THE DUMP (.gsa) THAT YtahpdiojgdlmgaaProg.lean LOADS. Nothing in Lean hashes anything: it is a label: what it is worth is what the hold of that sum in a sandbox is worth. -/
noncomputable def Try.pinned : Pinned := { name := "ytahpdiojgdlmgaa", sum := "4dee96af6bd2778da65453e459c4ad6fd0ffda8f2c0d201c0899ead5626d1a9d", checked := Try.checked }
namespace Rows
def none {H : Type} : Left H := { results := [], args := [] }

/-- 'nacellelaw30.PortTells': WHATEVER THE INPUT: true; the input reads as it did. -/
def portTellsSpec : ChangeSpec := { name := "portTells", fn := fun _ => fun
  | [d1, d2, d3, d4] => { results := [.lit (.bool true)], args := [d1, d2, d3, d4] }
  | _ => none }
def portTellsRow : OpenClaim := { program := "ytahpdiojgdlmgaa", sum := "4dee96af6bd2778da65453e459c4ad6fd0ffda8f2c0d201c0899ead5626d1a9d", func := "nacelle/nacellelaw30.PortTells", spec := "portTells", unfollowed := true, recurses := true, apart := false }
def PortTellsSaid : Prop := portTellsRow.holds Try.pinned (OpenSpec.ofChange portTellsSpec)

/-- ITS FALSE NEIGHBOUR: 'it returns false'. Refute it at one input. -/
def portTellsWrong : ChangeSpec := { name := "portTells", fn := fun _ => fun
  | [d1, d2, d3, d4] => { results := [.lit (.bool false)], args := [d1, d2, d3, d4] }
  | _ => none }
def PortTellsWrongFalsely : Prop := portTellsRow.holds Try.pinned (OpenSpec.ofChange portTellsWrong)

/-- 'nacellelaw30.PortOrder': WHATEVER THE INPUT: true; the input reads as it did. -/
def portOrderSpec : ChangeSpec := { name := "portOrder", fn := fun _ => fun
  | [d1, d2, d3, d4, d5] => { results := [.lit (.bool true)], args := [d1, d2, d3, d4, d5] }
  | _ => none }
def portOrderRow : OpenClaim := { program := "ytahpdiojgdlmgaa", sum := "4dee96af6bd2778da65453e459c4ad6fd0ffda8f2c0d201c0899ead5626d1a9d", func := "nacelle/nacellelaw30.PortOrder", spec := "portOrder", unfollowed := true, recurses := true, apart := false }
def PortOrderSaid : Prop := portOrderRow.holds Try.pinned (OpenSpec.ofChange portOrderSpec)

/-- ITS FALSE NEIGHBOUR: 'it returns false'. Refute it at one input. -/
def portOrderWrong : ChangeSpec := { name := "portOrder", fn := fun _ => fun
  | [d1, d2, d3, d4, d5] => { results := [.lit (.bool false)], args := [d1, d2, d3, d4, d5] }
  | _ => none }
def PortOrderWrongFalsely : Prop := portOrderRow.holds Try.pinned (OpenSpec.ofChange portOrderWrong)

/-- 'nacellelaw30.PortLater': WHATEVER THE INPUT: true; the input reads as it did. -/
def portLaterSpec : ChangeSpec := { name := "portLater", fn := fun _ => fun
  | [d1, d2, d3, d4, d5, d6] => { results := [.lit (.bool true)], args := [d1, d2, d3, d4, d5, d6] }
  | _ => none }
def portLaterRow : OpenClaim := { program := "ytahpdiojgdlmgaa", sum := "4dee96af6bd2778da65453e459c4ad6fd0ffda8f2c0d201c0899ead5626d1a9d", func := "nacelle/nacellelaw30.PortLater", spec := "portLater", unfollowed := true, recurses := true, apart := false }
def PortLaterSaid : Prop := portLaterRow.holds Try.pinned (OpenSpec.ofChange portLaterSpec)

/-- ITS FALSE NEIGHBOUR: 'it returns false'. Refute it at one input. -/
def portLaterWrong : ChangeSpec := { name := "portLater", fn := fun _ => fun
  | [d1, d2, d3, d4, d5, d6] => { results := [.lit (.bool false)], args := [d1, d2, d3, d4, d5, d6] }
  | _ => none }
def PortLaterWrongFalsely : Prop := portLaterRow.holds Try.pinned (OpenSpec.ofChange portLaterWrong)

/-- 'nacellelaw30.PortRefused': WHATEVER THE INPUT: true; the input reads as it did. -/
def portRefusedSpec : ChangeSpec := { name := "portRefused", fn := fun _ => fun
  | [d1, d2, d3, d4, d5, d6] => { results := [.lit (.bool true)], args := [d1, d2, d3, d4, d5, d6] }
  | _ => none }
def portRefusedRow : OpenClaim := { program := "ytahpdiojgdlmgaa", sum := "4dee96af6bd2778da65453e459c4ad6fd0ffda8f2c0d201c0899ead5626d1a9d", func := "nacelle/nacellelaw30.PortRefused", spec := "portRefused", unfollowed := true, recurses := true, apart := false }
def PortRefusedSaid : Prop := portRefusedRow.holds Try.pinned (OpenSpec.ofChange portRefusedSpec)

/-- ITS FALSE NEIGHBOUR: 'it returns false'. Refute it at one input. -/
def portRefusedWrong : ChangeSpec := { name := "portRefused", fn := fun _ => fun
  | [d1, d2, d3, d4, d5, d6] => { results := [.lit (.bool false)], args := [d1, d2, d3, d4, d5, d6] }
  | _ => none }
def PortRefusedWrongFalsely : Prop := portRefusedRow.holds Try.pinned (OpenSpec.ofChange portRefusedWrong)

/-- 'nacellelaw30.PortNone': WHATEVER THE INPUT: true; the input reads as it did. -/
def portNoneSpec : ChangeSpec := { name := "portNone", fn := fun _ => fun
  | [d1, d2, d3] => { results := [.lit (.bool true)], args := [d1, d2, d3] }
  | _ => none }
def portNoneRow : OpenClaim := { program := "ytahpdiojgdlmgaa", sum := "4dee96af6bd2778da65453e459c4ad6fd0ffda8f2c0d201c0899ead5626d1a9d", func := "nacelle/nacellelaw30.PortNone", spec := "portNone", unfollowed := true, recurses := true, apart := false }
def PortNoneSaid : Prop := portNoneRow.holds Try.pinned (OpenSpec.ofChange portNoneSpec)

/-- ITS FALSE NEIGHBOUR: 'it returns false'. Refute it at one input. -/
def portNoneWrong : ChangeSpec := { name := "portNone", fn := fun _ => fun
  | [d1, d2, d3] => { results := [.lit (.bool false)], args := [d1, d2, d3] }
  | _ => none }
def PortNoneWrongFalsely : Prop := portNoneRow.holds Try.pinned (OpenSpec.ofChange portNoneWrong)

/-- 'nacellelaw30.PortServes': WHATEVER THE INPUT: true; the input reads as it did. -/
def portServesSpec : ChangeSpec := { name := "portServes", fn := fun _ => fun
  | [d1, d2, d3, d4] => { results := [.lit (.bool true)], args := [d1, d2, d3, d4] }
  | _ => none }
def portServesRow : OpenClaim := { program := "ytahpdiojgdlmgaa", sum := "4dee96af6bd2778da65453e459c4ad6fd0ffda8f2c0d201c0899ead5626d1a9d", func := "nacelle/nacellelaw30.PortServes", spec := "portServes", unfollowed := true, recurses := true, apart := false }
def PortServesSaid : Prop := portServesRow.holds Try.pinned (OpenSpec.ofChange portServesSpec)

/-- ITS FALSE NEIGHBOUR: 'it returns false'. Refute it at one input. -/
def portServesWrong : ChangeSpec := { name := "portServes", fn := fun _ => fun
  | [d1, d2, d3, d4] => { results := [.lit (.bool false)], args := [d1, d2, d3, d4] }
  | _ => none }
def PortServesWrongFalsely : Prop := portServesRow.holds Try.pinned (OpenSpec.ofChange portServesWrong)

/- THE SECOND FORM. 'bulk': how many values and letters a reading holds, each counted each time it is reached (what is shared counts as often as it is met; a slice's spare places count too). A statement '..UptoSaid' is the law's where the arguments, and the package variables that the reading takes, are together of bulk at most 1048576: NARROWER than '..Said'. Prove '..Said' where nothing that the law and all that it calls make is longer than what came in: it says more and counts as full. Else prove '..UptoSaid'. A law counts once. -/
mutual
def uptoBulk {H : Type} : DataW H → Nat
  | .lit (.string bytes) => bytes.length + 1
  | .lit _ => 1
  | .nil => 1
  | .ptr d => uptoBulk d + 1
  | .slice elems spare => uptoBulkAll elems + uptoBulkAll spare + 1
  | .agg parts => uptoBulkAll parts + 1
  | .iface _ d => uptoBulk d + 1
  | .map entries => uptoBulkEntries entries + 1
  | .held _ => 1
def uptoBulkAll {H : Type} : List (DataW H) → Nat
  | [] => 0
  | d :: r => uptoBulk d + uptoBulkAll r
def uptoBulkEntries {H : Type} : List (Lit × DataW H) → Nat
  | [] => 0
  | x :: r => uptoBulkEntry x + uptoBulkEntries r
def uptoBulkEntry {H : Type} : Lit × DataW H → Nat
  | (.string bytes, d) => bytes.length + uptoBulk d + 1
  | (_, d) => uptoBulk d + 1
 end
def uptoSmall : (H : Type) → List (DataW H) → Bool := fun _ ds => decide (uptoBulkAll ds ≤ 1048576)
def OpenSpec.upto (s : _root_.Go.ChangeSpec) : _root_.Go.OpenSpec := { _root_.Go.OpenSpec.ofChange s with cond := some uptoSmall }

/-- 'nacellelaw30.PortTells', WHERE WHAT IT READS IS OF BULK AT MOST 1048576: true; the input reads as it did. -/
def portTellsUptoRow : OpenClaim := { program := "ytahpdiojgdlmgaa", sum := "4dee96af6bd2778da65453e459c4ad6fd0ffda8f2c0d201c0899ead5626d1a9d", func := "nacelle/nacellelaw30.PortTells", spec := "portTells", unfollowed := true, recurses := true, apart := false, narrowed := true }
def PortTellsUptoSaid : Prop := portTellsUptoRow.holds Try.pinned (OpenSpec.upto portTellsSpec)

/-- 'nacellelaw30.PortOrder', WHERE WHAT IT READS IS OF BULK AT MOST 1048576: true; the input reads as it did. -/
def portOrderUptoRow : OpenClaim := { program := "ytahpdiojgdlmgaa", sum := "4dee96af6bd2778da65453e459c4ad6fd0ffda8f2c0d201c0899ead5626d1a9d", func := "nacelle/nacellelaw30.PortOrder", spec := "portOrder", unfollowed := true, recurses := true, apart := false, narrowed := true }
def PortOrderUptoSaid : Prop := portOrderUptoRow.holds Try.pinned (OpenSpec.upto portOrderSpec)

/-- 'nacellelaw30.PortLater', WHERE WHAT IT READS IS OF BULK AT MOST 1048576: true; the input reads as it did. -/
def portLaterUptoRow : OpenClaim := { program := "ytahpdiojgdlmgaa", sum := "4dee96af6bd2778da65453e459c4ad6fd0ffda8f2c0d201c0899ead5626d1a9d", func := "nacelle/nacellelaw30.PortLater", spec := "portLater", unfollowed := true, recurses := true, apart := false, narrowed := true }
def PortLaterUptoSaid : Prop := portLaterUptoRow.holds Try.pinned (OpenSpec.upto portLaterSpec)

/-- 'nacellelaw30.PortRefused', WHERE WHAT IT READS IS OF BULK AT MOST 1048576: true; the input reads as it did. -/
def portRefusedUptoRow : OpenClaim := { program := "ytahpdiojgdlmgaa", sum := "4dee96af6bd2778da65453e459c4ad6fd0ffda8f2c0d201c0899ead5626d1a9d", func := "nacelle/nacellelaw30.PortRefused", spec := "portRefused", unfollowed := true, recurses := true, apart := false, narrowed := true }
def PortRefusedUptoSaid : Prop := portRefusedUptoRow.holds Try.pinned (OpenSpec.upto portRefusedSpec)

/-- 'nacellelaw30.PortNone', WHERE WHAT IT READS IS OF BULK AT MOST 1048576: true; the input reads as it did. -/
def portNoneUptoRow : OpenClaim := { program := "ytahpdiojgdlmgaa", sum := "4dee96af6bd2778da65453e459c4ad6fd0ffda8f2c0d201c0899ead5626d1a9d", func := "nacelle/nacellelaw30.PortNone", spec := "portNone", unfollowed := true, recurses := true, apart := false, narrowed := true }
def PortNoneUptoSaid : Prop := portNoneUptoRow.holds Try.pinned (OpenSpec.upto portNoneSpec)

/-- 'nacellelaw30.PortServes', WHERE WHAT IT READS IS OF BULK AT MOST 1048576: true; the input reads as it did. -/
def portServesUptoRow : OpenClaim := { program := "ytahpdiojgdlmgaa", sum := "4dee96af6bd2778da65453e459c4ad6fd0ffda8f2c0d201c0899ead5626d1a9d", func := "nacelle/nacellelaw30.PortServes", spec := "portServes", unfollowed := true, recurses := true, apart := false, narrowed := true }
def PortServesUptoSaid : Prop := portServesUptoRow.holds Try.pinned (OpenSpec.upto portServesSpec)

end Rows
end Go.Proofs.Ytahpdiojgdlmgaa
