/-
  No cell of these rows narrows 'for every input' (looked for: loops, veiled, ifaces, maps, wideKeys, modest, calm, conditions, laid).
  DERIVED. THE GIVEN ROWS OF THIS SEAT. 7 by the template 'for every input the law returns true; each argument reads behind the call as it read before'; 0 by the template 'total and deterministic' (their statements: YtinchjigeakocaaTotals.lean).
  GIVEN WITH THE SEED: the statements are not yours to turn. If you find one false, say at which input.
  Laid BY PROGRAM, IN A SANDBOX (cutbox-rows.mjs): the forced cells as the released guide's own fill.sh prints them over the translation 890fd966a594032f… (all of the seat's roots in one cut). By AI agents, Wed Nov 11 2026. No macro, syntax, notation, axiom, sorry.
-/
import Derived.Test.YtinchjigeakocaaChecked
import GoSem.Claim
import GoSem.ClaimJoined
import GoSem.ClaimMapViews
import Derived.JoinedTies
import Derived.KernelRfl
namespace Go.Proofs.Ytinchjigeakocaa
/- THE CELL 'sum', in the pinned program and in every row, IS THE sha256 OF THE DUMP (.gsa) THAT YtinchjigeakocaaProg.lean LOADS. Nothing in Lean hashes anything: it is a label: what it is worth is what the hold of that sum in a sandbox is worth. -/
noncomputable def Try.pinned : Pinned := { name := "ytinchjigeakocaa", sum := "890fd966a594032ff4ad4865994131a38a0b76b59cb8f8a047877bd7d46a1298", checked := Try.checked }
namespace Rows
def none {H : Type} : Left H := { results := [], args := [] }

/-- 'nacellelaw31.NetworkTells': WHATEVER THE INPUT: true; the input reads as it did. -/
def networkTellsSpec : ChangeSpec := { name := "networkTells", fn := fun _ => fun
  | [d1, d2, d3, d4, d5] => { results := [.lit (.bool true)], args := [d1, d2, d3, d4, d5] }
  | _ => none }
def networkTellsRow : OpenClaim := { program := "ytinchjigeakocaa", sum := "890fd966a594032ff4ad4865994131a38a0b76b59cb8f8a047877bd7d46a1298", func := "nacelle/nacellelaw31.NetworkTells", spec := "networkTells", unfollowed := true, recurses := true, plainKeys := false, apart := false }
def NetworkTellsSaid : Prop := networkTellsRow.holds Try.pinned (OpenSpec.ofChange networkTellsSpec)

/-- ITS FALSE NEIGHBOUR: 'it returns false'. Refute it at one input. -/
def networkTellsWrong : ChangeSpec := { name := "networkTells", fn := fun _ => fun
  | [d1, d2, d3, d4, d5] => { results := [.lit (.bool false)], args := [d1, d2, d3, d4, d5] }
  | _ => none }
def NetworkTellsWrongFalsely : Prop := networkTellsRow.holds Try.pinned (OpenSpec.ofChange networkTellsWrong)

/-- 'nacellelaw31.NetworkOnce': WHATEVER THE INPUT: true; the input reads as it did. -/
def networkOnceSpec : ChangeSpec := { name := "networkOnce", fn := fun _ => fun
  | [d1, d2, d3, d4] => { results := [.lit (.bool true)], args := [d1, d2, d3, d4] }
  | _ => none }
def networkOnceRow : OpenClaim := { program := "ytinchjigeakocaa", sum := "890fd966a594032ff4ad4865994131a38a0b76b59cb8f8a047877bd7d46a1298", func := "nacelle/nacellelaw31.NetworkOnce", spec := "networkOnce", unfollowed := true, recurses := true, plainKeys := false, apart := false }
def NetworkOnceSaid : Prop := networkOnceRow.holds Try.pinned (OpenSpec.ofChange networkOnceSpec)

/-- ITS FALSE NEIGHBOUR: 'it returns false'. Refute it at one input. -/
def networkOnceWrong : ChangeSpec := { name := "networkOnce", fn := fun _ => fun
  | [d1, d2, d3, d4] => { results := [.lit (.bool false)], args := [d1, d2, d3, d4] }
  | _ => none }
def NetworkOnceWrongFalsely : Prop := networkOnceRow.holds Try.pinned (OpenSpec.ofChange networkOnceWrong)

/-- 'nacellelaw31.NetworkOrder': WHATEVER THE INPUT: true; the input reads as it did. -/
def networkOrderSpec : ChangeSpec := { name := "networkOrder", fn := fun _ => fun
  | [d1, d2, d3, d4] => { results := [.lit (.bool true)], args := [d1, d2, d3, d4] }
  | _ => none }
def networkOrderRow : OpenClaim := { program := "ytinchjigeakocaa", sum := "890fd966a594032ff4ad4865994131a38a0b76b59cb8f8a047877bd7d46a1298", func := "nacelle/nacellelaw31.NetworkOrder", spec := "networkOrder", unfollowed := true, recurses := true, plainKeys := false, apart := false }
def NetworkOrderSaid : Prop := networkOrderRow.holds Try.pinned (OpenSpec.ofChange networkOrderSpec)

/-- ITS FALSE NEIGHBOUR: 'it returns false'. Refute it at one input. -/
def networkOrderWrong : ChangeSpec := { name := "networkOrder", fn := fun _ => fun
  | [d1, d2, d3, d4] => { results := [.lit (.bool false)], args := [d1, d2, d3, d4] }
  | _ => none }
def NetworkOrderWrongFalsely : Prop := networkOrderRow.holds Try.pinned (OpenSpec.ofChange networkOrderWrong)

/-- 'nacellelaw31.NetworkApart': WHATEVER THE INPUT: true; the input reads as it did. -/
def networkApartSpec : ChangeSpec := { name := "networkApart", fn := fun _ => fun
  | [d1, d2, d3, d4, d5] => { results := [.lit (.bool true)], args := [d1, d2, d3, d4, d5] }
  | _ => none }
def networkApartRow : OpenClaim := { program := "ytinchjigeakocaa", sum := "890fd966a594032ff4ad4865994131a38a0b76b59cb8f8a047877bd7d46a1298", func := "nacelle/nacellelaw31.NetworkApart", spec := "networkApart", unfollowed := true, recurses := true, plainKeys := false, apart := false }
def NetworkApartSaid : Prop := networkApartRow.holds Try.pinned (OpenSpec.ofChange networkApartSpec)

/-- ITS FALSE NEIGHBOUR: 'it returns false'. Refute it at one input. -/
def networkApartWrong : ChangeSpec := { name := "networkApart", fn := fun _ => fun
  | [d1, d2, d3, d4, d5] => { results := [.lit (.bool false)], args := [d1, d2, d3, d4, d5] }
  | _ => none }
def NetworkApartWrongFalsely : Prop := networkApartRow.holds Try.pinned (OpenSpec.ofChange networkApartWrong)

/-- 'nacellelaw31.NetworkLater': WHATEVER THE INPUT: true; the input reads as it did. -/
def networkLaterSpec : ChangeSpec := { name := "networkLater", fn := fun _ => fun
  | [d1, d2, d3, d4, d5] => { results := [.lit (.bool true)], args := [d1, d2, d3, d4, d5] }
  | _ => none }
def networkLaterRow : OpenClaim := { program := "ytinchjigeakocaa", sum := "890fd966a594032ff4ad4865994131a38a0b76b59cb8f8a047877bd7d46a1298", func := "nacelle/nacellelaw31.NetworkLater", spec := "networkLater", unfollowed := true, recurses := true, plainKeys := false, apart := false }
def NetworkLaterSaid : Prop := networkLaterRow.holds Try.pinned (OpenSpec.ofChange networkLaterSpec)

/-- ITS FALSE NEIGHBOUR: 'it returns false'. Refute it at one input. -/
def networkLaterWrong : ChangeSpec := { name := "networkLater", fn := fun _ => fun
  | [d1, d2, d3, d4, d5] => { results := [.lit (.bool false)], args := [d1, d2, d3, d4, d5] }
  | _ => none }
def NetworkLaterWrongFalsely : Prop := networkLaterRow.holds Try.pinned (OpenSpec.ofChange networkLaterWrong)

/-- 'nacellelaw31.NetworkStores': WHATEVER THE INPUT: true; the input reads as it did. -/
def networkStoresSpec : ChangeSpec := { name := "networkStores", fn := fun _ => fun
  | [d1, d2, d3, d4] => { results := [.lit (.bool true)], args := [d1, d2, d3, d4] }
  | _ => none }
def networkStoresRow : OpenClaim := { program := "ytinchjigeakocaa", sum := "890fd966a594032ff4ad4865994131a38a0b76b59cb8f8a047877bd7d46a1298", func := "nacelle/nacellelaw31.NetworkStores", spec := "networkStores", unfollowed := true, recurses := true, plainKeys := false, apart := false }
def NetworkStoresSaid : Prop := networkStoresRow.holds Try.pinned (OpenSpec.ofChange networkStoresSpec)

/-- ITS FALSE NEIGHBOUR: 'it returns false'. Refute it at one input. -/
def networkStoresWrong : ChangeSpec := { name := "networkStores", fn := fun _ => fun
  | [d1, d2, d3, d4] => { results := [.lit (.bool false)], args := [d1, d2, d3, d4] }
  | _ => none }
def NetworkStoresWrongFalsely : Prop := networkStoresRow.holds Try.pinned (OpenSpec.ofChange networkStoresWrong)

/-- 'nacellelaw31.NetworkWrong': WHATEVER THE INPUT: true; the input reads as it did. -/
def networkWrongSpec : ChangeSpec := { name := "networkWrong", fn := fun _ => fun
  | [d1, d2, d3, d4, d5, d6] => { results := [.lit (.bool true)], args := [d1, d2, d3, d4, d5, d6] }
  | _ => none }
def networkWrongRow : OpenClaim := { program := "ytinchjigeakocaa", sum := "890fd966a594032ff4ad4865994131a38a0b76b59cb8f8a047877bd7d46a1298", func := "nacelle/nacellelaw31.NetworkWrong", spec := "networkWrong", unfollowed := true, recurses := true, plainKeys := false, apart := false }
def NetworkWrongSaid : Prop := networkWrongRow.holds Try.pinned (OpenSpec.ofChange networkWrongSpec)

/-- ITS FALSE NEIGHBOUR: 'it returns false'. Refute it at one input. -/
def networkWrongWrong : ChangeSpec := { name := "networkWrong", fn := fun _ => fun
  | [d1, d2, d3, d4, d5, d6] => { results := [.lit (.bool false)], args := [d1, d2, d3, d4, d5, d6] }
  | _ => none }
def NetworkWrongWrongFalsely : Prop := networkWrongRow.holds Try.pinned (OpenSpec.ofChange networkWrongWrong)

/- THE SECOND FORM. 'bulk': how many values and letters a reading holds, each counted each time it is reached (what is shared counts as often as it is met; a slice's spare places count too). A statement '..UptoSaid' is the law's where the arguments, and the package variables that the reading takes, are together of bulk at most 1048576: NARROWER than '..Said'. Prove '..Said' where nothing that the law and all that it calls make is longer than what came in: it says more and counts as full. Else prove '..UptoSaid'. A law counts once. -/
mutual
def uptoBulk {H : Type} : DataW H → Nat
  | .lit (.string bytes) => bytes.length + 1
  | .lit _ => 1
  | .nil => 1
  | .ptr d => uptoBulk d + 1
  | .slice elems spare => uptoBulkAll elems + uptoBulkAll spare + 1
  | .agg parts => uptoBulkAll parts + 1
  | .iface _ d => uptoBulk d + 1
  | .map entries => uptoBulkEntries entries + 1
  | .held _ => 1
def uptoBulkAll {H : Type} : List (DataW H) → Nat
  | [] => 0
  | d :: r => uptoBulk d + uptoBulkAll r
def uptoBulkEntries {H : Type} : List (Lit × DataW H) → Nat
  | [] => 0
  | x :: r => uptoBulkEntry x + uptoBulkEntries r
def uptoBulkEntry {H : Type} : Lit × DataW H → Nat
  | (.string bytes, d) => bytes.length + uptoBulk d + 1
  | (_, d) => uptoBulk d + 1
 end
def uptoSmall : (H : Type) → List (DataW H) → Bool := fun _ ds => decide (uptoBulkAll ds ≤ 1048576)
def OpenSpec.upto (s : _root_.Go.ChangeSpec) : _root_.Go.OpenSpec := { _root_.Go.OpenSpec.ofChange s with cond := some uptoSmall }

/-- 'nacellelaw31.NetworkTells', WHERE WHAT IT READS IS OF BULK AT MOST 1048576: true; the input reads as it did. -/
def networkTellsUptoRow : OpenClaim := { program := "ytinchjigeakocaa", sum := "890fd966a594032ff4ad4865994131a38a0b76b59cb8f8a047877bd7d46a1298", func := "nacelle/nacellelaw31.NetworkTells", spec := "networkTells", unfollowed := true, recurses := true, plainKeys := false, apart := false, narrowed := true }
def NetworkTellsUptoSaid : Prop := networkTellsUptoRow.holds Try.pinned (OpenSpec.upto networkTellsSpec)

/-- 'nacellelaw31.NetworkOnce', WHERE WHAT IT READS IS OF BULK AT MOST 1048576: true; the input reads as it did. -/
def networkOnceUptoRow : OpenClaim := { program := "ytinchjigeakocaa", sum := "890fd966a594032ff4ad4865994131a38a0b76b59cb8f8a047877bd7d46a1298", func := "nacelle/nacellelaw31.NetworkOnce", spec := "networkOnce", unfollowed := true, recurses := true, plainKeys := false, apart := false, narrowed := true }
def NetworkOnceUptoSaid : Prop := networkOnceUptoRow.holds Try.pinned (OpenSpec.upto networkOnceSpec)

/-- 'nacellelaw31.NetworkOrder', WHERE WHAT IT READS IS OF BULK AT MOST 1048576: true; the input reads as it did. -/
def networkOrderUptoRow : OpenClaim := { program := "ytinchjigeakocaa", sum := "890fd966a594032ff4ad4865994131a38a0b76b59cb8f8a047877bd7d46a1298", func := "nacelle/nacellelaw31.NetworkOrder", spec := "networkOrder", unfollowed := true, recurses := true, plainKeys := false, apart := false, narrowed := true }
def NetworkOrderUptoSaid : Prop := networkOrderUptoRow.holds Try.pinned (OpenSpec.upto networkOrderSpec)

/-- 'nacellelaw31.NetworkApart', WHERE WHAT IT READS IS OF BULK AT MOST 1048576: true; the input reads as it did. -/
def networkApartUptoRow : OpenClaim := { program := "ytinchjigeakocaa", sum := "890fd966a594032ff4ad4865994131a38a0b76b59cb8f8a047877bd7d46a1298", func := "nacelle/nacellelaw31.NetworkApart", spec := "networkApart", unfollowed := true, recurses := true, plainKeys := false, apart := false, narrowed := true }
def NetworkApartUptoSaid : Prop := networkApartUptoRow.holds Try.pinned (OpenSpec.upto networkApartSpec)

/-- 'nacellelaw31.NetworkLater', WHERE WHAT IT READS IS OF BULK AT MOST 1048576: true; the input reads as it did. -/
def networkLaterUptoRow : OpenClaim := { program := "ytinchjigeakocaa", sum := "890fd966a594032ff4ad4865994131a38a0b76b59cb8f8a047877bd7d46a1298", func := "nacelle/nacellelaw31.NetworkLater", spec := "networkLater", unfollowed := true, recurses := true, plainKeys := false, apart := false, narrowed := true }
def NetworkLaterUptoSaid : Prop := networkLaterUptoRow.holds Try.pinned (OpenSpec.upto networkLaterSpec)

/-- 'nacellelaw31.NetworkStores', WHERE WHAT IT READS IS OF BULK AT MOST 1048576: true; the input reads as it did. -/
def networkStoresUptoRow : OpenClaim := { program := "ytinchjigeakocaa", sum := "890fd966a594032ff4ad4865994131a38a0b76b59cb8f8a047877bd7d46a1298", func := "nacelle/nacellelaw31.NetworkStores", spec := "networkStores", unfollowed := true, recurses := true, plainKeys := false, apart := false, narrowed := true }
def NetworkStoresUptoSaid : Prop := networkStoresUptoRow.holds Try.pinned (OpenSpec.upto networkStoresSpec)

/-- 'nacellelaw31.NetworkWrong', WHERE WHAT IT READS IS OF BULK AT MOST 1048576: true; the input reads as it did. -/
def networkWrongUptoRow : OpenClaim := { program := "ytinchjigeakocaa", sum := "890fd966a594032ff4ad4865994131a38a0b76b59cb8f8a047877bd7d46a1298", func := "nacelle/nacellelaw31.NetworkWrong", spec := "networkWrong", unfollowed := true, recurses := true, plainKeys := false, apart := false, narrowed := true }
def NetworkWrongUptoSaid : Prop := networkWrongUptoRow.holds Try.pinned (OpenSpec.upto networkWrongSpec)

end Rows
end Go.Proofs.Ytinchjigeakocaa
