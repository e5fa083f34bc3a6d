/-
  NARROWER THAN 'FOR EVERY INPUT', by the rows' own cells (each row's printed sentence says how): ProcPaths: laid · ProcLeast: laid · ProcWork: laid · ProcLocal: laid · ProcLongest: laid · ProcPieces: laid.
  DERIVED. THE GIVEN ROWS OF THIS SEAT. 6 by the template 'for every input the law returns true; each argument reads behind the call as it read before'; 0 by the template 'total and deterministic' (their statements: YtjdnejbngloieaaDoorTotals.lean).
  GIVEN WITH THE SEED: the statements are not yours to turn. If you find one false, say at which input.
  Laid BY PROGRAM, IN A SANDBOX (cutbox-rows.mjs): the forced cells as the released guide's own fill.sh prints them over the translation 801ef9ea86e1b9d0… (all of the seat's roots in one cut). By AI agents, Wed Nov 11 2026. No macro, syntax, notation, axiom, sorry.
-/
import Derived.Test.YtjdnejbngloieaaDoorChecked
import GoSem.Claim
import GoSem.ClaimJoined
import GoSem.ClaimMapViews
import Derived.JoinedTies
import Derived.KernelRfl
namespace Go.Proofs.YtjdnejbngloieaaDoor
/- THE CELL 'sum', in the pinned program and in every row, IS THE sha256 OF THE DUMP (.gsa) THAT YtjdnejbngloieaaDoorProg.lean LOADS. Nothing in Lean hashes anything: it is a label: what it is worth is what the hold of that sum in a sandbox is worth. -/
noncomputable def Tryd.pinned : Pinned := { name := "ytjdnejbngloieaadoor", sum := "801ef9ea86e1b9d0dffb496398e645d72239fc4534be296efd55e95bf144661c", checked := Tryd.checked }
namespace Rows
def none {H : Type} : Left H := { results := [], args := [] }

/- WHAT THE LISTED PACKAGE-LEVEL VARIABLES READ AS WHEN THE CALL BEGINS. Each datum BY PROGRAM (the guide's laid-datum.mjs) off the statement by which the dump's own 'gosem.cut.vars' lays the variable. In a bare row this is a premise. The card (YtjdnejbngloieaaDoorCards.lean) ties it to the program's text. -/
def laid_nacelle_proc_operands {H : Type} : DataW H := .agg [.nil, .slice [.lit (.int .u8 1)] [], .slice [.lit (.int .u8 2), .lit (.int .u8 3)] [], .slice [.lit (.int .u8 2), .lit (.int .u8 2)] [], .slice [.lit (.int .u8 2), .lit (.int .u8 2)] [], .slice [.lit (.int .u8 2), .lit (.int .u8 4), .lit (.int .u8 2)] [], .slice [.lit (.int .u8 2), .lit (.int .u8 4), .lit (.int .u8 2)] [], .slice [.lit (.int .u8 6), .lit (.int .u8 2), .lit (.int .u8 5)] [], .slice [.lit (.int .u8 6), .lit (.int .u8 2), .lit (.int .u8 2)] [], .slice [.lit (.int .u8 6)] [], .slice [.lit (.int .u8 6)] [], .slice [.lit (.int .u8 6)] [], .slice [.lit (.int .u8 6)] [], .slice [.lit (.int .u8 6)] [], .slice [.lit (.int .u8 6), .lit (.int .u8 2)] [], .slice [.lit (.int .u8 6), .lit (.int .u8 2)] [], .slice [.lit (.int .u8 6), .lit (.int .u8 2)] [], .slice [.lit (.int .u8 6), .lit (.int .u8 2)] [], .slice [.lit (.int .u8 6)] [], .slice [] [], .slice [.lit (.int .u8 7)] [], .slice [.lit (.int .u8 2), .lit (.int .u8 7)] [], .slice [.lit (.int .u8 2), .lit (.int .u8 2), .lit (.int .u8 7)] [], .slice [.lit (.int .u8 2), .lit (.int .u8 2)] [], .slice [.lit (.int .u8 3)] [], .slice [] []]
def laid_nacelle_proc_instructions {H : Type} : DataW H := .iface "func table" (.agg [.nil, .iface "func" (.lit (.string [40, 42, 110, 97, 99, 101, 108, 108, 101, 47, 112, 114, 111, 99, 46, 101, 120, 101, 99, 117, 116, 105, 111, 110, 41, 46, 119, 111, 114, 107])), .iface "func" (.lit (.string [40, 42, 110, 97, 99, 101, 108, 108, 101, 47, 112, 114, 111, 99, 46, 101, 120, 101, 99, 117, 116, 105, 111, 110, 41, 46, 115, 101, 116])), .iface "func" (.lit (.string [40, 42, 110, 97, 99, 101, 108, 108, 101, 47, 112, 114, 111, 99, 46, 101, 120, 101, 99, 117, 116, 105, 111, 110, 41, 46, 97, 100, 100])), .iface "func" (.lit (.string [40, 42, 110, 97, 99, 101, 108, 108, 101, 47, 112, 114, 111, 99, 46, 101, 120, 101, 99, 117, 116, 105, 111, 110, 41, 46, 115, 117, 98])), .iface "func" (.lit (.string [40, 42, 110, 97, 99, 101, 108, 108, 101, 47, 112, 114, 111, 99, 46, 101, 120, 101, 99, 117, 116, 105, 111, 110, 41, 46, 108, 111, 97, 100])), .iface "func" (.lit (.string [40, 42, 110, 97, 99, 101, 108, 108, 101, 47, 112, 114, 111, 99, 46, 101, 120, 101, 99, 117, 116, 105, 111, 110, 41, 46, 115, 116, 111, 114, 101])), .iface "func" (.lit (.string [40, 42, 110, 97, 99, 101, 108, 108, 101, 47, 112, 114, 111, 99, 46, 101, 120, 101, 99, 117, 116, 105, 111, 110, 41, 46, 115, 101, 110, 100])), .iface "func" (.lit (.string [40, 42, 110, 97, 99, 101, 108, 108, 101, 47, 112, 114, 111, 99, 46, 101, 120, 101, 99, 117, 116, 105, 111, 110, 41, 46, 114, 101, 99, 118])), .iface "func" (.lit (.string [40, 42, 110, 97, 99, 101, 108, 108, 101, 47, 112, 114, 111, 99, 46, 101, 120, 101, 99, 117, 116, 105, 111, 110, 41, 46, 119, 97, 105, 116])), .iface "func" (.lit (.string [40, 42, 110, 97, 99, 101, 108, 108, 101, 47, 112, 114, 111, 99, 46, 101, 120, 101, 99, 117, 116, 105, 111, 110, 41, 46, 115, 105, 103, 110, 97, 108])), .iface "func" (.lit (.string [40, 42, 110, 97, 99, 101, 108, 108, 101, 47, 112, 114, 111, 99, 46, 101, 120, 101, 99, 117, 116, 105, 111, 110, 41, 46, 114, 97, 105, 115, 101])), .iface "func" (.lit (.string [40, 42, 110, 97, 99, 101, 108, 108, 101, 47, 112, 114, 111, 99, 46, 101, 120, 101, 99, 117, 116, 105, 111, 110, 41, 46, 108, 111, 119, 101, 114])), .iface "func" (.lit (.string [40, 42, 110, 97, 99, 101, 108, 108, 101, 47, 112, 114, 111, 99, 46, 101, 120, 101, 99, 117, 116, 105, 111, 110, 41, 46, 117, 110, 116, 105, 108])), .iface "func" (.lit (.string [40, 42, 110, 97, 99, 101, 108, 108, 101, 47, 112, 114, 111, 99, 46, 101, 120, 101, 99, 117, 116, 105, 111, 110, 41, 46, 112, 117, 116])), .iface "func" (.lit (.string [40, 42, 110, 97, 99, 101, 108, 108, 101, 47, 112, 114, 111, 99, 46, 101, 120, 101, 99, 117, 116, 105, 111, 110, 41, 46, 103, 101, 116])), .iface "func" (.lit (.string [40, 42, 110, 97, 99, 101, 108, 108, 101, 47, 112, 114, 111, 99, 46, 101, 120, 101, 99, 117, 116, 105, 111, 110, 41, 46, 115, 104, 111, 119])), .iface "func" (.lit (.string [40, 42, 110, 97, 99, 101, 108, 108, 101, 47, 112, 114, 111, 99, 46, 101, 120, 101, 99, 117, 116, 105, 111, 110, 41, 46, 108, 111, 111, 107])), .iface "func" (.lit (.string [40, 42, 110, 97, 99, 101, 108, 108, 101, 47, 112, 114, 111, 99, 46, 101, 120, 101, 99, 117, 116, 105, 111, 110, 41, 46, 99, 108, 101, 97, 114])), .iface "func" (.lit (.string [40, 42, 110, 97, 99, 101, 108, 108, 101, 47, 112, 114, 111, 99, 46, 101, 120, 101, 99, 117, 116, 105, 111, 110, 41, 46, 110, 101, 120, 116])), .iface "func" (.lit (.string [40, 42, 110, 97, 99, 101, 108, 108, 101, 47, 112, 114, 111, 99, 46, 101, 120, 101, 99, 117, 116, 105, 111, 110, 41, 46, 106, 117, 109, 112])), .iface "func" (.lit (.string [40, 42, 110, 97, 99, 101, 108, 108, 101, 47, 112, 114, 111, 99, 46, 101, 120, 101, 99, 117, 116, 105, 111, 110, 41, 46, 122, 101, 114, 111])), .iface "func" (.lit (.string [40, 42, 110, 97, 99, 101, 108, 108, 101, 47, 112, 114, 111, 99, 46, 101, 120, 101, 99, 117, 116, 105, 111, 110, 41, 46, 108, 101, 115, 115])), .iface "func" (.lit (.string [40, 42, 110, 97, 99, 101, 108, 108, 101, 47, 112, 114, 111, 99, 46, 101, 120, 101, 99, 117, 116, 105, 111, 110, 41, 46, 100, 105, 118])), .iface "func" (.lit (.string [40, 42, 110, 97, 99, 101, 108, 108, 101, 47, 112, 114, 111, 99, 46, 101, 120, 101, 99, 117, 116, 105, 111, 110, 41, 46, 102, 97, 117, 108, 116])), .iface "func" (.lit (.string [40, 42, 110, 97, 99, 101, 108, 108, 101, 47, 112, 114, 111, 99, 46, 101, 120, 101, 99, 117, 116, 105, 111, 110, 41, 46, 115, 116, 111, 112]))])

/-- 'nacellelaw26.ProcPaths': WHATEVER THE INPUT: true; the input reads as it did. -/
def procPathsSpec : ChangeSpec := { name := "procPaths", fn := fun _ => fun
  | [d1, d2] => { results := [.lit (.bool true)], args := [d1, d2] }
  | _ => none }
def procPathsRow : OpenClaim := { program := "ytjdnejbngloieaadoor", sum := "801ef9ea86e1b9d0dffb496398e645d72239fc4534be296efd55e95bf144661c", func := "nacelle/nacellelaw26.ProcPaths", spec := "procPaths", unfollowed := true, recurses := true, named := ["nacelle/proc.instructions", "nacelle/proc.operands"], apart := false, laid := [("nacelle/proc.operands", laid_nacelle_proc_operands), ("nacelle/proc.instructions", laid_nacelle_proc_instructions)] }
def ProcPathsSaid : Prop := procPathsRow.holds Tryd.pinned (OpenSpec.ofChange procPathsSpec)

/-- ITS FALSE NEIGHBOUR: 'it returns false'. Refute it at one input. -/
def procPathsWrong : ChangeSpec := { name := "procPaths", fn := fun _ => fun
  | [d1, d2] => { results := [.lit (.bool false)], args := [d1, d2] }
  | _ => none }
def ProcPathsWrongFalsely : Prop := procPathsRow.holds Tryd.pinned (OpenSpec.ofChange procPathsWrong)

/-- 'nacellelaw26.ProcLeast': WHATEVER THE INPUT: true; the input reads as it did. -/
def procLeastSpec : ChangeSpec := { name := "procLeast", fn := fun _ => fun
  | [d1, d2] => { results := [.lit (.bool true)], args := [d1, d2] }
  | _ => none }
def procLeastRow : OpenClaim := { program := "ytjdnejbngloieaadoor", sum := "801ef9ea86e1b9d0dffb496398e645d72239fc4534be296efd55e95bf144661c", func := "nacelle/nacellelaw26.ProcLeast", spec := "procLeast", unfollowed := true, recurses := true, named := ["nacelle/proc.instructions", "nacelle/proc.operands"], apart := false, laid := [("nacelle/proc.operands", laid_nacelle_proc_operands), ("nacelle/proc.instructions", laid_nacelle_proc_instructions)] }
def ProcLeastSaid : Prop := procLeastRow.holds Tryd.pinned (OpenSpec.ofChange procLeastSpec)

/-- ITS FALSE NEIGHBOUR: 'it returns false'. Refute it at one input. -/
def procLeastWrong : ChangeSpec := { name := "procLeast", fn := fun _ => fun
  | [d1, d2] => { results := [.lit (.bool false)], args := [d1, d2] }
  | _ => none }
def ProcLeastWrongFalsely : Prop := procLeastRow.holds Tryd.pinned (OpenSpec.ofChange procLeastWrong)

/-- 'nacellelaw26.ProcWork': WHATEVER THE INPUT: true; the input reads as it did. -/
def procWorkSpec : ChangeSpec := { name := "procWork", fn := fun _ => fun
  | [d1, d2, d3] => { results := [.lit (.bool true)], args := [d1, d2, d3] }
  | _ => none }
def procWorkRow : OpenClaim := { program := "ytjdnejbngloieaadoor", sum := "801ef9ea86e1b9d0dffb496398e645d72239fc4534be296efd55e95bf144661c", func := "nacelle/nacellelaw26.ProcWork", spec := "procWork", unfollowed := true, recurses := true, named := ["nacelle/proc.instructions", "nacelle/proc.operands"], apart := false, laid := [("nacelle/proc.operands", laid_nacelle_proc_operands), ("nacelle/proc.instructions", laid_nacelle_proc_instructions)] }
def ProcWorkSaid : Prop := procWorkRow.holds Tryd.pinned (OpenSpec.ofChange procWorkSpec)

/-- ITS FALSE NEIGHBOUR: 'it returns false'. Refute it at one input. -/
def procWorkWrong : ChangeSpec := { name := "procWork", fn := fun _ => fun
  | [d1, d2, d3] => { results := [.lit (.bool false)], args := [d1, d2, d3] }
  | _ => none }
def ProcWorkWrongFalsely : Prop := procWorkRow.holds Tryd.pinned (OpenSpec.ofChange procWorkWrong)

/-- 'nacellelaw26.ProcLocal': WHATEVER THE INPUT: true; the input reads as it did. -/
def procLocalSpec : ChangeSpec := { name := "procLocal", fn := fun _ => fun
  | [d1, d2, d3] => { results := [.lit (.bool true)], args := [d1, d2, d3] }
  | _ => none }
def procLocalRow : OpenClaim := { program := "ytjdnejbngloieaadoor", sum := "801ef9ea86e1b9d0dffb496398e645d72239fc4534be296efd55e95bf144661c", func := "nacelle/nacellelaw26.ProcLocal", spec := "procLocal", unfollowed := true, recurses := true, named := ["nacelle/proc.instructions", "nacelle/proc.operands"], apart := false, laid := [("nacelle/proc.operands", laid_nacelle_proc_operands), ("nacelle/proc.instructions", laid_nacelle_proc_instructions)] }
def ProcLocalSaid : Prop := procLocalRow.holds Tryd.pinned (OpenSpec.ofChange procLocalSpec)

/-- ITS FALSE NEIGHBOUR: 'it returns false'. Refute it at one input. -/
def procLocalWrong : ChangeSpec := { name := "procLocal", fn := fun _ => fun
  | [d1, d2, d3] => { results := [.lit (.bool false)], args := [d1, d2, d3] }
  | _ => none }
def ProcLocalWrongFalsely : Prop := procLocalRow.holds Tryd.pinned (OpenSpec.ofChange procLocalWrong)

/-- 'nacellelaw26.ProcLongest': WHATEVER THE INPUT: true; the input reads as it did. -/
def procLongestSpec : ChangeSpec := { name := "procLongest", fn := fun _ => fun
  | [d1, d2, d3, d4, d5] => { results := [.lit (.bool true)], args := [d1, d2, d3, d4, d5] }
  | _ => none }
def procLongestRow : OpenClaim := { program := "ytjdnejbngloieaadoor", sum := "801ef9ea86e1b9d0dffb496398e645d72239fc4534be296efd55e95bf144661c", func := "nacelle/nacellelaw26.ProcLongest", spec := "procLongest", unfollowed := true, recurses := true, named := ["nacelle/proc.instructions", "nacelle/proc.operands"], apart := false, laid := [("nacelle/proc.operands", laid_nacelle_proc_operands), ("nacelle/proc.instructions", laid_nacelle_proc_instructions)] }
def ProcLongestSaid : Prop := procLongestRow.holds Tryd.pinned (OpenSpec.ofChange procLongestSpec)

/-- ITS FALSE NEIGHBOUR: 'it returns false'. Refute it at one input. -/
def procLongestWrong : ChangeSpec := { name := "procLongest", fn := fun _ => fun
  | [d1, d2, d3, d4, d5] => { results := [.lit (.bool false)], args := [d1, d2, d3, d4, d5] }
  | _ => none }
def ProcLongestWrongFalsely : Prop := procLongestRow.holds Tryd.pinned (OpenSpec.ofChange procLongestWrong)

/-- 'nacellelaw26.ProcPieces': WHATEVER THE INPUT: true; the input reads as it did. -/
def procPiecesSpec : ChangeSpec := { name := "procPieces", fn := fun _ => fun
  | [d1, d2, d3, d4, d5] => { results := [.lit (.bool true)], args := [d1, d2, d3, d4, d5] }
  | _ => none }
def procPiecesRow : OpenClaim := { program := "ytjdnejbngloieaadoor", sum := "801ef9ea86e1b9d0dffb496398e645d72239fc4534be296efd55e95bf144661c", func := "nacelle/nacellelaw26.ProcPieces", spec := "procPieces", unfollowed := true, recurses := true, named := ["nacelle/proc.instructions", "nacelle/proc.operands"], apart := false, laid := [("nacelle/proc.operands", laid_nacelle_proc_operands), ("nacelle/proc.instructions", laid_nacelle_proc_instructions)] }
def ProcPiecesSaid : Prop := procPiecesRow.holds Tryd.pinned (OpenSpec.ofChange procPiecesSpec)

/-- ITS FALSE NEIGHBOUR: 'it returns false'. Refute it at one input. -/
def procPiecesWrong : ChangeSpec := { name := "procPieces", fn := fun _ => fun
  | [d1, d2, d3, d4, d5] => { results := [.lit (.bool false)], args := [d1, d2, d3, d4, d5] }
  | _ => none }
def ProcPiecesWrongFalsely : Prop := procPiecesRow.holds Tryd.pinned (OpenSpec.ofChange procPiecesWrong)

/- THE SECOND FORM. 'bulk': how many values and letters a reading holds, each counted each time it is reached (what is shared counts as often as it is met; a slice's spare places count too). A statement '..UptoSaid' is the law's where the arguments, and the package variables that the reading takes, are together of bulk at most 1048576: NARROWER than '..Said'. Prove '..Said' where nothing that the law and all that it calls make is longer than what came in: it says more and counts as full. Else prove '..UptoSaid'. A law counts once. -/
mutual
def uptoBulk {H : Type} : DataW H → Nat
  | .lit (.string bytes) => bytes.length + 1
  | .lit _ => 1
  | .nil => 1
  | .ptr d => uptoBulk d + 1
  | .slice elems spare => uptoBulkAll elems + uptoBulkAll spare + 1
  | .agg parts => uptoBulkAll parts + 1
  | .iface _ d => uptoBulk d + 1
  | .map entries => uptoBulkEntries entries + 1
  | .held _ => 1
def uptoBulkAll {H : Type} : List (DataW H) → Nat
  | [] => 0
  | d :: r => uptoBulk d + uptoBulkAll r
def uptoBulkEntries {H : Type} : List (Lit × DataW H) → Nat
  | [] => 0
  | x :: r => uptoBulkEntry x + uptoBulkEntries r
def uptoBulkEntry {H : Type} : Lit × DataW H → Nat
  | (.string bytes, d) => bytes.length + uptoBulk d + 1
  | (_, d) => uptoBulk d + 1
 end
def uptoSmall : (H : Type) → List (DataW H) → Bool := fun _ ds => decide (uptoBulkAll ds ≤ 1048576)
def OpenSpec.upto (s : _root_.Go.ChangeSpec) : _root_.Go.OpenSpec := { _root_.Go.OpenSpec.ofChange s with cond := some uptoSmall }

/-- 'nacellelaw26.ProcPaths', WHERE WHAT IT READS IS OF BULK AT MOST 1048576: true; the input reads as it did. -/
def procPathsUptoRow : OpenClaim := { program := "ytjdnejbngloieaadoor", sum := "801ef9ea86e1b9d0dffb496398e645d72239fc4534be296efd55e95bf144661c", func := "nacelle/nacellelaw26.ProcPaths", spec := "procPaths", unfollowed := true, recurses := true, named := ["nacelle/proc.instructions", "nacelle/proc.operands"], apart := false, laid := [("nacelle/proc.operands", laid_nacelle_proc_operands), ("nacelle/proc.instructions", laid_nacelle_proc_instructions)], narrowed := true }
def ProcPathsUptoSaid : Prop := procPathsUptoRow.holds Tryd.pinned (OpenSpec.upto procPathsSpec)

/-- 'nacellelaw26.ProcLeast', WHERE WHAT IT READS IS OF BULK AT MOST 1048576: true; the input reads as it did. -/
def procLeastUptoRow : OpenClaim := { program := "ytjdnejbngloieaadoor", sum := "801ef9ea86e1b9d0dffb496398e645d72239fc4534be296efd55e95bf144661c", func := "nacelle/nacellelaw26.ProcLeast", spec := "procLeast", unfollowed := true, recurses := true, named := ["nacelle/proc.instructions", "nacelle/proc.operands"], apart := false, laid := [("nacelle/proc.operands", laid_nacelle_proc_operands), ("nacelle/proc.instructions", laid_nacelle_proc_instructions)], narrowed := true }
def ProcLeastUptoSaid : Prop := procLeastUptoRow.holds Tryd.pinned (OpenSpec.upto procLeastSpec)

/-- 'nacellelaw26.ProcWork', WHERE WHAT IT READS IS OF BULK AT MOST 1048576: true; the input reads as it did. -/
def procWorkUptoRow : OpenClaim := { program := "ytjdnejbngloieaadoor", sum := "801ef9ea86e1b9d0dffb496398e645d72239fc4534be296efd55e95bf144661c", func := "nacelle/nacellelaw26.ProcWork", spec := "procWork", unfollowed := true, recurses := true, named := ["nacelle/proc.instructions", "nacelle/proc.operands"], apart := false, laid := [("nacelle/proc.operands", laid_nacelle_proc_operands), ("nacelle/proc.instructions", laid_nacelle_proc_instructions)], narrowed := true }
def ProcWorkUptoSaid : Prop := procWorkUptoRow.holds Tryd.pinned (OpenSpec.upto procWorkSpec)

/-- 'nacellelaw26.ProcLocal', WHERE WHAT IT READS IS OF BULK AT MOST 1048576: true; the input reads as it did. -/
def procLocalUptoRow : OpenClaim := { program := "ytjdnejbngloieaadoor", sum := "801ef9ea86e1b9d0dffb496398e645d72239fc4534be296efd55e95bf144661c", func := "nacelle/nacellelaw26.ProcLocal", spec := "procLocal", unfollowed := true, recurses := true, named := ["nacelle/proc.instructions", "nacelle/proc.operands"], apart := false, laid := [("nacelle/proc.operands", laid_nacelle_proc_operands), ("nacelle/proc.instructions", laid_nacelle_proc_instructions)], narrowed := true }
def ProcLocalUptoSaid : Prop := procLocalUptoRow.holds Tryd.pinned (OpenSpec.upto procLocalSpec)

/-- 'nacellelaw26.ProcLongest', WHERE WHAT IT READS IS OF BULK AT MOST 1048576: true; the input reads as it did. -/
def procLongestUptoRow : OpenClaim := { program := "ytjdnejbngloieaadoor", sum := "801ef9ea86e1b9d0dffb496398e645d72239fc4534be296efd55e95bf144661c", func := "nacelle/nacellelaw26.ProcLongest", spec := "procLongest", unfollowed := true, recurses := true, named := ["nacelle/proc.instructions", "nacelle/proc.operands"], apart := false, laid := [("nacelle/proc.operands", laid_nacelle_proc_operands), ("nacelle/proc.instructions", laid_nacelle_proc_instructions)], narrowed := true }
def ProcLongestUptoSaid : Prop := procLongestUptoRow.holds Tryd.pinned (OpenSpec.upto procLongestSpec)

/-- 'nacellelaw26.ProcPieces', WHERE WHAT IT READS IS OF BULK AT MOST 1048576: true; the input reads as it did. -/
def procPiecesUptoRow : OpenClaim := { program := "ytjdnejbngloieaadoor", sum := "801ef9ea86e1b9d0dffb496398e645d72239fc4534be296efd55e95bf144661c", func := "nacelle/nacellelaw26.ProcPieces", spec := "procPieces", unfollowed := true, recurses := true, named := ["nacelle/proc.instructions", "nacelle/proc.operands"], apart := false, laid := [("nacelle/proc.operands", laid_nacelle_proc_operands), ("nacelle/proc.instructions", laid_nacelle_proc_instructions)], narrowed := true }
def ProcPiecesUptoSaid : Prop := procPiecesUptoRow.holds Tryd.pinned (OpenSpec.upto procPiecesSpec)

end Rows
end Go.Proofs.YtjdnejbngloieaaDoor
