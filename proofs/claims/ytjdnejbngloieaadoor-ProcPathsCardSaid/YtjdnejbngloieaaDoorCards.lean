/-
  DERIVED. GIVEN WITH THE SEED: THE CARDS: each row of YtjdnejbngloieaaDoorRows.lean that lists a variable, with what it lists TIED to the program's text (the seventh form; the later family's looks); each row that meets fmt, with fmt's text TOLD by the authors' own Lean function (tested against real Go, not proved from fmt's source: count such statements apart). THE CARD IS WHAT COUNTS. Prove the row's statement (the work); the ties are given (YtjdnejbngloieaaDoorTie.lean); close each card by the builder's one call (the guide's Derived/Test/ToyasCard.lean, 'card_holds'). Laid BY PROGRAM, IN A SANDBOX (cutbox-door.mjs). By AI agents, Wed Nov 11 2026. No macro, syntax, notation, axiom, sorry.
-/
import Derived.Test.YtjdnejbngloieaaDoorRows
import GoSem.ClaimSeven
namespace Go.Proofs.YtjdnejbngloieaaDoor
namespace Rows

/-- THE TIED CARD OF 'nacellelaw26.ProcPaths'. -/
def procPathsCard : Claim7 := { stood := { row := procPathsRow, standIns := [], harness := (true, "1fd5b15cd1a0b10f025a53dcfec8b290f49b650543ca27cf8382b7be6aac4f7c"), looks := false }, kinds := [], alts := [], laidByText := true, laidKinds := [.data, .funcs], laidTests := true, laidLooks := .later }
def ProcPathsCardSaid : Prop := Claim7.holds Tryd.pinned (.plain (OpenSpec.ofChange procPathsSpec)) procPathsCard

/-- THE TIED CARD OF 'nacellelaw26.ProcLeast'. -/
def procLeastCard : Claim7 := { stood := { row := procLeastRow, standIns := [], harness := (true, "1fd5b15cd1a0b10f025a53dcfec8b290f49b650543ca27cf8382b7be6aac4f7c"), looks := false }, kinds := [], alts := [], laidByText := true, laidKinds := [.data, .funcs], laidTests := true, laidLooks := .later }
def ProcLeastCardSaid : Prop := Claim7.holds Tryd.pinned (.plain (OpenSpec.ofChange procLeastSpec)) procLeastCard

/-- THE TIED CARD OF 'nacellelaw26.ProcWork'. -/
def procWorkCard : Claim7 := { stood := { row := procWorkRow, standIns := [], harness := (true, "1fd5b15cd1a0b10f025a53dcfec8b290f49b650543ca27cf8382b7be6aac4f7c"), looks := false }, kinds := [], alts := [], laidByText := true, laidKinds := [.data, .funcs], laidTests := true, laidLooks := .later }
def ProcWorkCardSaid : Prop := Claim7.holds Tryd.pinned (.plain (OpenSpec.ofChange procWorkSpec)) procWorkCard

/-- THE TIED CARD OF 'nacellelaw26.ProcLocal'. -/
def procLocalCard : Claim7 := { stood := { row := procLocalRow, standIns := [], harness := (true, "1fd5b15cd1a0b10f025a53dcfec8b290f49b650543ca27cf8382b7be6aac4f7c"), looks := false }, kinds := [], alts := [], laidByText := true, laidKinds := [.data, .funcs], laidTests := true, laidLooks := .later }
def ProcLocalCardSaid : Prop := Claim7.holds Tryd.pinned (.plain (OpenSpec.ofChange procLocalSpec)) procLocalCard

/-- THE TIED CARD OF 'nacellelaw26.ProcLongest'. -/
def procLongestCard : Claim7 := { stood := { row := procLongestRow, standIns := [], harness := (true, "1fd5b15cd1a0b10f025a53dcfec8b290f49b650543ca27cf8382b7be6aac4f7c"), looks := false }, kinds := [], alts := [], laidByText := true, laidKinds := [.data, .funcs], laidTests := true, laidLooks := .later }
def ProcLongestCardSaid : Prop := Claim7.holds Tryd.pinned (.plain (OpenSpec.ofChange procLongestSpec)) procLongestCard

/-- THE TIED CARD OF 'nacellelaw26.ProcPieces'. -/
def procPiecesCard : Claim7 := { stood := { row := procPiecesRow, standIns := [], harness := (true, "1fd5b15cd1a0b10f025a53dcfec8b290f49b650543ca27cf8382b7be6aac4f7c"), looks := false }, kinds := [], alts := [], laidByText := true, laidKinds := [.data, .funcs], laidTests := true, laidLooks := .later }
def ProcPiecesCardSaid : Prop := Claim7.holds Tryd.pinned (.plain (OpenSpec.ofChange procPiecesSpec)) procPiecesCard

/-- THE SECOND FORM's CARD OF 'nacellelaw26.ProcPaths'. -/
def procPathsUptoCard : Claim7 := { stood := { row := procPathsUptoRow, standIns := [], harness := (true, "1fd5b15cd1a0b10f025a53dcfec8b290f49b650543ca27cf8382b7be6aac4f7c"), looks := false }, kinds := [], alts := [], laidByText := true, laidKinds := [.data, .funcs], laidTests := true, laidLooks := .later }
def ProcPathsUptoCardSaid : Prop := Claim7.holds Tryd.pinned (.plain (OpenSpec.upto procPathsSpec)) procPathsUptoCard

/-- THE SECOND FORM's CARD OF 'nacellelaw26.ProcLeast'. -/
def procLeastUptoCard : Claim7 := { stood := { row := procLeastUptoRow, standIns := [], harness := (true, "1fd5b15cd1a0b10f025a53dcfec8b290f49b650543ca27cf8382b7be6aac4f7c"), looks := false }, kinds := [], alts := [], laidByText := true, laidKinds := [.data, .funcs], laidTests := true, laidLooks := .later }
def ProcLeastUptoCardSaid : Prop := Claim7.holds Tryd.pinned (.plain (OpenSpec.upto procLeastSpec)) procLeastUptoCard

/-- THE SECOND FORM's CARD OF 'nacellelaw26.ProcWork'. -/
def procWorkUptoCard : Claim7 := { stood := { row := procWorkUptoRow, standIns := [], harness := (true, "1fd5b15cd1a0b10f025a53dcfec8b290f49b650543ca27cf8382b7be6aac4f7c"), looks := false }, kinds := [], alts := [], laidByText := true, laidKinds := [.data, .funcs], laidTests := true, laidLooks := .later }
def ProcWorkUptoCardSaid : Prop := Claim7.holds Tryd.pinned (.plain (OpenSpec.upto procWorkSpec)) procWorkUptoCard

/-- THE SECOND FORM's CARD OF 'nacellelaw26.ProcLocal'. -/
def procLocalUptoCard : Claim7 := { stood := { row := procLocalUptoRow, standIns := [], harness := (true, "1fd5b15cd1a0b10f025a53dcfec8b290f49b650543ca27cf8382b7be6aac4f7c"), looks := false }, kinds := [], alts := [], laidByText := true, laidKinds := [.data, .funcs], laidTests := true, laidLooks := .later }
def ProcLocalUptoCardSaid : Prop := Claim7.holds Tryd.pinned (.plain (OpenSpec.upto procLocalSpec)) procLocalUptoCard

/-- THE SECOND FORM's CARD OF 'nacellelaw26.ProcLongest'. -/
def procLongestUptoCard : Claim7 := { stood := { row := procLongestUptoRow, standIns := [], harness := (true, "1fd5b15cd1a0b10f025a53dcfec8b290f49b650543ca27cf8382b7be6aac4f7c"), looks := false }, kinds := [], alts := [], laidByText := true, laidKinds := [.data, .funcs], laidTests := true, laidLooks := .later }
def ProcLongestUptoCardSaid : Prop := Claim7.holds Tryd.pinned (.plain (OpenSpec.upto procLongestSpec)) procLongestUptoCard

/-- THE SECOND FORM's CARD OF 'nacellelaw26.ProcPieces'. -/
def procPiecesUptoCard : Claim7 := { stood := { row := procPiecesUptoRow, standIns := [], harness := (true, "1fd5b15cd1a0b10f025a53dcfec8b290f49b650543ca27cf8382b7be6aac4f7c"), looks := false }, kinds := [], alts := [], laidByText := true, laidKinds := [.data, .funcs], laidTests := true, laidLooks := .later }
def ProcPiecesUptoCardSaid : Prop := Claim7.holds Tryd.pinned (.plain (OpenSpec.upto procPiecesSpec)) procPiecesUptoCard
end Rows
end Go.Proofs.YtjdnejbngloieaaDoor
