/-
  DERIVED. GIVEN WITH THE SEED: THE CARDS: each row of YtognkonncfjneaaDoorRows.lean that lists a variable, with what it lists TIED to the program's text (the seventh form; the later family's looks); each row that meets fmt, with fmt's text TOLD by the authors' own Lean function (tested against real Go, not proved from fmt's source: count such statements apart). THE CARD IS WHAT COUNTS. Prove the row's statement (the work); the ties are given (YtognkonncfjneaaDoorTie.lean); close each card by the builder's one call (the guide's Derived/Test/ToyasCard.lean, 'card_holds'). Laid BY PROGRAM, IN A SANDBOX (cutbox-door.mjs). By AI agents, Wed Nov 11 2026. No macro, syntax, notation, axiom, sorry.
-/
import Derived.Test.YtognkonncfjneaaDoorRows
import GoSem.ClaimSeven
namespace Go.Proofs.YtognkonncfjneaaDoor
namespace Rows

/-- THE TIED CARD OF 'hayloftlaw04.GearEach'. -/
def gearEachCard : Claim7 := { stood := { row := gearEachRow, standIns := [], harness := (true, "c75277d94642f5e917de79d24b1235023307ebb3e77abfdd9900d673d2cb0e14"), looks := false }, kinds := [], alts := [], laidByText := true, laidKinds := [.data, .data], laidTests := true, laidLooks := .later }
def GearEachCardSaid : Prop := Claim7.holds Tryd.pinned (.plain (OpenSpec.ofChange gearEachSpec)) gearEachCard

/-- THE TIED CARD OF 'hayloftlaw04.GearMasks'. -/
def gearMasksCard : Claim7 := { stood := { row := gearMasksRow, standIns := [], harness := (true, "c75277d94642f5e917de79d24b1235023307ebb3e77abfdd9900d673d2cb0e14"), looks := false }, kinds := [], alts := [], laidByText := true, laidKinds := [.data, .data], laidTests := true, laidLooks := .later }
def GearMasksCardSaid : Prop := Claim7.holds Tryd.pinned (.plain (OpenSpec.ofChange gearMasksSpec)) gearMasksCard

/-- THE TIED CARD OF 'hayloftlaw04.GearFinds'. -/
def gearFindsCard : Claim7 := { stood := { row := gearFindsRow, standIns := [], harness := (true, "c75277d94642f5e917de79d24b1235023307ebb3e77abfdd9900d673d2cb0e14"), looks := false }, kinds := [], alts := [], laidByText := true, laidKinds := [.data, .data], laidTests := true, laidLooks := .later }
def GearFindsCardSaid : Prop := Claim7.holds Tryd.pinned (.plain (OpenSpec.ofChange gearFindsSpec)) gearFindsCard

/-- THE TIED CARD OF 'hayloftlaw04.GearWindow'. -/
def gearWindowCard : Claim7 := { stood := { row := gearWindowRow, standIns := [], harness := (true, "c75277d94642f5e917de79d24b1235023307ebb3e77abfdd9900d673d2cb0e14"), looks := false }, kinds := [], alts := [], laidByText := true, laidKinds := [.data, .data], laidTests := true, laidLooks := .later }
def GearWindowCardSaid : Prop := Claim7.holds Tryd.pinned (.plain (OpenSpec.ofChange gearWindowSpec)) gearWindowCard

/-- THE TIED CARD OF 'hayloftlaw05.ChunkerCuts'. -/
def chunkerCutsCard : Claim7 := { stood := { row := chunkerCutsRow, standIns := [], harness := (true, "c75277d94642f5e917de79d24b1235023307ebb3e77abfdd9900d673d2cb0e14"), looks := false }, kinds := [], alts := [], laidByText := true, laidKinds := [.data, .data], laidTests := true, laidLooks := .later }
def ChunkerCutsCardSaid : Prop := Claim7.holds Tryd.pinned (.plain (OpenSpec.ofChange chunkerCutsSpec)) chunkerCutsCard

/-- THE TIED CARD OF 'hayloftlaw05.ChunkerSync'. -/
def chunkerSyncCard : Claim7 := { stood := { row := chunkerSyncRow, standIns := [], harness := (true, "c75277d94642f5e917de79d24b1235023307ebb3e77abfdd9900d673d2cb0e14"), looks := false }, kinds := [], alts := [], laidByText := true, laidKinds := [.data, .data], laidTests := true, laidLooks := .later }
def ChunkerSyncCardSaid : Prop := Claim7.holds Tryd.pinned (.plain (OpenSpec.ofChange chunkerSyncSpec)) chunkerSyncCard

/-- THE TIED CARD OF 'hayloftlaw05.ChunkerStreams'. -/
def chunkerStreamsCard : Claim7 := { stood := { row := chunkerStreamsRow, standIns := [], harness := (true, "c75277d94642f5e917de79d24b1235023307ebb3e77abfdd9900d673d2cb0e14"), looks := false }, kinds := [], alts := [], laidByText := true, laidKinds := [.data, .data], laidTests := true, laidLooks := .later }
def ChunkerStreamsCardSaid : Prop := Claim7.holds Tryd.pinned (.plain (OpenSpec.ofChange chunkerStreamsSpec)) chunkerStreamsCard

/-- THE TIED CARD OF 'hayloftlaw05.ChunkerBack'. -/
def chunkerBackCard : Claim7 := { stood := { row := chunkerBackRow, standIns := [], harness := (true, "c75277d94642f5e917de79d24b1235023307ebb3e77abfdd9900d673d2cb0e14"), looks := false }, kinds := [], alts := [], laidByText := true, laidKinds := [.data, .data], laidTests := true, laidLooks := .later }
def ChunkerBackCardSaid : Prop := Claim7.holds Tryd.pinned (.plain (OpenSpec.ofChange chunkerBackSpec)) chunkerBackCard

/-- THE SECOND FORM's CARD OF 'hayloftlaw04.GearEach'. -/
def gearEachUptoCard : Claim7 := { stood := { row := gearEachUptoRow, standIns := [], harness := (true, "c75277d94642f5e917de79d24b1235023307ebb3e77abfdd9900d673d2cb0e14"), looks := false }, kinds := [], alts := [], laidByText := true, laidKinds := [.data, .data], laidTests := true, laidLooks := .later }
def GearEachUptoCardSaid : Prop := Claim7.holds Tryd.pinned (.plain (OpenSpec.upto gearEachSpec)) gearEachUptoCard

/-- THE SECOND FORM's CARD OF 'hayloftlaw04.GearMasks'. -/
def gearMasksUptoCard : Claim7 := { stood := { row := gearMasksUptoRow, standIns := [], harness := (true, "c75277d94642f5e917de79d24b1235023307ebb3e77abfdd9900d673d2cb0e14"), looks := false }, kinds := [], alts := [], laidByText := true, laidKinds := [.data, .data], laidTests := true, laidLooks := .later }
def GearMasksUptoCardSaid : Prop := Claim7.holds Tryd.pinned (.plain (OpenSpec.upto gearMasksSpec)) gearMasksUptoCard

/-- THE SECOND FORM's CARD OF 'hayloftlaw04.GearFinds'. -/
def gearFindsUptoCard : Claim7 := { stood := { row := gearFindsUptoRow, standIns := [], harness := (true, "c75277d94642f5e917de79d24b1235023307ebb3e77abfdd9900d673d2cb0e14"), looks := false }, kinds := [], alts := [], laidByText := true, laidKinds := [.data, .data], laidTests := true, laidLooks := .later }
def GearFindsUptoCardSaid : Prop := Claim7.holds Tryd.pinned (.plain (OpenSpec.upto gearFindsSpec)) gearFindsUptoCard

/-- THE SECOND FORM's CARD OF 'hayloftlaw04.GearWindow'. -/
def gearWindowUptoCard : Claim7 := { stood := { row := gearWindowUptoRow, standIns := [], harness := (true, "c75277d94642f5e917de79d24b1235023307ebb3e77abfdd9900d673d2cb0e14"), looks := false }, kinds := [], alts := [], laidByText := true, laidKinds := [.data, .data], laidTests := true, laidLooks := .later }
def GearWindowUptoCardSaid : Prop := Claim7.holds Tryd.pinned (.plain (OpenSpec.upto gearWindowSpec)) gearWindowUptoCard

/-- THE SECOND FORM's CARD OF 'hayloftlaw05.ChunkerCuts'. -/
def chunkerCutsUptoCard : Claim7 := { stood := { row := chunkerCutsUptoRow, standIns := [], harness := (true, "c75277d94642f5e917de79d24b1235023307ebb3e77abfdd9900d673d2cb0e14"), looks := false }, kinds := [], alts := [], laidByText := true, laidKinds := [.data, .data], laidTests := true, laidLooks := .later }
def ChunkerCutsUptoCardSaid : Prop := Claim7.holds Tryd.pinned (.plain (OpenSpec.upto chunkerCutsSpec)) chunkerCutsUptoCard

/-- THE SECOND FORM's CARD OF 'hayloftlaw05.ChunkerSync'. -/
def chunkerSyncUptoCard : Claim7 := { stood := { row := chunkerSyncUptoRow, standIns := [], harness := (true, "c75277d94642f5e917de79d24b1235023307ebb3e77abfdd9900d673d2cb0e14"), looks := false }, kinds := [], alts := [], laidByText := true, laidKinds := [.data, .data], laidTests := true, laidLooks := .later }
def ChunkerSyncUptoCardSaid : Prop := Claim7.holds Tryd.pinned (.plain (OpenSpec.upto chunkerSyncSpec)) chunkerSyncUptoCard

/-- THE SECOND FORM's CARD OF 'hayloftlaw05.ChunkerStreams'. -/
def chunkerStreamsUptoCard : Claim7 := { stood := { row := chunkerStreamsUptoRow, standIns := [], harness := (true, "c75277d94642f5e917de79d24b1235023307ebb3e77abfdd9900d673d2cb0e14"), looks := false }, kinds := [], alts := [], laidByText := true, laidKinds := [.data, .data], laidTests := true, laidLooks := .later }
def ChunkerStreamsUptoCardSaid : Prop := Claim7.holds Tryd.pinned (.plain (OpenSpec.upto chunkerStreamsSpec)) chunkerStreamsUptoCard

/-- THE SECOND FORM's CARD OF 'hayloftlaw05.ChunkerBack'. -/
def chunkerBackUptoCard : Claim7 := { stood := { row := chunkerBackUptoRow, standIns := [], harness := (true, "c75277d94642f5e917de79d24b1235023307ebb3e77abfdd9900d673d2cb0e14"), looks := false }, kinds := [], alts := [], laidByText := true, laidKinds := [.data, .data], laidTests := true, laidLooks := .later }
def ChunkerBackUptoCardSaid : Prop := Claim7.holds Tryd.pinned (.plain (OpenSpec.upto chunkerBackSpec)) chunkerBackUptoCard
end Rows
end Go.Proofs.YtognkonncfjneaaDoor
