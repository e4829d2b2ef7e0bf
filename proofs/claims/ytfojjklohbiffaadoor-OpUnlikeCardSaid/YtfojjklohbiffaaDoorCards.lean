/-
  DERIVED. GIVEN WITH THE SEED: THE CARDS: each row of YtfojjklohbiffaaDoorRows.lean that lists a variable, with what it lists TIED to the program's text (the seventh form; the later family's looks); each row that meets fmt, with fmt's text TOLD by the authors' own Lean function (tested against real Go, not proved from fmt's source: count such statements apart). THE CARD IS WHAT COUNTS. Prove the row's statement (the work); the ties are given (YtfojjklohbiffaaDoorTie.lean); close each card by the builder's one call (the guide's Derived/Test/ToyasCard.lean, 'card_holds'). Laid BY PROGRAM, IN A SANDBOX (cutbox-door.mjs). By AI agents, Wed Nov 11 2026. No macro, syntax, notation, axiom, sorry.
-/
import Derived.Test.YtfojjklohbiffaaDoorRows
import GoSem.ClaimSeven
namespace Go.Proofs.YtfojjklohbiffaaDoor
namespace Rows

/-- THE TIED CARD OF 'tranterlaw05.OpChecks'. -/
def opChecksCard : Claim7 := { stood := { row := opChecksRow, standIns := [], harness := (true, "84aeceae1cd1ced34145ebdfbcb32dd9b9e8623f2dcf0c17b4b90b0457dcc1a9"), looks := false }, kinds := [], alts := [], laidByText := true, laidKinds := [.data], laidTests := true, laidLooks := .later }
def OpChecksCardSaid : Prop := Claim7.holds Tryd.pinned (.plain (OpenSpec.ofChange opChecksSpec)) opChecksCard

/-- THE TIED CARD OF 'tranterlaw05.OpPuts'. -/
def opPutsCard : Claim7 := { stood := { row := opPutsRow, standIns := [], harness := (true, "84aeceae1cd1ced34145ebdfbcb32dd9b9e8623f2dcf0c17b4b90b0457dcc1a9"), looks := false }, kinds := [], alts := [], laidByText := true, laidKinds := [.data], laidTests := true, laidLooks := .later }
def OpPutsCardSaid : Prop := Claim7.holds Tryd.pinned (.plain (OpenSpec.ofChange opPutsSpec)) opPutsCard

/-- THE TIED CARD OF 'tranterlaw05.OpGets'. -/
def opGetsCard : Claim7 := { stood := { row := opGetsRow, standIns := [], harness := (true, "84aeceae1cd1ced34145ebdfbcb32dd9b9e8623f2dcf0c17b4b90b0457dcc1a9"), looks := false }, kinds := [], alts := [], laidByText := true, laidKinds := [.data], laidTests := true, laidLooks := .later }
def OpGetsCardSaid : Prop := Claim7.holds Tryd.pinned (.plain (OpenSpec.ofChange opGetsSpec)) opGetsCard

/-- THE TIED CARD OF 'tranterlaw05.OpUnlike'. -/
def opUnlikeCard : Claim7 := { stood := { row := opUnlikeRow, standIns := [], harness := (true, "84aeceae1cd1ced34145ebdfbcb32dd9b9e8623f2dcf0c17b4b90b0457dcc1a9"), looks := false }, kinds := [], alts := [], laidByText := true, laidKinds := [.data], laidTests := true, laidLooks := .later }
def OpUnlikeCardSaid : Prop := Claim7.holds Tryd.pinned (.plain (OpenSpec.ofChange opUnlikeSpec)) opUnlikeCard

/-- THE SECOND FORM's CARD OF 'tranterlaw05.OpChecks'. -/
def opChecksUptoCard : Claim7 := { stood := { row := opChecksUptoRow, standIns := [], harness := (true, "84aeceae1cd1ced34145ebdfbcb32dd9b9e8623f2dcf0c17b4b90b0457dcc1a9"), looks := false }, kinds := [], alts := [], laidByText := true, laidKinds := [.data], laidTests := true, laidLooks := .later }
def OpChecksUptoCardSaid : Prop := Claim7.holds Tryd.pinned (.plain (OpenSpec.upto opChecksSpec)) opChecksUptoCard

/-- THE SECOND FORM's CARD OF 'tranterlaw05.OpPuts'. -/
def opPutsUptoCard : Claim7 := { stood := { row := opPutsUptoRow, standIns := [], harness := (true, "84aeceae1cd1ced34145ebdfbcb32dd9b9e8623f2dcf0c17b4b90b0457dcc1a9"), looks := false }, kinds := [], alts := [], laidByText := true, laidKinds := [.data], laidTests := true, laidLooks := .later }
def OpPutsUptoCardSaid : Prop := Claim7.holds Tryd.pinned (.plain (OpenSpec.upto opPutsSpec)) opPutsUptoCard

/-- THE SECOND FORM's CARD OF 'tranterlaw05.OpGets'. -/
def opGetsUptoCard : Claim7 := { stood := { row := opGetsUptoRow, standIns := [], harness := (true, "84aeceae1cd1ced34145ebdfbcb32dd9b9e8623f2dcf0c17b4b90b0457dcc1a9"), looks := false }, kinds := [], alts := [], laidByText := true, laidKinds := [.data], laidTests := true, laidLooks := .later }
def OpGetsUptoCardSaid : Prop := Claim7.holds Tryd.pinned (.plain (OpenSpec.upto opGetsSpec)) opGetsUptoCard

/-- THE SECOND FORM's CARD OF 'tranterlaw05.OpUnlike'. -/
def opUnlikeUptoCard : Claim7 := { stood := { row := opUnlikeUptoRow, standIns := [], harness := (true, "84aeceae1cd1ced34145ebdfbcb32dd9b9e8623f2dcf0c17b4b90b0457dcc1a9"), looks := false }, kinds := [], alts := [], laidByText := true, laidKinds := [.data], laidTests := true, laidLooks := .later }
def OpUnlikeUptoCardSaid : Prop := Claim7.holds Tryd.pinned (.plain (OpenSpec.upto opUnlikeSpec)) opUnlikeUptoCard
end Rows
end Go.Proofs.YtfojjklohbiffaaDoor
