/-
  DERIVED. GIVEN WITH THE SEED: THE CARDS: each row of YtahaknhgkmhniaaDoorRows.lean that lists a variable, with what it lists TIED to the program's text (the seventh form; the later family's looks); each row that meets fmt, with fmt's text TOLD by the authors' own Lean function (tested against real Go, not proved from fmt's source: count such statements apart). THE CARD IS WHAT COUNTS. Prove the row's statement (the work); the ties are given (YtahaknhgkmhniaaDoorTie.lean); close each card by the builder's one call (the guide's Derived/Test/ToyasCard.lean, 'card_holds'). Laid BY PROGRAM, IN A SANDBOX (cutbox-door.mjs). By AI agents, Wed Nov 11 2026. No macro, syntax, notation, axiom, sorry.
-/
import Derived.Test.YtahaknhgkmhniaaDoorRows
import GoSem.ClaimSeven
namespace Go.Proofs.YtahaknhgkmhniaaDoor
namespace Rows

/-- THE TIED CARD OF 'geodelaw05.OpsFind'. -/
def opsFindCard : Claim7 := { stood := { row := opsFindRow, standIns := [], harness := (true, "1328ae7d72d44ac65d2e12be86102637be6c7a076ad6cf03606334fa07720065"), looks := false }, kinds := [], alts := [], laidByText := true, laidKinds := [.listed, .data], laidTests := true, laidLooks := .later }
def OpsFindCardSaid : Prop := Claim7.holds Tryd.pinned (.plain (OpenSpec.ofChange opsFindSpec)) opsFindCard

/-- THE TIED CARD OF 'geodelaw05.OpsAll'. -/
def opsAllCard : Claim7 := { stood := { row := opsAllRow, standIns := [], harness := (true, "1328ae7d72d44ac65d2e12be86102637be6c7a076ad6cf03606334fa07720065"), looks := false }, kinds := [], alts := [], laidByText := true, laidKinds := [.listed, .data], laidTests := true, laidLooks := .later }
def OpsAllCardSaid : Prop := Claim7.holds Tryd.pinned (.plain (OpenSpec.ofChange opsAllSpec)) opsAllCard

/-- THE TIED CARD OF 'geodelaw05.OpsApart'. -/
def opsApartCard : Claim7 := { stood := { row := opsApartRow, standIns := [], harness := (true, "1328ae7d72d44ac65d2e12be86102637be6c7a076ad6cf03606334fa07720065"), looks := false }, kinds := [], alts := [], laidByText := true, laidKinds := [.listed, .data], laidTests := true, laidLooks := .later }
def OpsApartCardSaid : Prop := Claim7.holds Tryd.pinned (.plain (OpenSpec.ofChange opsApartSpec)) opsApartCard

/-- THE TIED CARD OF 'geodelaw05.OpsLoads'. -/
def opsLoadsCard : Claim7 := { stood := { row := opsLoadsRow, standIns := [], harness := (true, "1328ae7d72d44ac65d2e12be86102637be6c7a076ad6cf03606334fa07720065"), looks := false }, kinds := [], alts := [], laidByText := true, laidKinds := [.listed, .data], laidTests := true, laidLooks := .later }
def OpsLoadsCardSaid : Prop := Claim7.holds Tryd.pinned (.plain (OpenSpec.ofChange opsLoadsSpec)) opsLoadsCard

/-- THE SECOND FORM's CARD OF 'geodelaw05.OpsFind'. -/
def opsFindUptoCard : Claim7 := { stood := { row := opsFindUptoRow, standIns := [], harness := (true, "1328ae7d72d44ac65d2e12be86102637be6c7a076ad6cf03606334fa07720065"), looks := false }, kinds := [], alts := [], laidByText := true, laidKinds := [.listed, .data], laidTests := true, laidLooks := .later }
def OpsFindUptoCardSaid : Prop := Claim7.holds Tryd.pinned (.plain (OpenSpec.upto opsFindSpec)) opsFindUptoCard

/-- THE SECOND FORM's CARD OF 'geodelaw05.OpsAll'. -/
def opsAllUptoCard : Claim7 := { stood := { row := opsAllUptoRow, standIns := [], harness := (true, "1328ae7d72d44ac65d2e12be86102637be6c7a076ad6cf03606334fa07720065"), looks := false }, kinds := [], alts := [], laidByText := true, laidKinds := [.listed, .data], laidTests := true, laidLooks := .later }
def OpsAllUptoCardSaid : Prop := Claim7.holds Tryd.pinned (.plain (OpenSpec.upto opsAllSpec)) opsAllUptoCard

/-- THE SECOND FORM's CARD OF 'geodelaw05.OpsApart'. -/
def opsApartUptoCard : Claim7 := { stood := { row := opsApartUptoRow, standIns := [], harness := (true, "1328ae7d72d44ac65d2e12be86102637be6c7a076ad6cf03606334fa07720065"), looks := false }, kinds := [], alts := [], laidByText := true, laidKinds := [.listed, .data], laidTests := true, laidLooks := .later }
def OpsApartUptoCardSaid : Prop := Claim7.holds Tryd.pinned (.plain (OpenSpec.upto opsApartSpec)) opsApartUptoCard

/-- THE SECOND FORM's CARD OF 'geodelaw05.OpsLoads'. -/
def opsLoadsUptoCard : Claim7 := { stood := { row := opsLoadsUptoRow, standIns := [], harness := (true, "1328ae7d72d44ac65d2e12be86102637be6c7a076ad6cf03606334fa07720065"), looks := false }, kinds := [], alts := [], laidByText := true, laidKinds := [.listed, .data], laidTests := true, laidLooks := .later }
def OpsLoadsUptoCardSaid : Prop := Claim7.holds Tryd.pinned (.plain (OpenSpec.upto opsLoadsSpec)) opsLoadsUptoCard
end Rows
end Go.Proofs.YtahaknhgkmhniaaDoor
