/-
  DERIVED. GIVEN WITH THE SEED: THE CARDS: each row of YtgjlncfhghhaeaaGreatDoorRows.lean that lists a variable, with what it lists TIED to the program's text (the seventh form; the later family's looks); each row that meets fmt, with fmt's text TOLD by the authors' own Lean function (tested against real Go, not proved from fmt's source: count such statements apart). THE CARD IS WHAT COUNTS. Prove the row's statement (the work); the ties are given (YtgjlncfhghhaeaaGreatDoorTie.lean); close each card by the builder's one call (the guide's Derived/Test/ToyasCard.lean, 'card_holds'). Laid BY PROGRAM, IN A SANDBOX (cutbox-door.mjs). By AI agents, Wed Nov 11 2026. No macro, syntax, notation, axiom, sorry.
-/
import Derived.Test.YtgjlncfhghhaeaaGreatDoorRows
import GoSem.ClaimSeven
namespace Go.Proofs.YtgjlncfhghhaeaaGreatDoor
namespace Rows

/-- THE TIED CARD OF 'postriderlaw06.PathParams'. -/
def pathParamsCard : Claim7 := { stood := { row := pathParamsRow, standIns := [], harness := (true, "94a5a0ae54f1264fd33b465137e7ab3d1e8858db463a887f38f36e6838b27848"), looks := false }, kinds := [], alts := [], laidByText := true, laidKinds := [.data, .data, .data, .data, .data, .funcs, .pinned, .pinned], laidTests := true, laidLooks := .later }
def PathParamsCardSaid : Prop := Claim7.holds Tryz.pinned (.plain (OpenSpec.ofChange pathParamsSpec)) pathParamsCard

/-- THE TIED CARD OF 'postriderlaw12.SrsStays'. -/
def srsStaysCard : Claim7 := { stood := { row := srsStaysRow, standIns := [], harness := (true, "94a5a0ae54f1264fd33b465137e7ab3d1e8858db463a887f38f36e6838b27848"), looks := false }, kinds := [], alts := [], laidByText := true, laidKinds := [.data, .data, .data, .data, .data, .funcs, .wider, .pinned], laidTests := true, laidLooks := .later }
def SrsStaysCardSaid : Prop := Claim7.holds Tryz.pinned (.plain (OpenSpec.ofChange srsStaysSpec)) srsStaysCard

/-- THE TIED CARD OF 'postriderlaw12.SrsKnown'. -/
def srsKnownCard : Claim7 := { stood := { row := srsKnownRow, standIns := [], harness := (true, "94a5a0ae54f1264fd33b465137e7ab3d1e8858db463a887f38f36e6838b27848"), looks := false }, kinds := [], alts := [], laidByText := true, laidKinds := [.data, .data, .data, .data, .data, .funcs, .wider, .pinned], laidTests := true, laidLooks := .later }
def SrsKnownCardSaid : Prop := Claim7.holds Tryz.pinned (.plain (OpenSpec.ofChange srsKnownSpec)) srsKnownCard

/-- THE TIED CARD OF 'postriderlaw12.SrsTwo'. -/
def srsTwoCard : Claim7 := { stood := { row := srsTwoRow, standIns := [], harness := (true, "94a5a0ae54f1264fd33b465137e7ab3d1e8858db463a887f38f36e6838b27848"), looks := false }, kinds := [], alts := [], laidByText := true, laidKinds := [.data, .data, .data, .data, .data, .funcs, .wider, .pinned], laidTests := true, laidLooks := .later }
def SrsTwoCardSaid : Prop := Claim7.holds Tryz.pinned (.plain (OpenSpec.ofChange srsTwoSpec)) srsTwoCard

/-- THE TIED CARD OF 'postriderlaw12.SrsBack'. -/
def srsBackCard : Claim7 := { stood := { row := srsBackRow, standIns := [], harness := (true, "94a5a0ae54f1264fd33b465137e7ab3d1e8858db463a887f38f36e6838b27848"), looks := false }, kinds := [], alts := [], laidByText := true, laidKinds := [.data, .data, .data, .data, .data, .funcs, .wider, .pinned, .pinned], laidTests := true, laidLooks := .later }
def SrsBackCardSaid : Prop := Claim7.holds Tryz.pinned (.plain (OpenSpec.ofChange srsBackSpec)) srsBackCard

/-- THE SECOND FORM's CARD OF 'postriderlaw06.PathParams'. -/
def pathParamsUptoCard : Claim7 := { stood := { row := pathParamsUptoRow, standIns := [], harness := (true, "94a5a0ae54f1264fd33b465137e7ab3d1e8858db463a887f38f36e6838b27848"), looks := false }, kinds := [], alts := [], laidByText := true, laidKinds := [.data, .data, .data, .data, .data, .funcs, .pinned, .pinned], laidTests := true, laidLooks := .later }
def PathParamsUptoCardSaid : Prop := Claim7.holds Tryz.pinned (.plain (OpenSpec.upto pathParamsSpec)) pathParamsUptoCard

/-- THE SECOND FORM's CARD OF 'postriderlaw12.SrsStays'. -/
def srsStaysUptoCard : Claim7 := { stood := { row := srsStaysUptoRow, standIns := [], harness := (true, "94a5a0ae54f1264fd33b465137e7ab3d1e8858db463a887f38f36e6838b27848"), looks := false }, kinds := [], alts := [], laidByText := true, laidKinds := [.data, .data, .data, .data, .data, .funcs, .wider, .pinned], laidTests := true, laidLooks := .later }
def SrsStaysUptoCardSaid : Prop := Claim7.holds Tryz.pinned (.plain (OpenSpec.upto srsStaysSpec)) srsStaysUptoCard

/-- THE SECOND FORM's CARD OF 'postriderlaw12.SrsKnown'. -/
def srsKnownUptoCard : Claim7 := { stood := { row := srsKnownUptoRow, standIns := [], harness := (true, "94a5a0ae54f1264fd33b465137e7ab3d1e8858db463a887f38f36e6838b27848"), looks := false }, kinds := [], alts := [], laidByText := true, laidKinds := [.data, .data, .data, .data, .data, .funcs, .wider, .pinned], laidTests := true, laidLooks := .later }
def SrsKnownUptoCardSaid : Prop := Claim7.holds Tryz.pinned (.plain (OpenSpec.upto srsKnownSpec)) srsKnownUptoCard

/-- THE SECOND FORM's CARD OF 'postriderlaw12.SrsTwo'. -/
def srsTwoUptoCard : Claim7 := { stood := { row := srsTwoUptoRow, standIns := [], harness := (true, "94a5a0ae54f1264fd33b465137e7ab3d1e8858db463a887f38f36e6838b27848"), looks := false }, kinds := [], alts := [], laidByText := true, laidKinds := [.data, .data, .data, .data, .data, .funcs, .wider, .pinned], laidTests := true, laidLooks := .later }
def SrsTwoUptoCardSaid : Prop := Claim7.holds Tryz.pinned (.plain (OpenSpec.upto srsTwoSpec)) srsTwoUptoCard

/-- THE SECOND FORM's CARD OF 'postriderlaw12.SrsBack'. -/
def srsBackUptoCard : Claim7 := { stood := { row := srsBackUptoRow, standIns := [], harness := (true, "94a5a0ae54f1264fd33b465137e7ab3d1e8858db463a887f38f36e6838b27848"), looks := false }, kinds := [], alts := [], laidByText := true, laidKinds := [.data, .data, .data, .data, .data, .funcs, .wider, .pinned, .pinned], laidTests := true, laidLooks := .later }
def SrsBackUptoCardSaid : Prop := Claim7.holds Tryz.pinned (.plain (OpenSpec.upto srsBackSpec)) srsBackUptoCard
end Rows
end Go.Proofs.YtgjlncfhghhaeaaGreatDoor
