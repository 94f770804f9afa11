/-
  DERIVED. GIVEN WITH THE SEED: THE CARDS: each row of YtcpglghklmfbcaaDoorRows.lean that lists a variable, with what it lists TIED to the program's text (the seventh form; the later family's looks); each row that meets fmt, with fmt's text TOLD by the authors' own Lean function (tested against real Go, not proved from fmt's source: count such statements apart). THE CARD IS WHAT COUNTS. Prove the row's statement (the work); the ties are given (YtcpglghklmfbcaaDoorTie.lean); close each card by the builder's one call (the guide's Derived/Test/ToyasCard.lean, 'card_holds'). Laid BY PROGRAM, IN A SANDBOX (cutbox-door.mjs). By AI agents, Wed Nov 11 2026. No macro, syntax, notation, axiom, sorry.
-/
import Derived.Test.YtcpglghklmfbcaaDoorRows
import GoSem.ClaimSeven
namespace Go.Proofs.YtcpglghklmfbcaaDoor
namespace Rows

/-- THE TIED CARD OF 'platterlaw10.TablesRot'. -/
def tablesRotCard : Claim7 := { stood := { row := tablesRotRow, standIns := [], harness := (true, "4e3e99f2c351b37ff1a3198a8c39e5770b98746ced7dc37a989f735cd7aa8d5e"), looks := false }, kinds := [], alts := [], laidByText := true, laidKinds := [.data], laidTests := true, laidLooks := .later }
def TablesRotCardSaid : Prop := Claim7.holds Tryd.pinned (.plain (OpenSpec.ofChange tablesRotSpec)) tablesRotCard

/-- THE TIED CARD OF 'platterlaw10.TablesOrder'. -/
def tablesOrderCard : Claim7 := { stood := { row := tablesOrderRow, standIns := [], harness := (true, "4e3e99f2c351b37ff1a3198a8c39e5770b98746ced7dc37a989f735cd7aa8d5e"), looks := false }, kinds := [], alts := [], laidByText := true, laidKinds := [.data], laidTests := true, laidLooks := .later }
def TablesOrderCardSaid : Prop := Claim7.holds Tryd.pinned (.plain (OpenSpec.ofChange tablesOrderSpec)) tablesOrderCard

/-- THE TIED CARD OF 'platterlaw10.TablesRuns'. -/
def tablesRunsCard : Claim7 := { stood := { row := tablesRunsRow, standIns := [], harness := (true, "4e3e99f2c351b37ff1a3198a8c39e5770b98746ced7dc37a989f735cd7aa8d5e"), looks := false }, kinds := [], alts := [], laidByText := true, laidKinds := [.data], laidTests := true, laidLooks := .later }
def TablesRunsCardSaid : Prop := Claim7.holds Tryd.pinned (.plain (OpenSpec.ofChange tablesRunsSpec)) tablesRunsCard

/-- THE TIED CARD OF 'platterlaw10.TablesOldOrNew'. -/
def tablesOldOrNewCard : Claim7 := { stood := { row := tablesOldOrNewRow, standIns := [], harness := (true, "4e3e99f2c351b37ff1a3198a8c39e5770b98746ced7dc37a989f735cd7aa8d5e"), looks := false }, kinds := [], alts := [], laidByText := true, laidKinds := [.data], laidTests := true, laidLooks := .later }
def TablesOldOrNewCardSaid : Prop := Claim7.holds Tryd.pinned (.plain (OpenSpec.ofChange tablesOldOrNewSpec)) tablesOldOrNewCard

/-- THE TIED CARD OF 'platterlaw10.TablesAgain'. -/
def tablesAgainCard : Claim7 := { stood := { row := tablesAgainRow, standIns := [], harness := (true, "4e3e99f2c351b37ff1a3198a8c39e5770b98746ced7dc37a989f735cd7aa8d5e"), looks := false }, kinds := [], alts := [], laidByText := true, laidKinds := [.data], laidTests := true, laidLooks := .later }
def TablesAgainCardSaid : Prop := Claim7.holds Tryd.pinned (.plain (OpenSpec.ofChange tablesAgainSpec)) tablesAgainCard

/-- THE TIED CARD OF 'platterlaw10.TablesRenewed'. -/
def tablesRenewedCard : Claim7 := { stood := { row := tablesRenewedRow, standIns := [], harness := (true, "4e3e99f2c351b37ff1a3198a8c39e5770b98746ced7dc37a989f735cd7aa8d5e"), looks := false }, kinds := [], alts := [], laidByText := true, laidKinds := [.data], laidTests := true, laidLooks := .later }
def TablesRenewedCardSaid : Prop := Claim7.holds Tryd.pinned (.plain (OpenSpec.ofChange tablesRenewedSpec)) tablesRenewedCard

/-- THE TIED CARD OF 'platterlaw10.TablesWrites'. -/
def tablesWritesCard : Claim7 := { stood := { row := tablesWritesRow, standIns := [], harness := (true, "4e3e99f2c351b37ff1a3198a8c39e5770b98746ced7dc37a989f735cd7aa8d5e"), looks := false }, kinds := [], alts := [], laidByText := true, laidKinds := [.data], laidTests := true, laidLooks := .later }
def TablesWritesCardSaid : Prop := Claim7.holds Tryd.pinned (.plain (OpenSpec.ofChange tablesWritesSpec)) tablesWritesCard

/-- THE SECOND FORM's CARD OF 'platterlaw10.TablesRot'. -/
def tablesRotUptoCard : Claim7 := { stood := { row := tablesRotUptoRow, standIns := [], harness := (true, "4e3e99f2c351b37ff1a3198a8c39e5770b98746ced7dc37a989f735cd7aa8d5e"), looks := false }, kinds := [], alts := [], laidByText := true, laidKinds := [.data], laidTests := true, laidLooks := .later }
def TablesRotUptoCardSaid : Prop := Claim7.holds Tryd.pinned (.plain (OpenSpec.upto tablesRotSpec)) tablesRotUptoCard

/-- THE SECOND FORM's CARD OF 'platterlaw10.TablesOrder'. -/
def tablesOrderUptoCard : Claim7 := { stood := { row := tablesOrderUptoRow, standIns := [], harness := (true, "4e3e99f2c351b37ff1a3198a8c39e5770b98746ced7dc37a989f735cd7aa8d5e"), looks := false }, kinds := [], alts := [], laidByText := true, laidKinds := [.data], laidTests := true, laidLooks := .later }
def TablesOrderUptoCardSaid : Prop := Claim7.holds Tryd.pinned (.plain (OpenSpec.upto tablesOrderSpec)) tablesOrderUptoCard

/-- THE SECOND FORM's CARD OF 'platterlaw10.TablesRuns'. -/
def tablesRunsUptoCard : Claim7 := { stood := { row := tablesRunsUptoRow, standIns := [], harness := (true, "4e3e99f2c351b37ff1a3198a8c39e5770b98746ced7dc37a989f735cd7aa8d5e"), looks := false }, kinds := [], alts := [], laidByText := true, laidKinds := [.data], laidTests := true, laidLooks := .later }
def TablesRunsUptoCardSaid : Prop := Claim7.holds Tryd.pinned (.plain (OpenSpec.upto tablesRunsSpec)) tablesRunsUptoCard

/-- THE SECOND FORM's CARD OF 'platterlaw10.TablesOldOrNew'. -/
def tablesOldOrNewUptoCard : Claim7 := { stood := { row := tablesOldOrNewUptoRow, standIns := [], harness := (true, "4e3e99f2c351b37ff1a3198a8c39e5770b98746ced7dc37a989f735cd7aa8d5e"), looks := false }, kinds := [], alts := [], laidByText := true, laidKinds := [.data], laidTests := true, laidLooks := .later }
def TablesOldOrNewUptoCardSaid : Prop := Claim7.holds Tryd.pinned (.plain (OpenSpec.upto tablesOldOrNewSpec)) tablesOldOrNewUptoCard

/-- THE SECOND FORM's CARD OF 'platterlaw10.TablesAgain'. -/
def tablesAgainUptoCard : Claim7 := { stood := { row := tablesAgainUptoRow, standIns := [], harness := (true, "4e3e99f2c351b37ff1a3198a8c39e5770b98746ced7dc37a989f735cd7aa8d5e"), looks := false }, kinds := [], alts := [], laidByText := true, laidKinds := [.data], laidTests := true, laidLooks := .later }
def TablesAgainUptoCardSaid : Prop := Claim7.holds Tryd.pinned (.plain (OpenSpec.upto tablesAgainSpec)) tablesAgainUptoCard

/-- THE SECOND FORM's CARD OF 'platterlaw10.TablesRenewed'. -/
def tablesRenewedUptoCard : Claim7 := { stood := { row := tablesRenewedUptoRow, standIns := [], harness := (true, "4e3e99f2c351b37ff1a3198a8c39e5770b98746ced7dc37a989f735cd7aa8d5e"), looks := false }, kinds := [], alts := [], laidByText := true, laidKinds := [.data], laidTests := true, laidLooks := .later }
def TablesRenewedUptoCardSaid : Prop := Claim7.holds Tryd.pinned (.plain (OpenSpec.upto tablesRenewedSpec)) tablesRenewedUptoCard

/-- THE SECOND FORM's CARD OF 'platterlaw10.TablesWrites'. -/
def tablesWritesUptoCard : Claim7 := { stood := { row := tablesWritesUptoRow, standIns := [], harness := (true, "4e3e99f2c351b37ff1a3198a8c39e5770b98746ced7dc37a989f735cd7aa8d5e"), looks := false }, kinds := [], alts := [], laidByText := true, laidKinds := [.data], laidTests := true, laidLooks := .later }
def TablesWritesUptoCardSaid : Prop := Claim7.holds Tryd.pinned (.plain (OpenSpec.upto tablesWritesSpec)) tablesWritesUptoCard
end Rows
end Go.Proofs.YtcpglghklmfbcaaDoor
