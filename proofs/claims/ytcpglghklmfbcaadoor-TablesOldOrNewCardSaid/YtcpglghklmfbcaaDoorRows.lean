/-
  NARROWER THAN 'FOR EVERY INPUT', by the rows' own cells (each row's printed sentence says how): TablesRot: laid · TablesOrder: laid · TablesRuns: laid · TablesOldOrNew: laid · TablesAgain: laid · TablesRenewed: laid · TablesWrites: laid.
  DERIVED. THE GIVEN ROWS OF THIS SEAT. 7 by the template 'for every input the law returns true; each argument reads behind the call as it read before'; 0 by the template 'total and deterministic' (their statements: YtcpglghklmfbcaaDoorTotals.lean).
  GIVEN WITH THE SEED: the statements are not yours to turn. If you find one false, say at which input.
  Laid BY PROGRAM, IN A SANDBOX (cutbox-rows.mjs): the forced cells as the released guide's own fill.sh prints them over the translation 3a2d47c49767ae61… (all of the seat's roots in one cut). By AI agents, Wed Nov 11 2026. No macro, syntax, notation, axiom, sorry.
-/
import Derived.Test.YtcpglghklmfbcaaDoorChecked
import GoSem.Claim
import GoSem.ClaimJoined
import GoSem.ClaimMapViews
import Derived.JoinedTies
import Derived.KernelRfl
namespace Go.Proofs.YtcpglghklmfbcaaDoor
/- THE CELL 'sum', in the pinned program and in every row, IS THE sha256 OF THE DUMP (.gsa) THAT YtcpglghklmfbcaaDoorProg.lean LOADS. Nothing in Lean hashes anything: it is a label: what it is worth is what the hold of that sum in a sandbox is worth. -/
noncomputable def Tryd.pinned : Pinned := { name := "ytcpglghklmfbcaadoor", sum := "3a2d47c49767ae61dd705d558869976b277c3892d535958391efbe7afd88dca9", checked := Tryd.checked }
namespace Rows
def none {H : Type} : Left H := { results := [], args := [] }

/- WHAT THE LISTED PACKAGE-LEVEL VARIABLES READ AS WHEN THE CALL BEGINS. Each datum BY PROGRAM (the guide's laid-datum.mjs) off the statement by which the dump's own 'gosem.cut.vars' lays the variable. In a bare row this is a premise. The card (YtcpglghklmfbcaaDoorCards.lean) ties it to the program's text. -/
def laid_platter_tables_bad {H : Type} : DataW H := .agg [.lit (.int .i64 0), .lit (.int .i64 0), .lit (.bool true)]

/-- 'platterlaw10.TablesRot': WHATEVER THE INPUT: true; the input reads as it did. -/
def tablesRotSpec : ChangeSpec := { name := "tablesRot", fn := fun _ => fun
  | [d1, d2] => { results := [.lit (.bool true)], args := [d1, d2] }
  | _ => none }
def tablesRotRow : OpenClaim := { program := "ytcpglghklmfbcaadoor", sum := "3a2d47c49767ae61dd705d558869976b277c3892d535958391efbe7afd88dca9", func := "platter/platterlaw10.TablesRot", spec := "tablesRot", unfollowed := true, recurses := true, named := ["platter/tables.bad"], apart := false, laid := [("platter/tables.bad", laid_platter_tables_bad)] }
def TablesRotSaid : Prop := tablesRotRow.holds Tryd.pinned (OpenSpec.ofChange tablesRotSpec)

/-- ITS FALSE NEIGHBOUR: 'it returns false'. Refute it at one input. -/
def tablesRotWrong : ChangeSpec := { name := "tablesRot", fn := fun _ => fun
  | [d1, d2] => { results := [.lit (.bool false)], args := [d1, d2] }
  | _ => none }
def TablesRotWrongFalsely : Prop := tablesRotRow.holds Tryd.pinned (OpenSpec.ofChange tablesRotWrong)

/-- 'platterlaw10.TablesOrder': WHATEVER THE INPUT: true; the input reads as it did. -/
def tablesOrderSpec : ChangeSpec := { name := "tablesOrder", fn := fun _ => fun
  | [d1, d2, d3] => { results := [.lit (.bool true)], args := [d1, d2, d3] }
  | _ => none }
def tablesOrderRow : OpenClaim := { program := "ytcpglghklmfbcaadoor", sum := "3a2d47c49767ae61dd705d558869976b277c3892d535958391efbe7afd88dca9", func := "platter/platterlaw10.TablesOrder", spec := "tablesOrder", unfollowed := true, recurses := true, named := ["platter/tables.bad"], apart := false, laid := [("platter/tables.bad", laid_platter_tables_bad)] }
def TablesOrderSaid : Prop := tablesOrderRow.holds Tryd.pinned (OpenSpec.ofChange tablesOrderSpec)

/-- ITS FALSE NEIGHBOUR: 'it returns false'. Refute it at one input. -/
def tablesOrderWrong : ChangeSpec := { name := "tablesOrder", fn := fun _ => fun
  | [d1, d2, d3] => { results := [.lit (.bool false)], args := [d1, d2, d3] }
  | _ => none }
def TablesOrderWrongFalsely : Prop := tablesOrderRow.holds Tryd.pinned (OpenSpec.ofChange tablesOrderWrong)

/-- 'platterlaw10.TablesRuns': WHATEVER THE INPUT: true; the input reads as it did. -/
def tablesRunsSpec : ChangeSpec := { name := "tablesRuns", fn := fun _ => fun
  | [d1, d2, d3] => { results := [.lit (.bool true)], args := [d1, d2, d3] }
  | _ => none }
def tablesRunsRow : OpenClaim := { program := "ytcpglghklmfbcaadoor", sum := "3a2d47c49767ae61dd705d558869976b277c3892d535958391efbe7afd88dca9", func := "platter/platterlaw10.TablesRuns", spec := "tablesRuns", unfollowed := true, recurses := true, named := ["platter/tables.bad"], apart := false, laid := [("platter/tables.bad", laid_platter_tables_bad)] }
def TablesRunsSaid : Prop := tablesRunsRow.holds Tryd.pinned (OpenSpec.ofChange tablesRunsSpec)

/-- ITS FALSE NEIGHBOUR: 'it returns false'. Refute it at one input. -/
def tablesRunsWrong : ChangeSpec := { name := "tablesRuns", fn := fun _ => fun
  | [d1, d2, d3] => { results := [.lit (.bool false)], args := [d1, d2, d3] }
  | _ => none }
def TablesRunsWrongFalsely : Prop := tablesRunsRow.holds Tryd.pinned (OpenSpec.ofChange tablesRunsWrong)

/-- 'platterlaw10.TablesOldOrNew': WHATEVER THE INPUT: true; the input reads as it did. -/
def tablesOldOrNewSpec : ChangeSpec := { name := "tablesOldOrNew", fn := fun _ => fun
  | [d1, d2] => { results := [.lit (.bool true)], args := [d1, d2] }
  | _ => none }
def tablesOldOrNewRow : OpenClaim := { program := "ytcpglghklmfbcaadoor", sum := "3a2d47c49767ae61dd705d558869976b277c3892d535958391efbe7afd88dca9", func := "platter/platterlaw10.TablesOldOrNew", spec := "tablesOldOrNew", unfollowed := true, recurses := true, named := ["platter/tables.bad"], apart := false, laid := [("platter/tables.bad", laid_platter_tables_bad)] }
def TablesOldOrNewSaid : Prop := tablesOldOrNewRow.holds Tryd.pinned (OpenSpec.ofChange tablesOldOrNewSpec)

/-- ITS FALSE NEIGHBOUR: 'it returns false'. Refute it at one input. -/
def tablesOldOrNewWrong : ChangeSpec := { name := "tablesOldOrNew", fn := fun _ => fun
  | [d1, d2] => { results := [.lit (.bool false)], args := [d1, d2] }
  | _ => none }
def TablesOldOrNewWrongFalsely : Prop := tablesOldOrNewRow.holds Tryd.pinned (OpenSpec.ofChange tablesOldOrNewWrong)

/-- 'platterlaw10.TablesAgain': WHATEVER THE INPUT: true; the input reads as it did. -/
def tablesAgainSpec : ChangeSpec := { name := "tablesAgain", fn := fun _ => fun
  | [d1, d2] => { results := [.lit (.bool true)], args := [d1, d2] }
  | _ => none }
def tablesAgainRow : OpenClaim := { program := "ytcpglghklmfbcaadoor", sum := "3a2d47c49767ae61dd705d558869976b277c3892d535958391efbe7afd88dca9", func := "platter/platterlaw10.TablesAgain", spec := "tablesAgain", unfollowed := true, recurses := true, named := ["platter/tables.bad"], apart := false, laid := [("platter/tables.bad", laid_platter_tables_bad)] }
def TablesAgainSaid : Prop := tablesAgainRow.holds Tryd.pinned (OpenSpec.ofChange tablesAgainSpec)

/-- ITS FALSE NEIGHBOUR: 'it returns false'. Refute it at one input. -/
def tablesAgainWrong : ChangeSpec := { name := "tablesAgain", fn := fun _ => fun
  | [d1, d2] => { results := [.lit (.bool false)], args := [d1, d2] }
  | _ => none }
def TablesAgainWrongFalsely : Prop := tablesAgainRow.holds Tryd.pinned (OpenSpec.ofChange tablesAgainWrong)

/-- 'platterlaw10.TablesRenewed': WHATEVER THE INPUT: true; the input reads as it did. -/
def tablesRenewedSpec : ChangeSpec := { name := "tablesRenewed", fn := fun _ => fun
  | [d1, d2] => { results := [.lit (.bool true)], args := [d1, d2] }
  | _ => none }
def tablesRenewedRow : OpenClaim := { program := "ytcpglghklmfbcaadoor", sum := "3a2d47c49767ae61dd705d558869976b277c3892d535958391efbe7afd88dca9", func := "platter/platterlaw10.TablesRenewed", spec := "tablesRenewed", unfollowed := true, recurses := true, named := ["platter/tables.bad"], apart := false, laid := [("platter/tables.bad", laid_platter_tables_bad)] }
def TablesRenewedSaid : Prop := tablesRenewedRow.holds Tryd.pinned (OpenSpec.ofChange tablesRenewedSpec)

/-- ITS FALSE NEIGHBOUR: 'it returns false'. Refute it at one input. -/
def tablesRenewedWrong : ChangeSpec := { name := "tablesRenewed", fn := fun _ => fun
  | [d1, d2] => { results := [.lit (.bool false)], args := [d1, d2] }
  | _ => none }
def TablesRenewedWrongFalsely : Prop := tablesRenewedRow.holds Tryd.pinned (OpenSpec.ofChange tablesRenewedWrong)

/-- 'platterlaw10.TablesWrites': WHATEVER THE INPUT: true; the input reads as it did. -/
def tablesWritesSpec : ChangeSpec := { name := "tablesWrites", fn := fun _ => fun
  | [d1, d2] => { results := [.lit (.bool true)], args := [d1, d2] }
  | _ => none }
def tablesWritesRow : OpenClaim := { program := "ytcpglghklmfbcaadoor", sum := "3a2d47c49767ae61dd705d558869976b277c3892d535958391efbe7afd88dca9", func := "platter/platterlaw10.TablesWrites", spec := "tablesWrites", unfollowed := true, recurses := true, named := ["platter/tables.bad"], apart := false, laid := [("platter/tables.bad", laid_platter_tables_bad)] }
def TablesWritesSaid : Prop := tablesWritesRow.holds Tryd.pinned (OpenSpec.ofChange tablesWritesSpec)

/-- ITS FALSE NEIGHBOUR: 'it returns false'. Refute it at one input. -/
def tablesWritesWrong : ChangeSpec := { name := "tablesWrites", fn := fun _ => fun
  | [d1, d2] => { results := [.lit (.bool false)], args := [d1, d2] }
  | _ => none }
def TablesWritesWrongFalsely : Prop := tablesWritesRow.holds Tryd.pinned (OpenSpec.ofChange tablesWritesWrong)

/- THE SECOND FORM. 'bulk': how many values and letters a reading holds, each counted each time it is reached (what is shared counts as often as it is met; a slice's spare places count too). A statement '..UptoSaid' is the law's where the arguments, and the package variables that the reading takes, are together of bulk at most 1048576: NARROWER than '..Said'. Prove '..Said' where nothing that the law and all that it calls make is longer than what came in: it says more and counts as full. Else prove '..UptoSaid'. A law counts once. -/
mutual
def uptoBulk {H : Type} : DataW H → Nat
  | .lit (.string bytes) => bytes.length + 1
  | .lit _ => 1
  | .nil => 1
  | .ptr d => uptoBulk d + 1
  | .slice elems spare => uptoBulkAll elems + uptoBulkAll spare + 1
  | .agg parts => uptoBulkAll parts + 1
  | .iface _ d => uptoBulk d + 1
  | .map entries => uptoBulkEntries entries + 1
  | .held _ => 1
def uptoBulkAll {H : Type} : List (DataW H) → Nat
  | [] => 0
  | d :: r => uptoBulk d + uptoBulkAll r
def uptoBulkEntries {H : Type} : List (Lit × DataW H) → Nat
  | [] => 0
  | x :: r => uptoBulkEntry x + uptoBulkEntries r
def uptoBulkEntry {H : Type} : Lit × DataW H → Nat
  | (.string bytes, d) => bytes.length + uptoBulk d + 1
  | (_, d) => uptoBulk d + 1
 end
def uptoSmall : (H : Type) → List (DataW H) → Bool := fun _ ds => decide (uptoBulkAll ds ≤ 1048576)
def OpenSpec.upto (s : _root_.Go.ChangeSpec) : _root_.Go.OpenSpec := { _root_.Go.OpenSpec.ofChange s with cond := some uptoSmall }

/-- 'platterlaw10.TablesRot', WHERE WHAT IT READS IS OF BULK AT MOST 1048576: true; the input reads as it did. -/
def tablesRotUptoRow : OpenClaim := { program := "ytcpglghklmfbcaadoor", sum := "3a2d47c49767ae61dd705d558869976b277c3892d535958391efbe7afd88dca9", func := "platter/platterlaw10.TablesRot", spec := "tablesRot", unfollowed := true, recurses := true, named := ["platter/tables.bad"], apart := false, laid := [("platter/tables.bad", laid_platter_tables_bad)], narrowed := true }
def TablesRotUptoSaid : Prop := tablesRotUptoRow.holds Tryd.pinned (OpenSpec.upto tablesRotSpec)

/-- 'platterlaw10.TablesOrder', WHERE WHAT IT READS IS OF BULK AT MOST 1048576: true; the input reads as it did. -/
def tablesOrderUptoRow : OpenClaim := { program := "ytcpglghklmfbcaadoor", sum := "3a2d47c49767ae61dd705d558869976b277c3892d535958391efbe7afd88dca9", func := "platter/platterlaw10.TablesOrder", spec := "tablesOrder", unfollowed := true, recurses := true, named := ["platter/tables.bad"], apart := false, laid := [("platter/tables.bad", laid_platter_tables_bad)], narrowed := true }
def TablesOrderUptoSaid : Prop := tablesOrderUptoRow.holds Tryd.pinned (OpenSpec.upto tablesOrderSpec)

/-- 'platterlaw10.TablesRuns', WHERE WHAT IT READS IS OF BULK AT MOST 1048576: true; the input reads as it did. -/
def tablesRunsUptoRow : OpenClaim := { program := "ytcpglghklmfbcaadoor", sum := "3a2d47c49767ae61dd705d558869976b277c3892d535958391efbe7afd88dca9", func := "platter/platterlaw10.TablesRuns", spec := "tablesRuns", unfollowed := true, recurses := true, named := ["platter/tables.bad"], apart := false, laid := [("platter/tables.bad", laid_platter_tables_bad)], narrowed := true }
def TablesRunsUptoSaid : Prop := tablesRunsUptoRow.holds Tryd.pinned (OpenSpec.upto tablesRunsSpec)

/-- 'platterlaw10.TablesOldOrNew', WHERE WHAT IT READS IS OF BULK AT MOST 1048576: true; the input reads as it did. -/
def tablesOldOrNewUptoRow : OpenClaim := { program := "ytcpglghklmfbcaadoor", sum := "3a2d47c49767ae61dd705d558869976b277c3892d535958391efbe7afd88dca9", func := "platter/platterlaw10.TablesOldOrNew", spec := "tablesOldOrNew", unfollowed := true, recurses := true, named := ["platter/tables.bad"], apart := false, laid := [("platter/tables.bad", laid_platter_tables_bad)], narrowed := true }
def TablesOldOrNewUptoSaid : Prop := tablesOldOrNewUptoRow.holds Tryd.pinned (OpenSpec.upto tablesOldOrNewSpec)

/-- 'platterlaw10.TablesAgain', WHERE WHAT IT READS IS OF BULK AT MOST 1048576: true; the input reads as it did. -/
def tablesAgainUptoRow : OpenClaim := { program := "ytcpglghklmfbcaadoor", sum := "3a2d47c49767ae61dd705d558869976b277c3892d535958391efbe7afd88dca9", func := "platter/platterlaw10.TablesAgain", spec := "tablesAgain", unfollowed := true, recurses := true, named := ["platter/tables.bad"], apart := false, laid := [("platter/tables.bad", laid_platter_tables_bad)], narrowed := true }
def TablesAgainUptoSaid : Prop := tablesAgainUptoRow.holds Tryd.pinned (OpenSpec.upto tablesAgainSpec)

/-- 'platterlaw10.TablesRenewed', WHERE WHAT IT READS IS OF BULK AT MOST 1048576: true; the input reads as it did. -/
def tablesRenewedUptoRow : OpenClaim := { program := "ytcpglghklmfbcaadoor", sum := "3a2d47c49767ae61dd705d558869976b277c3892d535958391efbe7afd88dca9", func := "platter/platterlaw10.TablesRenewed", spec := "tablesRenewed", unfollowed := true, recurses := true, named := ["platter/tables.bad"], apart := false, laid := [("platter/tables.bad", laid_platter_tables_bad)], narrowed := true }
def TablesRenewedUptoSaid : Prop := tablesRenewedUptoRow.holds Tryd.pinned (OpenSpec.upto tablesRenewedSpec)

/-- 'platterlaw10.TablesWrites', WHERE WHAT IT READS IS OF BULK AT MOST 1048576: true; the input reads as it did. -/
def tablesWritesUptoRow : OpenClaim := { program := "ytcpglghklmfbcaadoor", sum := "3a2d47c49767ae61dd705d558869976b277c3892d535958391efbe7afd88dca9", func := "platter/platterlaw10.TablesWrites", spec := "tablesWrites", unfollowed := true, recurses := true, named := ["platter/tables.bad"], apart := false, laid := [("platter/tables.bad", laid_platter_tables_bad)], narrowed := true }
def TablesWritesUptoSaid : Prop := tablesWritesUptoRow.holds Tryd.pinned (OpenSpec.upto tablesWritesSpec)

end Rows
end Go.Proofs.YtcpglghklmfbcaaDoor
