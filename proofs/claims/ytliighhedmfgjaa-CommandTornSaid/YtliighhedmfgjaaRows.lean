/-
  NARROWER THAN 'FOR EVERY INPUT', by the rows' own cells (each row's printed sentence says how): CommandTells: loops · CommandTorn: loops.
  DERIVED. THE GIVEN ROWS OF THIS SEAT. 3 by the template 'for every input the law returns true; each argument reads behind the call as it read before'; 0 by the template 'total and deterministic' (their statements: YtliighhedmfgjaaTotals.lean).
  GIVEN WITH THE SEED: the statements are not yours to turn. If you find one false, say at which input.
  Laid BY PROGRAM, IN A SANDBOX (cutbox-rows.mjs): the forced cells as the released guide's own fill.sh prints them over the translation 06b7495d05f0f092… (all of the seat's roots in one cut). By AI agents, Wed Nov 11 2026. No macro, syntax, notation, axiom, sorry.
-/
import Derived.Test.YtliighhedmfgjaaChecked
import GoSem.Claim
import GoSem.ClaimJoined
import GoSem.ClaimMapViews
import Derived.JoinedTies
import Derived.KernelRfl
namespace Go.Proofs.Ytliighhedmfgjaa
/- THE CELL 'sum', in the pinned program and in every row, IS THE sha256 OF THE DUMP (.gsa) THAT YtliighhedmfgjaaProg.lean LOADS. Nothing in Lean hashes anything: it is a label: what it is worth is what the hold of that sum in a sandbox is worth. -/
noncomputable def Try.pinned : Pinned := { name := "ytliighhedmfgjaa", sum := "06b7495d05f0f09222f66805e076413487c53ff06dbb7fade16dd9c649295cb0", checked := Try.checked }
namespace Rows
def none {H : Type} : Left H := { results := [], args := [] }

/-- 'flocculuslaw24.CommandTells': WHATEVER THE INPUT: true; the input reads as it did. -/
def commandTellsSpec : ChangeSpec := { name := "commandTells", fn := fun _ => fun
  | [d1, d2] => { results := [.lit (.bool true)], args := [d1, d2] }
  | _ => none }
def commandTellsRow : OpenClaim := { program := "ytliighhedmfgjaa", sum := "06b7495d05f0f09222f66805e076413487c53ff06dbb7fade16dd9c649295cb0", func := "flocculus/flocculuslaw24.CommandTells", spec := "commandTells", recurses := true, loops := true, apart := false }
def CommandTellsSaid : Prop := commandTellsRow.holds Try.pinned (OpenSpec.ofChange commandTellsSpec)

/-- ITS FALSE NEIGHBOUR: 'it returns false'. Refute it at one input. -/
def commandTellsWrong : ChangeSpec := { name := "commandTells", fn := fun _ => fun
  | [d1, d2] => { results := [.lit (.bool false)], args := [d1, d2] }
  | _ => none }
def CommandTellsWrongFalsely : Prop := commandTellsRow.holds Try.pinned (OpenSpec.ofChange commandTellsWrong)

/-- 'flocculuslaw24.CommandLimits': WHATEVER THE INPUT: true; the input reads as it did. -/
def commandLimitsSpec : ChangeSpec := { name := "commandLimits", fn := fun _ => fun
  | [d1, d2] => { results := [.lit (.bool true)], args := [d1, d2] }
  | _ => none }
def commandLimitsRow : OpenClaim := { program := "ytliighhedmfgjaa", sum := "06b7495d05f0f09222f66805e076413487c53ff06dbb7fade16dd9c649295cb0", func := "flocculus/flocculuslaw24.CommandLimits", spec := "commandLimits", apart := false }
def CommandLimitsSaid : Prop := commandLimitsRow.holds Try.pinned (OpenSpec.ofChange commandLimitsSpec)

/-- ITS FALSE NEIGHBOUR: 'it returns false'. Refute it at one input. -/
def commandLimitsWrong : ChangeSpec := { name := "commandLimits", fn := fun _ => fun
  | [d1, d2] => { results := [.lit (.bool false)], args := [d1, d2] }
  | _ => none }
def CommandLimitsWrongFalsely : Prop := commandLimitsRow.holds Try.pinned (OpenSpec.ofChange commandLimitsWrong)

/-- 'flocculuslaw24.CommandTorn': WHATEVER THE INPUT: true; the input reads as it did. -/
def commandTornSpec : ChangeSpec := { name := "commandTorn", fn := fun _ => fun
  | [d1, d2, d3] => { results := [.lit (.bool true)], args := [d1, d2, d3] }
  | _ => none }
def commandTornRow : OpenClaim := { program := "ytliighhedmfgjaa", sum := "06b7495d05f0f09222f66805e076413487c53ff06dbb7fade16dd9c649295cb0", func := "flocculus/flocculuslaw24.CommandTorn", spec := "commandTorn", recurses := true, loops := true, apart := false }
def CommandTornSaid : Prop := commandTornRow.holds Try.pinned (OpenSpec.ofChange commandTornSpec)

/-- ITS FALSE NEIGHBOUR: 'it returns false'. Refute it at one input. -/
def commandTornWrong : ChangeSpec := { name := "commandTorn", fn := fun _ => fun
  | [d1, d2, d3] => { results := [.lit (.bool false)], args := [d1, d2, d3] }
  | _ => none }
def CommandTornWrongFalsely : Prop := commandTornRow.holds Try.pinned (OpenSpec.ofChange commandTornWrong)

/- THE SECOND FORM. 'bulk': how many values and letters a reading holds, each counted each time it is reached (what is shared counts as often as it is met; a slice's spare places count too). A statement '..UptoSaid' is the law's where the arguments, and the package variables that the reading takes, are together of bulk at most 1048576: NARROWER than '..Said'. Prove '..Said' where nothing that the law and all that it calls make is longer than what came in: it says more and counts as full. Else prove '..UptoSaid'. A law counts once. -/
mutual
def uptoBulk {H : Type} : DataW H → Nat
  | .lit (.string bytes) => bytes.length + 1
  | .lit _ => 1
  | .nil => 1
  | .ptr d => uptoBulk d + 1
  | .slice elems spare => uptoBulkAll elems + uptoBulkAll spare + 1
  | .agg parts => uptoBulkAll parts + 1
  | .iface _ d => uptoBulk d + 1
  | .map entries => uptoBulkEntries entries + 1
  | .held _ => 1
def uptoBulkAll {H : Type} : List (DataW H) → Nat
  | [] => 0
  | d :: r => uptoBulk d + uptoBulkAll r
def uptoBulkEntries {H : Type} : List (Lit × DataW H) → Nat
  | [] => 0
  | x :: r => uptoBulkEntry x + uptoBulkEntries r
def uptoBulkEntry {H : Type} : Lit × DataW H → Nat
  | (.string bytes, d) => bytes.length + uptoBulk d + 1
  | (_, d) => uptoBulk d + 1
 end
def uptoSmall : (H : Type) → List (DataW H) → Bool := fun _ ds => decide (uptoBulkAll ds ≤ 1048576)
def OpenSpec.upto (s : _root_.Go.ChangeSpec) : _root_.Go.OpenSpec := { _root_.Go.OpenSpec.ofChange s with cond := some uptoSmall }

/-- 'flocculuslaw24.CommandTells', WHERE WHAT IT READS IS OF BULK AT MOST 1048576: true; the input reads as it did. -/
def commandTellsUptoRow : OpenClaim := { program := "ytliighhedmfgjaa", sum := "06b7495d05f0f09222f66805e076413487c53ff06dbb7fade16dd9c649295cb0", func := "flocculus/flocculuslaw24.CommandTells", spec := "commandTells", recurses := true, loops := true, apart := false, narrowed := true }
def CommandTellsUptoSaid : Prop := commandTellsUptoRow.holds Try.pinned (OpenSpec.upto commandTellsSpec)

/-- 'flocculuslaw24.CommandLimits', WHERE WHAT IT READS IS OF BULK AT MOST 1048576: true; the input reads as it did. -/
def commandLimitsUptoRow : OpenClaim := { program := "ytliighhedmfgjaa", sum := "06b7495d05f0f09222f66805e076413487c53ff06dbb7fade16dd9c649295cb0", func := "flocculus/flocculuslaw24.CommandLimits", spec := "commandLimits", apart := false, narrowed := true }
def CommandLimitsUptoSaid : Prop := commandLimitsUptoRow.holds Try.pinned (OpenSpec.upto commandLimitsSpec)

/-- 'flocculuslaw24.CommandTorn', WHERE WHAT IT READS IS OF BULK AT MOST 1048576: true; the input reads as it did. -/
def commandTornUptoRow : OpenClaim := { program := "ytliighhedmfgjaa", sum := "06b7495d05f0f09222f66805e076413487c53ff06dbb7fade16dd9c649295cb0", func := "flocculus/flocculuslaw24.CommandTorn", spec := "commandTorn", recurses := true, loops := true, apart := false, narrowed := true }
def CommandTornUptoSaid : Prop := commandTornUptoRow.holds Try.pinned (OpenSpec.upto commandTornSpec)

end Rows
end Go.Proofs.Ytliighhedmfgjaa
