/-
  No cell of these rows narrows 'for every input' (looked for: loops, veiled, ifaces, maps, wideKeys, modest, calm, conditions, laid).
  DERIVED. THE GIVEN ROWS OF THIS SEAT. 11 by the template 'for every input the law returns true; each argument reads behind the call as it read before'; 0 by the template 'total and deterministic' (their statements: YtlklehliapbgeaaTotals.lean).
  GIVEN WITH THE SEED: the statements are not yours to turn. If you find one false, say at which input.
  Laid BY PROGRAM, IN A SANDBOX (cutbox-rows.mjs): the forced cells as the released guide's own fill.sh prints them over the translation c2de15dd7b819969… (all of the seat's roots in one cut). By AI agents, Wed Nov 11 2026. No macro, syntax, notation, axiom, sorry.
-/
import Derived.Test.YtlklehliapbgeaaChecked
import GoSem.Claim
import GoSem.ClaimJoined
import GoSem.ClaimMapViews
import Derived.JoinedTies
import Derived.KernelRfl
namespace Go.Proofs.Ytlklehliapbgeaa
/- THE CELL 'sum', in the pinned program and in every row, IS THE sha256 OF THE DUMP (.gsa) THAT YtlklehliapbgeaaProg.lean LOADS. Nothing in Lean hashes anything: it is a label: what it is worth is what the hold of that sum in a sandbox is worth. -/
noncomputable def Try.pinned : Pinned := { name := "ytlklehliapbgeaa", sum := "c2de15dd7b8199693ba6e7a570073edd7afd1aa4b0f7e99f8d1a323269dca815", checked := Try.checked }
namespace Rows
def none {H : Type} : Left H := { results := [], args := [] }

/-- 'flocculuslaw5.MixerApart': WHATEVER THE INPUT: true; the input reads as it did. -/
def mixerApartSpec : ChangeSpec := { name := "mixerApart", fn := fun _ => fun
  | [d1, d2] => { results := [.lit (.bool true)], args := [d1, d2] }
  | _ => none }
def mixerApartRow : OpenClaim := { program := "ytlklehliapbgeaa", sum := "c2de15dd7b8199693ba6e7a570073edd7afd1aa4b0f7e99f8d1a323269dca815", func := "flocculus/flocculuslaw5.MixerApart", spec := "mixerApart", apart := false }
def MixerApartSaid : Prop := mixerApartRow.holds Try.pinned (OpenSpec.ofChange mixerApartSpec)

/-- ITS FALSE NEIGHBOUR: 'it returns false'. Refute it at one input. -/
def mixerApartWrong : ChangeSpec := { name := "mixerApart", fn := fun _ => fun
  | [d1, d2] => { results := [.lit (.bool false)], args := [d1, d2] }
  | _ => none }
def MixerApartWrongFalsely : Prop := mixerApartRow.holds Try.pinned (OpenSpec.ofChange mixerApartWrong)

/-- 'flocculuslaw5.MixerTells': WHATEVER THE INPUT: true; the input reads as it did. -/
def mixerTellsSpec : ChangeSpec := { name := "mixerTells", fn := fun _ => fun
  | [d1, d2, d3] => { results := [.lit (.bool true)], args := [d1, d2, d3] }
  | _ => none }
def mixerTellsRow : OpenClaim := { program := "ytlklehliapbgeaa", sum := "c2de15dd7b8199693ba6e7a570073edd7afd1aa4b0f7e99f8d1a323269dca815", func := "flocculus/flocculuslaw5.MixerTells", spec := "mixerTells", apart := false }
def MixerTellsSaid : Prop := mixerTellsRow.holds Try.pinned (OpenSpec.ofChange mixerTellsSpec)

/-- ITS FALSE NEIGHBOUR: 'it returns false'. Refute it at one input. -/
def mixerTellsWrong : ChangeSpec := { name := "mixerTells", fn := fun _ => fun
  | [d1, d2, d3] => { results := [.lit (.bool false)], args := [d1, d2, d3] }
  | _ => none }
def MixerTellsWrongFalsely : Prop := mixerTellsRow.holds Try.pinned (OpenSpec.ofChange mixerTellsWrong)

/-- 'flocculuslaw13.HopsPlay': WHATEVER THE INPUT: true; the input reads as it did. -/
def hopsPlaySpec : ChangeSpec := { name := "hopsPlay", fn := fun _ => fun
  | [d1, d2] => { results := [.lit (.bool true)], args := [d1, d2] }
  | _ => none }
def hopsPlayRow : OpenClaim := { program := "ytlklehliapbgeaa", sum := "c2de15dd7b8199693ba6e7a570073edd7afd1aa4b0f7e99f8d1a323269dca815", func := "flocculus/flocculuslaw13.HopsPlay", spec := "hopsPlay", apart := false }
def HopsPlaySaid : Prop := hopsPlayRow.holds Try.pinned (OpenSpec.ofChange hopsPlaySpec)

/-- ITS FALSE NEIGHBOUR: 'it returns false'. Refute it at one input. -/
def hopsPlayWrong : ChangeSpec := { name := "hopsPlay", fn := fun _ => fun
  | [d1, d2] => { results := [.lit (.bool false)], args := [d1, d2] }
  | _ => none }
def HopsPlayWrongFalsely : Prop := hopsPlayRow.holds Try.pinned (OpenSpec.ofChange hopsPlayWrong)

/-- 'flocculuslaw13.HopsLeft': WHATEVER THE INPUT: true; the input reads as it did. -/
def hopsLeftSpec : ChangeSpec := { name := "hopsLeft", fn := fun _ => fun
  | [d1, d2] => { results := [.lit (.bool true)], args := [d1, d2] }
  | _ => none }
def hopsLeftRow : OpenClaim := { program := "ytlklehliapbgeaa", sum := "c2de15dd7b8199693ba6e7a570073edd7afd1aa4b0f7e99f8d1a323269dca815", func := "flocculus/flocculuslaw13.HopsLeft", spec := "hopsLeft", apart := false }
def HopsLeftSaid : Prop := hopsLeftRow.holds Try.pinned (OpenSpec.ofChange hopsLeftSpec)

/-- ITS FALSE NEIGHBOUR: 'it returns false'. Refute it at one input. -/
def hopsLeftWrong : ChangeSpec := { name := "hopsLeft", fn := fun _ => fun
  | [d1, d2] => { results := [.lit (.bool false)], args := [d1, d2] }
  | _ => none }
def HopsLeftWrongFalsely : Prop := hopsLeftRow.holds Try.pinned (OpenSpec.ofChange hopsLeftWrong)

/-- 'flocculuslaw16.HistoKeys': WHATEVER THE INPUT: true; the input reads as it did. -/
def histoKeysSpec : ChangeSpec := { name := "histoKeys", fn := fun _ => fun
  | [d1, d2, d3] => { results := [.lit (.bool true)], args := [d1, d2, d3] }
  | _ => none }
def histoKeysRow : OpenClaim := { program := "ytlklehliapbgeaa", sum := "c2de15dd7b8199693ba6e7a570073edd7afd1aa4b0f7e99f8d1a323269dca815", func := "flocculus/flocculuslaw16.HistoKeys", spec := "histoKeys", apart := false }
def HistoKeysSaid : Prop := histoKeysRow.holds Try.pinned (OpenSpec.ofChange histoKeysSpec)

/-- ITS FALSE NEIGHBOUR: 'it returns false'. Refute it at one input. -/
def histoKeysWrong : ChangeSpec := { name := "histoKeys", fn := fun _ => fun
  | [d1, d2, d3] => { results := [.lit (.bool false)], args := [d1, d2, d3] }
  | _ => none }
def HistoKeysWrongFalsely : Prop := histoKeysRow.holds Try.pinned (OpenSpec.ofChange histoKeysWrong)

/-- 'flocculustop.TopNames': WHATEVER THE INPUT: true; the input reads as it did. -/
def topNamesSpec : ChangeSpec := { name := "topNames", fn := fun _ => fun
  | [] => { results := [.lit (.bool true)], args := [] }
  | _ => none }
def topNamesRow : OpenClaim := { program := "ytlklehliapbgeaa", sum := "c2de15dd7b8199693ba6e7a570073edd7afd1aa4b0f7e99f8d1a323269dca815", func := "flocculus/flocculustop.TopNames", spec := "topNames", apart := false }
def TopNamesSaid : Prop := topNamesRow.holds Try.pinned (OpenSpec.ofChange topNamesSpec)

/-- ITS FALSE NEIGHBOUR: 'it returns false'. Refute it at one input. -/
def topNamesWrong : ChangeSpec := { name := "topNames", fn := fun _ => fun
  | [] => { results := [.lit (.bool false)], args := [] }
  | _ => none }
def TopNamesWrongFalsely : Prop := topNamesRow.holds Try.pinned (OpenSpec.ofChange topNamesWrong)

/-- 'flocculuslaw16.HistoMore': WHATEVER THE INPUT: true; the input reads as it did. -/
def histoMoreSpec : ChangeSpec := { name := "histoMore", fn := fun _ => fun
  | [d1, d2, d3, d4] => { results := [.lit (.bool true)], args := [d1, d2, d3, d4] }
  | _ => none }
def histoMoreRow : OpenClaim := { program := "ytlklehliapbgeaa", sum := "c2de15dd7b8199693ba6e7a570073edd7afd1aa4b0f7e99f8d1a323269dca815", func := "flocculus/flocculuslaw16.HistoMore", spec := "histoMore", apart := false }
def HistoMoreSaid : Prop := histoMoreRow.holds Try.pinned (OpenSpec.ofChange histoMoreSpec)

/-- ITS FALSE NEIGHBOUR: 'it returns false'. Refute it at one input. -/
def histoMoreWrong : ChangeSpec := { name := "histoMore", fn := fun _ => fun
  | [d1, d2, d3, d4] => { results := [.lit (.bool false)], args := [d1, d2, d3, d4] }
  | _ => none }
def HistoMoreWrongFalsely : Prop := histoMoreRow.holds Try.pinned (OpenSpec.ofChange histoMoreWrong)

/-- 'flocculuslaw17.LevelsTell': WHATEVER THE INPUT: true; the input reads as it did. -/
def levelsTellSpec : ChangeSpec := { name := "levelsTell", fn := fun _ => fun
  | [d1, d2, d3, d4, d5, d6] => { results := [.lit (.bool true)], args := [d1, d2, d3, d4, d5, d6] }
  | _ => none }
def levelsTellRow : OpenClaim := { program := "ytlklehliapbgeaa", sum := "c2de15dd7b8199693ba6e7a570073edd7afd1aa4b0f7e99f8d1a323269dca815", func := "flocculus/flocculuslaw17.LevelsTell", spec := "levelsTell", apart := false }
def LevelsTellSaid : Prop := levelsTellRow.holds Try.pinned (OpenSpec.ofChange levelsTellSpec)

/-- ITS FALSE NEIGHBOUR: 'it returns false'. Refute it at one input. -/
def levelsTellWrong : ChangeSpec := { name := "levelsTell", fn := fun _ => fun
  | [d1, d2, d3, d4, d5, d6] => { results := [.lit (.bool false)], args := [d1, d2, d3, d4, d5, d6] }
  | _ => none }
def LevelsTellWrongFalsely : Prop := levelsTellRow.holds Try.pinned (OpenSpec.ofChange levelsTellWrong)

/-- 'flocculuslaw17.LevelsLeast': WHATEVER THE INPUT: true; the input reads as it did. -/
def levelsLeastSpec : ChangeSpec := { name := "levelsLeast", fn := fun _ => fun
  | [d1, d2, d3, d4, d5, d6] => { results := [.lit (.bool true)], args := [d1, d2, d3, d4, d5, d6] }
  | _ => none }
def levelsLeastRow : OpenClaim := { program := "ytlklehliapbgeaa", sum := "c2de15dd7b8199693ba6e7a570073edd7afd1aa4b0f7e99f8d1a323269dca815", func := "flocculus/flocculuslaw17.LevelsLeast", spec := "levelsLeast", apart := false }
def LevelsLeastSaid : Prop := levelsLeastRow.holds Try.pinned (OpenSpec.ofChange levelsLeastSpec)

/-- ITS FALSE NEIGHBOUR: 'it returns false'. Refute it at one input. -/
def levelsLeastWrong : ChangeSpec := { name := "levelsLeast", fn := fun _ => fun
  | [d1, d2, d3, d4, d5, d6] => { results := [.lit (.bool false)], args := [d1, d2, d3, d4, d5, d6] }
  | _ => none }
def LevelsLeastWrongFalsely : Prop := levelsLeastRow.holds Try.pinned (OpenSpec.ofChange levelsLeastWrong)

/-- 'flocculuslaw17.LevelsOne': WHATEVER THE INPUT: true; the input reads as it did. -/
def levelsOneSpec : ChangeSpec := { name := "levelsOne", fn := fun _ => fun
  | [d1, d2, d3, d4, d5, d6] => { results := [.lit (.bool true)], args := [d1, d2, d3, d4, d5, d6] }
  | _ => none }
def levelsOneRow : OpenClaim := { program := "ytlklehliapbgeaa", sum := "c2de15dd7b8199693ba6e7a570073edd7afd1aa4b0f7e99f8d1a323269dca815", func := "flocculus/flocculuslaw17.LevelsOne", spec := "levelsOne", apart := false }
def LevelsOneSaid : Prop := levelsOneRow.holds Try.pinned (OpenSpec.ofChange levelsOneSpec)

/-- ITS FALSE NEIGHBOUR: 'it returns false'. Refute it at one input. -/
def levelsOneWrong : ChangeSpec := { name := "levelsOne", fn := fun _ => fun
  | [d1, d2, d3, d4, d5, d6] => { results := [.lit (.bool false)], args := [d1, d2, d3, d4, d5, d6] }
  | _ => none }
def LevelsOneWrongFalsely : Prop := levelsOneRow.holds Try.pinned (OpenSpec.ofChange levelsOneWrong)

/-- 'flocculuslaw17.LevelsMore': WHATEVER THE INPUT: true; the input reads as it did. -/
def levelsMoreSpec : ChangeSpec := { name := "levelsMore", fn := fun _ => fun
  | [d1, d2, d3, d4, d5] => { results := [.lit (.bool true)], args := [d1, d2, d3, d4, d5] }
  | _ => none }
def levelsMoreRow : OpenClaim := { program := "ytlklehliapbgeaa", sum := "c2de15dd7b8199693ba6e7a570073edd7afd1aa4b0f7e99f8d1a323269dca815", func := "flocculus/flocculuslaw17.LevelsMore", spec := "levelsMore", apart := false }
def LevelsMoreSaid : Prop := levelsMoreRow.holds Try.pinned (OpenSpec.ofChange levelsMoreSpec)

/-- ITS FALSE NEIGHBOUR: 'it returns false'. Refute it at one input. -/
def levelsMoreWrong : ChangeSpec := { name := "levelsMore", fn := fun _ => fun
  | [d1, d2, d3, d4, d5] => { results := [.lit (.bool false)], args := [d1, d2, d3, d4, d5] }
  | _ => none }
def LevelsMoreWrongFalsely : Prop := levelsMoreRow.holds Try.pinned (OpenSpec.ofChange levelsMoreWrong)

/- THE SECOND FORM. 'bulk': how many values and letters a reading holds, each counted each time it is reached (what is shared counts as often as it is met; a slice's spare places count too). A statement '..UptoSaid' is the law's where the arguments, and the package variables that the reading takes, are together of bulk at most 1048576: NARROWER than '..Said'. Prove '..Said' where nothing that the law and all that it calls make is longer than what came in: it says more and counts as full. Else prove '..UptoSaid'. A law counts once. -/
mutual
def uptoBulk {H : Type} : DataW H → Nat
  | .lit (.string bytes) => bytes.length + 1
  | .lit _ => 1
  | .nil => 1
  | .ptr d => uptoBulk d + 1
  | .slice elems spare => uptoBulkAll elems + uptoBulkAll spare + 1
  | .agg parts => uptoBulkAll parts + 1
  | .iface _ d => uptoBulk d + 1
  | .map entries => uptoBulkEntries entries + 1
  | .held _ => 1
def uptoBulkAll {H : Type} : List (DataW H) → Nat
  | [] => 0
  | d :: r => uptoBulk d + uptoBulkAll r
def uptoBulkEntries {H : Type} : List (Lit × DataW H) → Nat
  | [] => 0
  | x :: r => uptoBulkEntry x + uptoBulkEntries r
def uptoBulkEntry {H : Type} : Lit × DataW H → Nat
  | (.string bytes, d) => bytes.length + uptoBulk d + 1
  | (_, d) => uptoBulk d + 1
 end
def uptoSmall : (H : Type) → List (DataW H) → Bool := fun _ ds => decide (uptoBulkAll ds ≤ 1048576)
def OpenSpec.upto (s : _root_.Go.ChangeSpec) : _root_.Go.OpenSpec := { _root_.Go.OpenSpec.ofChange s with cond := some uptoSmall }

/-- 'flocculuslaw5.MixerApart', WHERE WHAT IT READS IS OF BULK AT MOST 1048576: true; the input reads as it did. -/
def mixerApartUptoRow : OpenClaim := { program := "ytlklehliapbgeaa", sum := "c2de15dd7b8199693ba6e7a570073edd7afd1aa4b0f7e99f8d1a323269dca815", func := "flocculus/flocculuslaw5.MixerApart", spec := "mixerApart", apart := false, narrowed := true }
def MixerApartUptoSaid : Prop := mixerApartUptoRow.holds Try.pinned (OpenSpec.upto mixerApartSpec)

/-- 'flocculuslaw5.MixerTells', WHERE WHAT IT READS IS OF BULK AT MOST 1048576: true; the input reads as it did. -/
def mixerTellsUptoRow : OpenClaim := { program := "ytlklehliapbgeaa", sum := "c2de15dd7b8199693ba6e7a570073edd7afd1aa4b0f7e99f8d1a323269dca815", func := "flocculus/flocculuslaw5.MixerTells", spec := "mixerTells", apart := false, narrowed := true }
def MixerTellsUptoSaid : Prop := mixerTellsUptoRow.holds Try.pinned (OpenSpec.upto mixerTellsSpec)

/-- 'flocculuslaw13.HopsPlay', WHERE WHAT IT READS IS OF BULK AT MOST 1048576: true; the input reads as it did. -/
def hopsPlayUptoRow : OpenClaim := { program := "ytlklehliapbgeaa", sum := "c2de15dd7b8199693ba6e7a570073edd7afd1aa4b0f7e99f8d1a323269dca815", func := "flocculus/flocculuslaw13.HopsPlay", spec := "hopsPlay", apart := false, narrowed := true }
def HopsPlayUptoSaid : Prop := hopsPlayUptoRow.holds Try.pinned (OpenSpec.upto hopsPlaySpec)

/-- 'flocculuslaw13.HopsLeft', WHERE WHAT IT READS IS OF BULK AT MOST 1048576: true; the input reads as it did. -/
def hopsLeftUptoRow : OpenClaim := { program := "ytlklehliapbgeaa", sum := "c2de15dd7b8199693ba6e7a570073edd7afd1aa4b0f7e99f8d1a323269dca815", func := "flocculus/flocculuslaw13.HopsLeft", spec := "hopsLeft", apart := false, narrowed := true }
def HopsLeftUptoSaid : Prop := hopsLeftUptoRow.holds Try.pinned (OpenSpec.upto hopsLeftSpec)

/-- 'flocculuslaw16.HistoKeys', WHERE WHAT IT READS IS OF BULK AT MOST 1048576: true; the input reads as it did. -/
def histoKeysUptoRow : OpenClaim := { program := "ytlklehliapbgeaa", sum := "c2de15dd7b8199693ba6e7a570073edd7afd1aa4b0f7e99f8d1a323269dca815", func := "flocculus/flocculuslaw16.HistoKeys", spec := "histoKeys", apart := false, narrowed := true }
def HistoKeysUptoSaid : Prop := histoKeysUptoRow.holds Try.pinned (OpenSpec.upto histoKeysSpec)

/-- 'flocculustop.TopNames', WHERE WHAT IT READS IS OF BULK AT MOST 1048576: true; the input reads as it did. -/
def topNamesUptoRow : OpenClaim := { program := "ytlklehliapbgeaa", sum := "c2de15dd7b8199693ba6e7a570073edd7afd1aa4b0f7e99f8d1a323269dca815", func := "flocculus/flocculustop.TopNames", spec := "topNames", apart := false, narrowed := true }
def TopNamesUptoSaid : Prop := topNamesUptoRow.holds Try.pinned (OpenSpec.upto topNamesSpec)

/-- 'flocculuslaw16.HistoMore', WHERE WHAT IT READS IS OF BULK AT MOST 1048576: true; the input reads as it did. -/
def histoMoreUptoRow : OpenClaim := { program := "ytlklehliapbgeaa", sum := "c2de15dd7b8199693ba6e7a570073edd7afd1aa4b0f7e99f8d1a323269dca815", func := "flocculus/flocculuslaw16.HistoMore", spec := "histoMore", apart := false, narrowed := true }
def HistoMoreUptoSaid : Prop := histoMoreUptoRow.holds Try.pinned (OpenSpec.upto histoMoreSpec)

/-- 'flocculuslaw17.LevelsTell', WHERE WHAT IT READS IS OF BULK AT MOST 1048576: true; the input reads as it did. -/
def levelsTellUptoRow : OpenClaim := { program := "ytlklehliapbgeaa", sum := "c2de15dd7b8199693ba6e7a570073edd7afd1aa4b0f7e99f8d1a323269dca815", func := "flocculus/flocculuslaw17.LevelsTell", spec := "levelsTell", apart := false, narrowed := true }
def LevelsTellUptoSaid : Prop := levelsTellUptoRow.holds Try.pinned (OpenSpec.upto levelsTellSpec)

/-- 'flocculuslaw17.LevelsLeast', WHERE WHAT IT READS IS OF BULK AT MOST 1048576: true; the input reads as it did. -/
def levelsLeastUptoRow : OpenClaim := { program := "ytlklehliapbgeaa", sum := "c2de15dd7b8199693ba6e7a570073edd7afd1aa4b0f7e99f8d1a323269dca815", func := "flocculus/flocculuslaw17.LevelsLeast", spec := "levelsLeast", apart := false, narrowed := true }
def LevelsLeastUptoSaid : Prop := levelsLeastUptoRow.holds Try.pinned (OpenSpec.upto levelsLeastSpec)

/-- 'flocculuslaw17.LevelsOne', WHERE WHAT IT READS IS OF BULK AT MOST 1048576: true; the input reads as it did. -/
def levelsOneUptoRow : OpenClaim := { program := "ytlklehliapbgeaa", sum := "c2de15dd7b8199693ba6e7a570073edd7afd1aa4b0f7e99f8d1a323269dca815", func := "flocculus/flocculuslaw17.LevelsOne", spec := "levelsOne", apart := false, narrowed := true }
def LevelsOneUptoSaid : Prop := levelsOneUptoRow.holds Try.pinned (OpenSpec.upto levelsOneSpec)

/-- 'flocculuslaw17.LevelsMore', WHERE WHAT IT READS IS OF BULK AT MOST 1048576: true; the input reads as it did. -/
def levelsMoreUptoRow : OpenClaim := { program := "ytlklehliapbgeaa", sum := "c2de15dd7b8199693ba6e7a570073edd7afd1aa4b0f7e99f8d1a323269dca815", func := "flocculus/flocculuslaw17.LevelsMore", spec := "levelsMore", apart := false, narrowed := true }
def LevelsMoreUptoSaid : Prop := levelsMoreUptoRow.holds Try.pinned (OpenSpec.upto levelsMoreSpec)

end Rows
end Go.Proofs.Ytlklehliapbgeaa
