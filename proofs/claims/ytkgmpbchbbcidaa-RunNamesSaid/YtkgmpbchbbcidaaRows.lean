/-
  No cell of these rows narrows 'for every input' (looked for: loops, veiled, ifaces, maps, wideKeys, modest, calm, conditions, laid).
  DERIVED. THE GIVEN ROWS OF THIS SEAT. 6 by the template 'for every input the law returns true; each argument reads behind the call as it read before'; 0 by the template 'total and deterministic' (their statements: YtkgmpbchbbcidaaTotals.lean).
  GIVEN WITH THE SEED: the statements are not yours to turn. If you find one false, say at which input.
  Laid BY PROGRAM, IN A SANDBOX (cutbox-rows.mjs): the forced cells as the released guide's own fill.sh prints them over the translation 5efaa47607279906… (all of the seat's roots in one cut). By AI agents, Wed Nov 11 2026. No macro, syntax, notation, axiom, sorry.
-/
import Derived.Test.YtkgmpbchbbcidaaChecked
import GoSem.Claim
import GoSem.ClaimJoined
import GoSem.ClaimMapViews
import Derived.JoinedTies
import Derived.KernelRfl
namespace Go.Proofs.Ytkgmpbchbbcidaa
/- THE CELL 'sum', in the pinned program and in every row, IS THE sha256 OF THE DUMP (.gsa) THAT YtkgmpbchbbcidaaProg.lean LOADS. Nothing in Lean hashes anything: it is a label: what it is worth is what the hold of that sum in a sandbox is worth. -/
noncomputable def Try.pinned : Pinned := { name := "ytkgmpbchbbcidaa", sum := "5efaa47607279906547a4f5530e7ced74c10c5eefbf17d37b8da685eda9b9098", checked := Try.checked }
namespace Rows
def none {H : Type} : Left H := { results := [], args := [] }

/-- 'twinelaw9.WorldNames': WHATEVER THE INPUT: true; the input reads as it did. -/
def worldNamesSpec : ChangeSpec := { name := "worldNames", fn := fun _ => fun
  | [] => { results := [.lit (.bool true)], args := [] }
  | _ => none }
def worldNamesRow : OpenClaim := { program := "ytkgmpbchbbcidaa", sum := "5efaa47607279906547a4f5530e7ced74c10c5eefbf17d37b8da685eda9b9098", func := "twine/twinelaw9.WorldNames", spec := "worldNames", apart := false }
def WorldNamesSaid : Prop := worldNamesRow.holds Try.pinned (OpenSpec.ofChange worldNamesSpec)

/-- ITS FALSE NEIGHBOUR: 'it returns false'. Refute it at one input. -/
def worldNamesWrong : ChangeSpec := { name := "worldNames", fn := fun _ => fun
  | [] => { results := [.lit (.bool false)], args := [] }
  | _ => none }
def WorldNamesWrongFalsely : Prop := worldNamesRow.holds Try.pinned (OpenSpec.ofChange worldNamesWrong)

/-- 'twinelaw16.StageNames': WHATEVER THE INPUT: true; the input reads as it did. -/
def stageNamesSpec : ChangeSpec := { name := "stageNames", fn := fun _ => fun
  | [] => { results := [.lit (.bool true)], args := [] }
  | _ => none }
def stageNamesRow : OpenClaim := { program := "ytkgmpbchbbcidaa", sum := "5efaa47607279906547a4f5530e7ced74c10c5eefbf17d37b8da685eda9b9098", func := "twine/twinelaw16.StageNames", spec := "stageNames", apart := false }
def StageNamesSaid : Prop := stageNamesRow.holds Try.pinned (OpenSpec.ofChange stageNamesSpec)

/-- ITS FALSE NEIGHBOUR: 'it returns false'. Refute it at one input. -/
def stageNamesWrong : ChangeSpec := { name := "stageNames", fn := fun _ => fun
  | [] => { results := [.lit (.bool false)], args := [] }
  | _ => none }
def StageNamesWrongFalsely : Prop := stageNamesRow.holds Try.pinned (OpenSpec.ofChange stageNamesWrong)

/-- 'twinelaw17.ApplyNames': WHATEVER THE INPUT: true; the input reads as it did. -/
def applyNamesSpec : ChangeSpec := { name := "applyNames", fn := fun _ => fun
  | [] => { results := [.lit (.bool true)], args := [] }
  | _ => none }
def applyNamesRow : OpenClaim := { program := "ytkgmpbchbbcidaa", sum := "5efaa47607279906547a4f5530e7ced74c10c5eefbf17d37b8da685eda9b9098", func := "twine/twinelaw17.ApplyNames", spec := "applyNames", apart := false }
def ApplyNamesSaid : Prop := applyNamesRow.holds Try.pinned (OpenSpec.ofChange applyNamesSpec)

/-- ITS FALSE NEIGHBOUR: 'it returns false'. Refute it at one input. -/
def applyNamesWrong : ChangeSpec := { name := "applyNames", fn := fun _ => fun
  | [] => { results := [.lit (.bool false)], args := [] }
  | _ => none }
def ApplyNamesWrongFalsely : Prop := applyNamesRow.holds Try.pinned (OpenSpec.ofChange applyNamesWrong)

/-- 'twinelaw12.ScanNames': WHATEVER THE INPUT: true; the input reads as it did. -/
def scanNamesSpec : ChangeSpec := { name := "scanNames", fn := fun _ => fun
  | [] => { results := [.lit (.bool true)], args := [] }
  | _ => none }
def scanNamesRow : OpenClaim := { program := "ytkgmpbchbbcidaa", sum := "5efaa47607279906547a4f5530e7ced74c10c5eefbf17d37b8da685eda9b9098", func := "twine/twinelaw12.ScanNames", spec := "scanNames", apart := false }
def ScanNamesSaid : Prop := scanNamesRow.holds Try.pinned (OpenSpec.ofChange scanNamesSpec)

/-- ITS FALSE NEIGHBOUR: 'it returns false'. Refute it at one input. -/
def scanNamesWrong : ChangeSpec := { name := "scanNames", fn := fun _ => fun
  | [] => { results := [.lit (.bool false)], args := [] }
  | _ => none }
def ScanNamesWrongFalsely : Prop := scanNamesRow.holds Try.pinned (OpenSpec.ofChange scanNamesWrong)

/-- 'twinelaw19.RunNames': WHATEVER THE INPUT: true; the input reads as it did. -/
def runNamesSpec : ChangeSpec := { name := "runNames", fn := fun _ => fun
  | [] => { results := [.lit (.bool true)], args := [] }
  | _ => none }
def runNamesRow : OpenClaim := { program := "ytkgmpbchbbcidaa", sum := "5efaa47607279906547a4f5530e7ced74c10c5eefbf17d37b8da685eda9b9098", func := "twine/twinelaw19.RunNames", spec := "runNames", apart := false }
def RunNamesSaid : Prop := runNamesRow.holds Try.pinned (OpenSpec.ofChange runNamesSpec)

/-- ITS FALSE NEIGHBOUR: 'it returns false'. Refute it at one input. -/
def runNamesWrong : ChangeSpec := { name := "runNames", fn := fun _ => fun
  | [] => { results := [.lit (.bool false)], args := [] }
  | _ => none }
def RunNamesWrongFalsely : Prop := runNamesRow.holds Try.pinned (OpenSpec.ofChange runNamesWrong)

/-- 'twinelaw20.ScriptNames': WHATEVER THE INPUT: true; the input reads as it did. -/
def scriptNamesSpec : ChangeSpec := { name := "scriptNames", fn := fun _ => fun
  | [] => { results := [.lit (.bool true)], args := [] }
  | _ => none }
def scriptNamesRow : OpenClaim := { program := "ytkgmpbchbbcidaa", sum := "5efaa47607279906547a4f5530e7ced74c10c5eefbf17d37b8da685eda9b9098", func := "twine/twinelaw20.ScriptNames", spec := "scriptNames", apart := false }
def ScriptNamesSaid : Prop := scriptNamesRow.holds Try.pinned (OpenSpec.ofChange scriptNamesSpec)

/-- ITS FALSE NEIGHBOUR: 'it returns false'. Refute it at one input. -/
def scriptNamesWrong : ChangeSpec := { name := "scriptNames", fn := fun _ => fun
  | [] => { results := [.lit (.bool false)], args := [] }
  | _ => none }
def ScriptNamesWrongFalsely : Prop := scriptNamesRow.holds Try.pinned (OpenSpec.ofChange scriptNamesWrong)

/- THE SECOND FORM. 'bulk': how many values and letters a reading holds, each counted each time it is reached (what is shared counts as often as it is met; a slice's spare places count too). A statement '..UptoSaid' is the law's where the arguments, and the package variables that the reading takes, are together of bulk at most 1048576: NARROWER than '..Said'. Prove '..Said' where nothing that the law and all that it calls make is longer than what came in: it says more and counts as full. Else prove '..UptoSaid'. A law counts once. -/
mutual
def uptoBulk {H : Type} : DataW H → Nat
  | .lit (.string bytes) => bytes.length + 1
  | .lit _ => 1
  | .nil => 1
  | .ptr d => uptoBulk d + 1
  | .slice elems spare => uptoBulkAll elems + uptoBulkAll spare + 1
  | .agg parts => uptoBulkAll parts + 1
  | .iface _ d => uptoBulk d + 1
  | .map entries => uptoBulkEntries entries + 1
  | .held _ => 1
def uptoBulkAll {H : Type} : List (DataW H) → Nat
  | [] => 0
  | d :: r => uptoBulk d + uptoBulkAll r
def uptoBulkEntries {H : Type} : List (Lit × DataW H) → Nat
  | [] => 0
  | x :: r => uptoBulkEntry x + uptoBulkEntries r
def uptoBulkEntry {H : Type} : Lit × DataW H → Nat
  | (.string bytes, d) => bytes.length + uptoBulk d + 1
  | (_, d) => uptoBulk d + 1
 end
def uptoSmall : (H : Type) → List (DataW H) → Bool := fun _ ds => decide (uptoBulkAll ds ≤ 1048576)
def OpenSpec.upto (s : _root_.Go.ChangeSpec) : _root_.Go.OpenSpec := { _root_.Go.OpenSpec.ofChange s with cond := some uptoSmall }

/-- 'twinelaw9.WorldNames', WHERE WHAT IT READS IS OF BULK AT MOST 1048576: true; the input reads as it did. -/
def worldNamesUptoRow : OpenClaim := { program := "ytkgmpbchbbcidaa", sum := "5efaa47607279906547a4f5530e7ced74c10c5eefbf17d37b8da685eda9b9098", func := "twine/twinelaw9.WorldNames", spec := "worldNames", apart := false, narrowed := true }
def WorldNamesUptoSaid : Prop := worldNamesUptoRow.holds Try.pinned (OpenSpec.upto worldNamesSpec)

/-- 'twinelaw16.StageNames', WHERE WHAT IT READS IS OF BULK AT MOST 1048576: true; the input reads as it did. -/
def stageNamesUptoRow : OpenClaim := { program := "ytkgmpbchbbcidaa", sum := "5efaa47607279906547a4f5530e7ced74c10c5eefbf17d37b8da685eda9b9098", func := "twine/twinelaw16.StageNames", spec := "stageNames", apart := false, narrowed := true }
def StageNamesUptoSaid : Prop := stageNamesUptoRow.holds Try.pinned (OpenSpec.upto stageNamesSpec)

/-- 'twinelaw17.ApplyNames', WHERE WHAT IT READS IS OF BULK AT MOST 1048576: true; the input reads as it did. -/
def applyNamesUptoRow : OpenClaim := { program := "ytkgmpbchbbcidaa", sum := "5efaa47607279906547a4f5530e7ced74c10c5eefbf17d37b8da685eda9b9098", func := "twine/twinelaw17.ApplyNames", spec := "applyNames", apart := false, narrowed := true }
def ApplyNamesUptoSaid : Prop := applyNamesUptoRow.holds Try.pinned (OpenSpec.upto applyNamesSpec)

/-- 'twinelaw12.ScanNames', WHERE WHAT IT READS IS OF BULK AT MOST 1048576: true; the input reads as it did. -/
def scanNamesUptoRow : OpenClaim := { program := "ytkgmpbchbbcidaa", sum := "5efaa47607279906547a4f5530e7ced74c10c5eefbf17d37b8da685eda9b9098", func := "twine/twinelaw12.ScanNames", spec := "scanNames", apart := false, narrowed := true }
def ScanNamesUptoSaid : Prop := scanNamesUptoRow.holds Try.pinned (OpenSpec.upto scanNamesSpec)

/-- 'twinelaw19.RunNames', WHERE WHAT IT READS IS OF BULK AT MOST 1048576: true; the input reads as it did. -/
def runNamesUptoRow : OpenClaim := { program := "ytkgmpbchbbcidaa", sum := "5efaa47607279906547a4f5530e7ced74c10c5eefbf17d37b8da685eda9b9098", func := "twine/twinelaw19.RunNames", spec := "runNames", apart := false, narrowed := true }
def RunNamesUptoSaid : Prop := runNamesUptoRow.holds Try.pinned (OpenSpec.upto runNamesSpec)

/-- 'twinelaw20.ScriptNames', WHERE WHAT IT READS IS OF BULK AT MOST 1048576: true; the input reads as it did. -/
def scriptNamesUptoRow : OpenClaim := { program := "ytkgmpbchbbcidaa", sum := "5efaa47607279906547a4f5530e7ced74c10c5eefbf17d37b8da685eda9b9098", func := "twine/twinelaw20.ScriptNames", spec := "scriptNames", apart := false, narrowed := true }
def ScriptNamesUptoSaid : Prop := scriptNamesUptoRow.holds Try.pinned (OpenSpec.upto scriptNamesSpec)

end Rows
end Go.Proofs.Ytkgmpbchbbcidaa
