/-
  No cell of these rows narrows 'for every input' (looked for: loops, veiled, ifaces, maps, wideKeys, modest, calm, conditions, laid).
  DERIVED. THE GIVEN ROWS OF THIS SEAT. 6 by the template 'for every input the law returns true; each argument reads behind the call as it read before'; 0 by the template 'total and deterministic' (their statements: YteifmmjogaadlaaGreatTotals.lean).
  GIVEN WITH THE SEED: the statements are not yours to turn. If you find one false, say at which input.
  Laid BY PROGRAM, IN A SANDBOX (cutbox-rows.mjs): the forced cells as the released guide's own fill.sh prints them over the translation 8e6cfbecde72f968… (all of the seat's roots in one cut). By AI agents, Wed Nov 11 2026. No macro, syntax, notation, axiom, sorry.
-/
import Derived.Test.YteifmmjogaadlaaGreatChecked
import GoSem.Claim
import GoSem.ClaimJoined
import GoSem.ClaimMapViews
import Derived.JoinedTies
import Derived.KernelRfl
namespace Go.Proofs.YteifmmjogaadlaaGreat
/- THE CELL 'sum', in the pinned program and in every row, IS THE sha256 OF THE DUMP (.gsa) THAT YteifmmjogaadlaaGreatProg.lean LOADS. Nothing in Lean hashes anything: it is a label: what it is worth is what the hold of that sum in a sandbox is worth. -/
noncomputable def Tryz.pinned : Pinned := { name := "yteifmmjogaadlaagreat", sum := "8e6cfbecde72f9688accfa3729d88b7d051128f88ed0cdba1473aac68b063537", checked := Tryz.checked }
namespace Rows
def none {H : Type} : Left H := { results := [], args := [] }

/-- 'twinelaw9.WorldStamps': WHATEVER THE INPUT: true; the input reads as it did. -/
def worldStampsSpec : ChangeSpec := { name := "worldStamps", fn := fun _ => fun
  | [d1, d2] => { results := [.lit (.bool true)], args := [d1, d2] }
  | _ => none }
def worldStampsRow : OpenClaim := { program := "yteifmmjogaadlaagreat", sum := "8e6cfbecde72f9688accfa3729d88b7d051128f88ed0cdba1473aac68b063537", func := "twine/twinelaw9.WorldStamps", spec := "worldStamps", inPlace := ["internal/bytealg.IndexByteString", "internal/bytealg.CountString", "internal/bytealg.IndexString"], unfollowed := true, recurses := true, named := ["internal/bytealg.MaxLen"], apart := false }
def WorldStampsSaid : Prop := worldStampsRow.holds Tryz.pinned (OpenSpec.ofChange worldStampsSpec)

/-- ITS FALSE NEIGHBOUR: 'it returns false'. Refute it at one input. -/
def worldStampsWrong : ChangeSpec := { name := "worldStamps", fn := fun _ => fun
  | [d1, d2] => { results := [.lit (.bool false)], args := [d1, d2] }
  | _ => none }
def WorldStampsWrongFalsely : Prop := worldStampsRow.holds Tryz.pinned (OpenSpec.ofChange worldStampsWrong)

/-- 'twinelaw9.WorldKeeps': WHATEVER THE INPUT: true; the input reads as it did. -/
def worldKeepsSpec : ChangeSpec := { name := "worldKeeps", fn := fun _ => fun
  | [d1, d2, d3, d4] => { results := [.lit (.bool true)], args := [d1, d2, d3, d4] }
  | _ => none }
def worldKeepsRow : OpenClaim := { program := "yteifmmjogaadlaagreat", sum := "8e6cfbecde72f9688accfa3729d88b7d051128f88ed0cdba1473aac68b063537", func := "twine/twinelaw9.WorldKeeps", spec := "worldKeeps", inPlace := ["internal/bytealg.IndexByteString", "internal/bytealg.CountString", "internal/bytealg.IndexString"], unfollowed := true, recurses := true, named := ["internal/bytealg.MaxLen"], apart := false }
def WorldKeepsSaid : Prop := worldKeepsRow.holds Tryz.pinned (OpenSpec.ofChange worldKeepsSpec)

/-- ITS FALSE NEIGHBOUR: 'it returns false'. Refute it at one input. -/
def worldKeepsWrong : ChangeSpec := { name := "worldKeeps", fn := fun _ => fun
  | [d1, d2, d3, d4] => { results := [.lit (.bool false)], args := [d1, d2, d3, d4] }
  | _ => none }
def WorldKeepsWrongFalsely : Prop := worldKeepsRow.holds Tryz.pinned (OpenSpec.ofChange worldKeepsWrong)

/-- 'twinelaw9.WorldPlays': WHATEVER THE INPUT: true; the input reads as it did. -/
def worldPlaysSpec : ChangeSpec := { name := "worldPlays", fn := fun _ => fun
  | [d1, d2, d3, d4] => { results := [.lit (.bool true)], args := [d1, d2, d3, d4] }
  | _ => none }
def worldPlaysRow : OpenClaim := { program := "yteifmmjogaadlaagreat", sum := "8e6cfbecde72f9688accfa3729d88b7d051128f88ed0cdba1473aac68b063537", func := "twine/twinelaw9.WorldPlays", spec := "worldPlays", inPlace := ["internal/bytealg.IndexByteString", "internal/bytealg.CountString", "internal/bytealg.IndexString"], unfollowed := true, recurses := true, named := ["internal/bytealg.MaxLen"], apart := false }
def WorldPlaysSaid : Prop := worldPlaysRow.holds Tryz.pinned (OpenSpec.ofChange worldPlaysSpec)

/-- ITS FALSE NEIGHBOUR: 'it returns false'. Refute it at one input. -/
def worldPlaysWrong : ChangeSpec := { name := "worldPlays", fn := fun _ => fun
  | [d1, d2, d3, d4] => { results := [.lit (.bool false)], args := [d1, d2, d3, d4] }
  | _ => none }
def WorldPlaysWrongFalsely : Prop := worldPlaysRow.holds Tryz.pinned (OpenSpec.ofChange worldPlaysWrong)

/-- 'twinelaw9.WorldLooks': WHATEVER THE INPUT: true; the input reads as it did. -/
def worldLooksSpec : ChangeSpec := { name := "worldLooks", fn := fun _ => fun
  | [d1, d2, d3, d4, d5, d6] => { results := [.lit (.bool true)], args := [d1, d2, d3, d4, d5, d6] }
  | _ => none }
def worldLooksRow : OpenClaim := { program := "yteifmmjogaadlaagreat", sum := "8e6cfbecde72f9688accfa3729d88b7d051128f88ed0cdba1473aac68b063537", func := "twine/twinelaw9.WorldLooks", spec := "worldLooks", inPlace := ["internal/bytealg.IndexByteString", "internal/bytealg.CountString", "internal/bytealg.IndexString"], unfollowed := true, recurses := true, named := ["internal/bytealg.MaxLen"], apart := false }
def WorldLooksSaid : Prop := worldLooksRow.holds Tryz.pinned (OpenSpec.ofChange worldLooksSpec)

/-- ITS FALSE NEIGHBOUR: 'it returns false'. Refute it at one input. -/
def worldLooksWrong : ChangeSpec := { name := "worldLooks", fn := fun _ => fun
  | [d1, d2, d3, d4, d5, d6] => { results := [.lit (.bool false)], args := [d1, d2, d3, d4, d5, d6] }
  | _ => none }
def WorldLooksWrongFalsely : Prop := worldLooksRow.holds Tryz.pinned (OpenSpec.ofChange worldLooksWrong)

/-- 'twinelaw9.WorldMany': WHATEVER THE INPUT: true; the input reads as it did. -/
def worldManySpec : ChangeSpec := { name := "worldMany", fn := fun _ => fun
  | [d1, d2, d3] => { results := [.lit (.bool true)], args := [d1, d2, d3] }
  | _ => none }
def worldManyRow : OpenClaim := { program := "yteifmmjogaadlaagreat", sum := "8e6cfbecde72f9688accfa3729d88b7d051128f88ed0cdba1473aac68b063537", func := "twine/twinelaw9.WorldMany", spec := "worldMany", inPlace := ["internal/bytealg.IndexByteString", "internal/bytealg.CountString", "internal/bytealg.IndexString"], unfollowed := true, recurses := true, named := ["internal/bytealg.MaxLen"], apart := false }
def WorldManySaid : Prop := worldManyRow.holds Tryz.pinned (OpenSpec.ofChange worldManySpec)

/-- ITS FALSE NEIGHBOUR: 'it returns false'. Refute it at one input. -/
def worldManyWrong : ChangeSpec := { name := "worldMany", fn := fun _ => fun
  | [d1, d2, d3] => { results := [.lit (.bool false)], args := [d1, d2, d3] }
  | _ => none }
def WorldManyWrongFalsely : Prop := worldManyRow.holds Tryz.pinned (OpenSpec.ofChange worldManyWrong)

/-- 'twinelaw9.WorldLong': WHATEVER THE INPUT: true; the input reads as it did. -/
def worldLongSpec : ChangeSpec := { name := "worldLong", fn := fun _ => fun
  | [d1, d2] => { results := [.lit (.bool true)], args := [d1, d2] }
  | _ => none }
def worldLongRow : OpenClaim := { program := "yteifmmjogaadlaagreat", sum := "8e6cfbecde72f9688accfa3729d88b7d051128f88ed0cdba1473aac68b063537", func := "twine/twinelaw9.WorldLong", spec := "worldLong", inPlace := ["internal/bytealg.IndexByteString", "internal/bytealg.CountString", "internal/bytealg.IndexString"], unfollowed := true, recurses := true, named := ["internal/bytealg.MaxLen"], apart := false }
def WorldLongSaid : Prop := worldLongRow.holds Tryz.pinned (OpenSpec.ofChange worldLongSpec)

/-- ITS FALSE NEIGHBOUR: 'it returns false'. Refute it at one input. -/
def worldLongWrong : ChangeSpec := { name := "worldLong", fn := fun _ => fun
  | [d1, d2] => { results := [.lit (.bool false)], args := [d1, d2] }
  | _ => none }
def WorldLongWrongFalsely : Prop := worldLongRow.holds Tryz.pinned (OpenSpec.ofChange worldLongWrong)

/- THE SECOND FORM. 'bulk': how many values and letters a reading holds, each counted each time it is reached (what is shared counts as often as it is met; a slice's spare places count too). A statement '..UptoSaid' is the law's where the arguments, and the package variables that the reading takes, are together of bulk at most 1048576: NARROWER than '..Said'. Prove '..Said' where nothing that the law and all that it calls make is longer than what came in: it says more and counts as full. Else prove '..UptoSaid'. A law counts once. -/
mutual
def uptoBulk {H : Type} : DataW H → Nat
  | .lit (.string bytes) => bytes.length + 1
  | .lit _ => 1
  | .nil => 1
  | .ptr d => uptoBulk d + 1
  | .slice elems spare => uptoBulkAll elems + uptoBulkAll spare + 1
  | .agg parts => uptoBulkAll parts + 1
  | .iface _ d => uptoBulk d + 1
  | .map entries => uptoBulkEntries entries + 1
  | .held _ => 1
def uptoBulkAll {H : Type} : List (DataW H) → Nat
  | [] => 0
  | d :: r => uptoBulk d + uptoBulkAll r
def uptoBulkEntries {H : Type} : List (Lit × DataW H) → Nat
  | [] => 0
  | x :: r => uptoBulkEntry x + uptoBulkEntries r
def uptoBulkEntry {H : Type} : Lit × DataW H → Nat
  | (.string bytes, d) => bytes.length + uptoBulk d + 1
  | (_, d) => uptoBulk d + 1
 end
def uptoSmall : (H : Type) → List (DataW H) → Bool := fun _ ds => decide (uptoBulkAll ds ≤ 1048576)
def OpenSpec.upto (s : _root_.Go.ChangeSpec) : _root_.Go.OpenSpec := { _root_.Go.OpenSpec.ofChange s with cond := some uptoSmall }

/-- 'twinelaw9.WorldStamps', WHERE WHAT IT READS IS OF BULK AT MOST 1048576: true; the input reads as it did. -/
def worldStampsUptoRow : OpenClaim := { program := "yteifmmjogaadlaagreat", sum := "8e6cfbecde72f9688accfa3729d88b7d051128f88ed0cdba1473aac68b063537", func := "twine/twinelaw9.WorldStamps", spec := "worldStamps", inPlace := ["internal/bytealg.IndexByteString", "internal/bytealg.CountString", "internal/bytealg.IndexString"], unfollowed := true, recurses := true, named := ["internal/bytealg.MaxLen"], apart := false, narrowed := true }
def WorldStampsUptoSaid : Prop := worldStampsUptoRow.holds Tryz.pinned (OpenSpec.upto worldStampsSpec)

/-- 'twinelaw9.WorldKeeps', WHERE WHAT IT READS IS OF BULK AT MOST 1048576: true; the input reads as it did. -/
def worldKeepsUptoRow : OpenClaim := { program := "yteifmmjogaadlaagreat", sum := "8e6cfbecde72f9688accfa3729d88b7d051128f88ed0cdba1473aac68b063537", func := "twine/twinelaw9.WorldKeeps", spec := "worldKeeps", inPlace := ["internal/bytealg.IndexByteString", "internal/bytealg.CountString", "internal/bytealg.IndexString"], unfollowed := true, recurses := true, named := ["internal/bytealg.MaxLen"], apart := false, narrowed := true }
def WorldKeepsUptoSaid : Prop := worldKeepsUptoRow.holds Tryz.pinned (OpenSpec.upto worldKeepsSpec)

/-- 'twinelaw9.WorldPlays', WHERE WHAT IT READS IS OF BULK AT MOST 1048576: true; the input reads as it did. -/
def worldPlaysUptoRow : OpenClaim := { program := "yteifmmjogaadlaagreat", sum := "8e6cfbecde72f9688accfa3729d88b7d051128f88ed0cdba1473aac68b063537", func := "twine/twinelaw9.WorldPlays", spec := "worldPlays", inPlace := ["internal/bytealg.IndexByteString", "internal/bytealg.CountString", "internal/bytealg.IndexString"], unfollowed := true, recurses := true, named := ["internal/bytealg.MaxLen"], apart := false, narrowed := true }
def WorldPlaysUptoSaid : Prop := worldPlaysUptoRow.holds Tryz.pinned (OpenSpec.upto worldPlaysSpec)

/-- 'twinelaw9.WorldLooks', WHERE WHAT IT READS IS OF BULK AT MOST 1048576: true; the input reads as it did. -/
def worldLooksUptoRow : OpenClaim := { program := "yteifmmjogaadlaagreat", sum := "8e6cfbecde72f9688accfa3729d88b7d051128f88ed0cdba1473aac68b063537", func := "twine/twinelaw9.WorldLooks", spec := "worldLooks", inPlace := ["internal/bytealg.IndexByteString", "internal/bytealg.CountString", "internal/bytealg.IndexString"], unfollowed := true, recurses := true, named := ["internal/bytealg.MaxLen"], apart := false, narrowed := true }
def WorldLooksUptoSaid : Prop := worldLooksUptoRow.holds Tryz.pinned (OpenSpec.upto worldLooksSpec)

/-- 'twinelaw9.WorldMany', WHERE WHAT IT READS IS OF BULK AT MOST 1048576: true; the input reads as it did. -/
def worldManyUptoRow : OpenClaim := { program := "yteifmmjogaadlaagreat", sum := "8e6cfbecde72f9688accfa3729d88b7d051128f88ed0cdba1473aac68b063537", func := "twine/twinelaw9.WorldMany", spec := "worldMany", inPlace := ["internal/bytealg.IndexByteString", "internal/bytealg.CountString", "internal/bytealg.IndexString"], unfollowed := true, recurses := true, named := ["internal/bytealg.MaxLen"], apart := false, narrowed := true }
def WorldManyUptoSaid : Prop := worldManyUptoRow.holds Tryz.pinned (OpenSpec.upto worldManySpec)

/-- 'twinelaw9.WorldLong', WHERE WHAT IT READS IS OF BULK AT MOST 1048576: true; the input reads as it did. -/
def worldLongUptoRow : OpenClaim := { program := "yteifmmjogaadlaagreat", sum := "8e6cfbecde72f9688accfa3729d88b7d051128f88ed0cdba1473aac68b063537", func := "twine/twinelaw9.WorldLong", spec := "worldLong", inPlace := ["internal/bytealg.IndexByteString", "internal/bytealg.CountString", "internal/bytealg.IndexString"], unfollowed := true, recurses := true, named := ["internal/bytealg.MaxLen"], apart := false, narrowed := true }
def WorldLongUptoSaid : Prop := worldLongUptoRow.holds Tryz.pinned (OpenSpec.upto worldLongSpec)

end Rows
end Go.Proofs.YteifmmjogaadlaaGreat
