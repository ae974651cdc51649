/-
  No cell of these rows narrows 'for every input' (looked for: loops, veiled, ifaces, maps, wideKeys, modest, calm, conditions, laid).
  DERIVED. THE GIVEN ROWS OF THIS SEAT. 7 by the template 'for every input the law returns true; each argument reads behind the call as it read before'; 0 by the template 'total and deterministic' (their statements: YtaapejhoegeimaaTotals.lean).
  GIVEN WITH THE SEED: the statements are not yours to turn. If you find one false, say at which input.
  Laid BY PROGRAM, IN A SANDBOX (cutbox-rows.mjs): the forced cells as the released guide's own fill.sh prints them over the translation 990aea85e9b34805… (all of the seat's roots in one cut). By AI agents, Wed Nov 11 2026. No macro, syntax, notation, axiom, sorry.
-/
import Derived.Test.YtaapejhoegeimaaChecked
import GoSem.Claim
import GoSem.ClaimJoined
import GoSem.ClaimMapViews
import Derived.JoinedTies
import Derived.KernelRfl
namespace Go.Proofs.Ytaapejhoegeimaa
/- THE CELL 'sum', in the pinned program and in every row, IS THE sha256 OF THE DUMP (.gsa) THAT YtaapejhoegeimaaProg.lean LOADS. Nothing in Lean hashes anything: it is a label: what it is worth is what the hold of that sum in a sandbox is worth. -/
noncomputable def Try.pinned : Pinned := { name := "ytaapejhoegeimaa", sum := "990aea85e9b348054e5ca5b4042b9eb4651e75576da69484f7936173c2709ce2", checked := Try.checked }
namespace Rows
def none {H : Type} : Left H := { results := [], args := [] }

/-- 'forepeaklaw26.PartPlays': WHATEVER THE INPUT: true; the input reads as it did. -/
def partPlaysSpec : ChangeSpec := { name := "partPlays", fn := fun _ => fun
  | [d1, d2] => { results := [.lit (.bool true)], args := [d1, d2] }
  | _ => none }
def partPlaysRow : OpenClaim := { program := "ytaapejhoegeimaa", sum := "990aea85e9b348054e5ca5b4042b9eb4651e75576da69484f7936173c2709ce2", func := "forepeak/forepeaklaw26.PartPlays", spec := "partPlays", unfollowed := true, recurses := true, plainKeys := false, apart := false }
def PartPlaysSaid : Prop := partPlaysRow.holds Try.pinned (OpenSpec.ofChange partPlaysSpec)

/-- ITS FALSE NEIGHBOUR: 'it returns false'. Refute it at one input. -/
def partPlaysWrong : ChangeSpec := { name := "partPlays", fn := fun _ => fun
  | [d1, d2] => { results := [.lit (.bool false)], args := [d1, d2] }
  | _ => none }
def PartPlaysWrongFalsely : Prop := partPlaysRow.holds Try.pinned (OpenSpec.ofChange partPlaysWrong)

/-- 'forepeaklaw26.PartKeeps': WHATEVER THE INPUT: true; the input reads as it did. -/
def partKeepsSpec : ChangeSpec := { name := "partKeeps", fn := fun _ => fun
  | [d1, d2, d3] => { results := [.lit (.bool true)], args := [d1, d2, d3] }
  | _ => none }
def partKeepsRow : OpenClaim := { program := "ytaapejhoegeimaa", sum := "990aea85e9b348054e5ca5b4042b9eb4651e75576da69484f7936173c2709ce2", func := "forepeak/forepeaklaw26.PartKeeps", spec := "partKeeps", unfollowed := true, recurses := true, plainKeys := false, apart := false }
def PartKeepsSaid : Prop := partKeepsRow.holds Try.pinned (OpenSpec.ofChange partKeepsSpec)

/-- ITS FALSE NEIGHBOUR: 'it returns false'. Refute it at one input. -/
def partKeepsWrong : ChangeSpec := { name := "partKeeps", fn := fun _ => fun
  | [d1, d2, d3] => { results := [.lit (.bool false)], args := [d1, d2, d3] }
  | _ => none }
def PartKeepsWrongFalsely : Prop := partKeepsRow.holds Try.pinned (OpenSpec.ofChange partKeepsWrong)

/-- 'forepeaklaw26.PartNobody': WHATEVER THE INPUT: true; the input reads as it did. -/
def partNobodySpec : ChangeSpec := { name := "partNobody", fn := fun _ => fun
  | [d1, d2] => { results := [.lit (.bool true)], args := [d1, d2] }
  | _ => none }
def partNobodyRow : OpenClaim := { program := "ytaapejhoegeimaa", sum := "990aea85e9b348054e5ca5b4042b9eb4651e75576da69484f7936173c2709ce2", func := "forepeak/forepeaklaw26.PartNobody", spec := "partNobody", unfollowed := true, recurses := true, plainKeys := false, apart := false }
def PartNobodySaid : Prop := partNobodyRow.holds Try.pinned (OpenSpec.ofChange partNobodySpec)

/-- ITS FALSE NEIGHBOUR: 'it returns false'. Refute it at one input. -/
def partNobodyWrong : ChangeSpec := { name := "partNobody", fn := fun _ => fun
  | [d1, d2] => { results := [.lit (.bool false)], args := [d1, d2] }
  | _ => none }
def PartNobodyWrongFalsely : Prop := partNobodyRow.holds Try.pinned (OpenSpec.ofChange partNobodyWrong)

/-- 'forepeaklaw27.TableOf': WHATEVER THE INPUT: true; the input reads as it did. -/
def tableOfSpec : ChangeSpec := { name := "tableOf", fn := fun _ => fun
  | [d1, d2] => { results := [.lit (.bool true)], args := [d1, d2] }
  | _ => none }
def tableOfRow : OpenClaim := { program := "ytaapejhoegeimaa", sum := "990aea85e9b348054e5ca5b4042b9eb4651e75576da69484f7936173c2709ce2", func := "forepeak/forepeaklaw27.TableOf", spec := "tableOf", unfollowed := true, recurses := true, plainKeys := false, apart := false }
def TableOfSaid : Prop := tableOfRow.holds Try.pinned (OpenSpec.ofChange tableOfSpec)

/-- ITS FALSE NEIGHBOUR: 'it returns false'. Refute it at one input. -/
def tableOfWrong : ChangeSpec := { name := "tableOf", fn := fun _ => fun
  | [d1, d2] => { results := [.lit (.bool false)], args := [d1, d2] }
  | _ => none }
def TableOfWrongFalsely : Prop := tableOfRow.holds Try.pinned (OpenSpec.ofChange tableOfWrong)

/-- 'forepeaklaw27.TablePlays': WHATEVER THE INPUT: true; the input reads as it did. -/
def tablePlaysSpec : ChangeSpec := { name := "tablePlays", fn := fun _ => fun
  | [d] => { results := [.lit (.bool true)], args := [d] }
  | _ => none }
def tablePlaysRow : OpenClaim := { program := "ytaapejhoegeimaa", sum := "990aea85e9b348054e5ca5b4042b9eb4651e75576da69484f7936173c2709ce2", func := "forepeak/forepeaklaw27.TablePlays", spec := "tablePlays", unfollowed := true, recurses := true, plainKeys := false, apart := false }
def TablePlaysSaid : Prop := tablePlaysRow.holds Try.pinned (OpenSpec.ofChange tablePlaysSpec)

/-- ITS FALSE NEIGHBOUR: 'it returns false'. Refute it at one input. -/
def tablePlaysWrong : ChangeSpec := { name := "tablePlays", fn := fun _ => fun
  | [d] => { results := [.lit (.bool false)], args := [d] }
  | _ => none }
def TablePlaysWrongFalsely : Prop := tablePlaysRow.holds Try.pinned (OpenSpec.ofChange tablePlaysWrong)

/-- 'forepeaklaw27.TableParts': WHATEVER THE INPUT: true; the input reads as it did. -/
def tablePartsSpec : ChangeSpec := { name := "tableParts", fn := fun _ => fun
  | [d1, d2] => { results := [.lit (.bool true)], args := [d1, d2] }
  | _ => none }
def tablePartsRow : OpenClaim := { program := "ytaapejhoegeimaa", sum := "990aea85e9b348054e5ca5b4042b9eb4651e75576da69484f7936173c2709ce2", func := "forepeak/forepeaklaw27.TableParts", spec := "tableParts", unfollowed := true, recurses := true, plainKeys := false, apart := false }
def TablePartsSaid : Prop := tablePartsRow.holds Try.pinned (OpenSpec.ofChange tablePartsSpec)

/-- ITS FALSE NEIGHBOUR: 'it returns false'. Refute it at one input. -/
def tablePartsWrong : ChangeSpec := { name := "tableParts", fn := fun _ => fun
  | [d1, d2] => { results := [.lit (.bool false)], args := [d1, d2] }
  | _ => none }
def TablePartsWrongFalsely : Prop := tablePartsRow.holds Try.pinned (OpenSpec.ofChange tablePartsWrong)

/-- 'forepeaklaw27.TableNobody': WHATEVER THE INPUT: true; the input reads as it did. -/
def tableNobodySpec : ChangeSpec := { name := "tableNobody", fn := fun _ => fun
  | [d1, d2] => { results := [.lit (.bool true)], args := [d1, d2] }
  | _ => none }
def tableNobodyRow : OpenClaim := { program := "ytaapejhoegeimaa", sum := "990aea85e9b348054e5ca5b4042b9eb4651e75576da69484f7936173c2709ce2", func := "forepeak/forepeaklaw27.TableNobody", spec := "tableNobody", unfollowed := true, recurses := true, plainKeys := false, apart := false }
def TableNobodySaid : Prop := tableNobodyRow.holds Try.pinned (OpenSpec.ofChange tableNobodySpec)

/-- ITS FALSE NEIGHBOUR: 'it returns false'. Refute it at one input. -/
def tableNobodyWrong : ChangeSpec := { name := "tableNobody", fn := fun _ => fun
  | [d1, d2] => { results := [.lit (.bool false)], args := [d1, d2] }
  | _ => none }
def TableNobodyWrongFalsely : Prop := tableNobodyRow.holds Try.pinned (OpenSpec.ofChange tableNobodyWrong)

/- THE SECOND FORM. 'bulk': how many values and letters a reading holds, each counted each time it is reached (what is shared counts as often as it is met; a slice's spare places count too). A statement '..UptoSaid' is the law's where the arguments, and the package variables that the reading takes, are together of bulk at most 1048576: NARROWER than '..Said'. Prove '..Said' where nothing that the law and all that it calls make is longer than what came in: it says more and counts as full. Else prove '..UptoSaid'. A law counts once. -/
mutual
def uptoBulk {H : Type} : DataW H → Nat
  | .lit (.string bytes) => bytes.length + 1
  | .lit _ => 1
  | .nil => 1
  | .ptr d => uptoBulk d + 1
  | .slice elems spare => uptoBulkAll elems + uptoBulkAll spare + 1
  | .agg parts => uptoBulkAll parts + 1
  | .iface _ d => uptoBulk d + 1
  | .map entries => uptoBulkEntries entries + 1
  | .held _ => 1
def uptoBulkAll {H : Type} : List (DataW H) → Nat
  | [] => 0
  | d :: r => uptoBulk d + uptoBulkAll r
def uptoBulkEntries {H : Type} : List (Lit × DataW H) → Nat
  | [] => 0
  | x :: r => uptoBulkEntry x + uptoBulkEntries r
def uptoBulkEntry {H : Type} : Lit × DataW H → Nat
  | (.string bytes, d) => bytes.length + uptoBulk d + 1
  | (_, d) => uptoBulk d + 1
 end
def uptoSmall : (H : Type) → List (DataW H) → Bool := fun _ ds => decide (uptoBulkAll ds ≤ 1048576)
def OpenSpec.upto (s : _root_.Go.ChangeSpec) : _root_.Go.OpenSpec := { _root_.Go.OpenSpec.ofChange s with cond := some uptoSmall }

/-- 'forepeaklaw26.PartPlays', WHERE WHAT IT READS IS OF BULK AT MOST 1048576: true; the input reads as it did. -/
def partPlaysUptoRow : OpenClaim := { program := "ytaapejhoegeimaa", sum := "990aea85e9b348054e5ca5b4042b9eb4651e75576da69484f7936173c2709ce2", func := "forepeak/forepeaklaw26.PartPlays", spec := "partPlays", unfollowed := true, recurses := true, plainKeys := false, apart := false, narrowed := true }
def PartPlaysUptoSaid : Prop := partPlaysUptoRow.holds Try.pinned (OpenSpec.upto partPlaysSpec)

/-- 'forepeaklaw26.PartKeeps', WHERE WHAT IT READS IS OF BULK AT MOST 1048576: true; the input reads as it did. -/
def partKeepsUptoRow : OpenClaim := { program := "ytaapejhoegeimaa", sum := "990aea85e9b348054e5ca5b4042b9eb4651e75576da69484f7936173c2709ce2", func := "forepeak/forepeaklaw26.PartKeeps", spec := "partKeeps", unfollowed := true, recurses := true, plainKeys := false, apart := false, narrowed := true }
def PartKeepsUptoSaid : Prop := partKeepsUptoRow.holds Try.pinned (OpenSpec.upto partKeepsSpec)

/-- 'forepeaklaw26.PartNobody', WHERE WHAT IT READS IS OF BULK AT MOST 1048576: true; the input reads as it did. -/
def partNobodyUptoRow : OpenClaim := { program := "ytaapejhoegeimaa", sum := "990aea85e9b348054e5ca5b4042b9eb4651e75576da69484f7936173c2709ce2", func := "forepeak/forepeaklaw26.PartNobody", spec := "partNobody", unfollowed := true, recurses := true, plainKeys := false, apart := false, narrowed := true }
def PartNobodyUptoSaid : Prop := partNobodyUptoRow.holds Try.pinned (OpenSpec.upto partNobodySpec)

/-- 'forepeaklaw27.TableOf', WHERE WHAT IT READS IS OF BULK AT MOST 1048576: true; the input reads as it did. -/
def tableOfUptoRow : OpenClaim := { program := "ytaapejhoegeimaa", sum := "990aea85e9b348054e5ca5b4042b9eb4651e75576da69484f7936173c2709ce2", func := "forepeak/forepeaklaw27.TableOf", spec := "tableOf", unfollowed := true, recurses := true, plainKeys := false, apart := false, narrowed := true }
def TableOfUptoSaid : Prop := tableOfUptoRow.holds Try.pinned (OpenSpec.upto tableOfSpec)

/-- 'forepeaklaw27.TablePlays', WHERE WHAT IT READS IS OF BULK AT MOST 1048576: true; the input reads as it did. -/
def tablePlaysUptoRow : OpenClaim := { program := "ytaapejhoegeimaa", sum := "990aea85e9b348054e5ca5b4042b9eb4651e75576da69484f7936173c2709ce2", func := "forepeak/forepeaklaw27.TablePlays", spec := "tablePlays", unfollowed := true, recurses := true, plainKeys := false, apart := false, narrowed := true }
def TablePlaysUptoSaid : Prop := tablePlaysUptoRow.holds Try.pinned (OpenSpec.upto tablePlaysSpec)

/-- 'forepeaklaw27.TableParts', WHERE WHAT IT READS IS OF BULK AT MOST 1048576: true; the input reads as it did. -/
def tablePartsUptoRow : OpenClaim := { program := "ytaapejhoegeimaa", sum := "990aea85e9b348054e5ca5b4042b9eb4651e75576da69484f7936173c2709ce2", func := "forepeak/forepeaklaw27.TableParts", spec := "tableParts", unfollowed := true, recurses := true, plainKeys := false, apart := false, narrowed := true }
def TablePartsUptoSaid : Prop := tablePartsUptoRow.holds Try.pinned (OpenSpec.upto tablePartsSpec)

/-- 'forepeaklaw27.TableNobody', WHERE WHAT IT READS IS OF BULK AT MOST 1048576: true; the input reads as it did. -/
def tableNobodyUptoRow : OpenClaim := { program := "ytaapejhoegeimaa", sum := "990aea85e9b348054e5ca5b4042b9eb4651e75576da69484f7936173c2709ce2", func := "forepeak/forepeaklaw27.TableNobody", spec := "tableNobody", unfollowed := true, recurses := true, plainKeys := false, apart := false, narrowed := true }
def TableNobodyUptoSaid : Prop := tableNobodyUptoRow.holds Try.pinned (OpenSpec.upto tableNobodySpec)

end Rows
end Go.Proofs.Ytaapejhoegeimaa
