/-
  No cell of these rows narrows 'for every input' (looked for: loops, veiled, ifaces, maps, wideKeys, modest, calm, conditions, laid).
  DERIVED. THE GIVEN ROWS OF THIS SEAT. 5 by the template 'for every input the law returns true; each argument reads behind the call as it read before'; 0 by the template 'total and deterministic' (their statements: YtkacghjglicjiaaGreatTotals.lean).
  GIVEN WITH THE SEED: the statements are not yours to turn. If you find one false, say at which input.
  Laid BY PROGRAM, IN A SANDBOX (cutbox-rows.mjs): the forced cells as the released guide's own fill.sh prints them over the translation f20c1e358d858c0e… (all of the seat's roots in one cut). By AI agents, Wed Nov 11 2026. No macro, syntax, notation, axiom, sorry.
-/
import Derived.Test.YtkacghjglicjiaaGreatChecked
import GoSem.Claim
import GoSem.ClaimJoined
import GoSem.ClaimMapViews
import Derived.JoinedTies
import Derived.KernelRfl
namespace Go.Proofs.YtkacghjglicjiaaGreat
/- THE CELL 'sum', in the pinned program and in every row, IS THE sha256 OF THE DUMP (.gsa) THAT YtkacghjglicjiaaGreatProg.lean LOADS. Nothing in Lean hashes anything: it is a label: what it is worth is what the hold of that sum in a sandbox is worth. -/
noncomputable def Tryz.pinned : Pinned := { name := "ytkacghjglicjiaagreat", sum := "f20c1e358d858c0ef0ce853e15a07ffedaff4b928da816284fdb70349fdcbac1", checked := Tryz.checked }
namespace Rows
def none {H : Type} : Left H := { results := [], args := [] }

/-- 'goitlaw24.HandSends': WHATEVER THE INPUT: true; the input reads as it did. -/
def handSendsSpec : ChangeSpec := { name := "handSends", fn := fun _ => fun
  | [d1, d2, d3] => { results := [.lit (.bool true)], args := [d1, d2, d3] }
  | _ => none }
def handSendsRow : OpenClaim := { program := "ytkacghjglicjiaagreat", sum := "f20c1e358d858c0ef0ce853e15a07ffedaff4b928da816284fdb70349fdcbac1", func := "goit/goitlaw24.HandSends", spec := "handSends", unfollowed := true, recurses := true, plainKeys := false, apart := false }
def HandSendsSaid : Prop := handSendsRow.holds Tryz.pinned (OpenSpec.ofChange handSendsSpec)

/-- ITS FALSE NEIGHBOUR: 'it returns false'. Refute it at one input. -/
def handSendsWrong : ChangeSpec := { name := "handSends", fn := fun _ => fun
  | [d1, d2, d3] => { results := [.lit (.bool false)], args := [d1, d2, d3] }
  | _ => none }
def HandSendsWrongFalsely : Prop := handSendsRow.holds Tryz.pinned (OpenSpec.ofChange handSendsWrong)

/-- 'goitlaw24.HandReceives': WHATEVER THE INPUT: true; the input reads as it did. -/
def handReceivesSpec : ChangeSpec := { name := "handReceives", fn := fun _ => fun
  | [d1, d2, d3, d4, d5, d6] => { results := [.lit (.bool true)], args := [d1, d2, d3, d4, d5, d6] }
  | _ => none }
def handReceivesRow : OpenClaim := { program := "ytkacghjglicjiaagreat", sum := "f20c1e358d858c0ef0ce853e15a07ffedaff4b928da816284fdb70349fdcbac1", func := "goit/goitlaw24.HandReceives", spec := "handReceives", unfollowed := true, recurses := true, plainKeys := false, apart := false }
def HandReceivesSaid : Prop := handReceivesRow.holds Tryz.pinned (OpenSpec.ofChange handReceivesSpec)

/-- ITS FALSE NEIGHBOUR: 'it returns false'. Refute it at one input. -/
def handReceivesWrong : ChangeSpec := { name := "handReceives", fn := fun _ => fun
  | [d1, d2, d3, d4, d5, d6] => { results := [.lit (.bool false)], args := [d1, d2, d3, d4, d5, d6] }
  | _ => none }
def HandReceivesWrongFalsely : Prop := handReceivesRow.holds Tryz.pinned (OpenSpec.ofChange handReceivesWrong)

/-- 'goitlaw24.HandBack': WHATEVER THE INPUT: true; the input reads as it did. -/
def handBackSpec : ChangeSpec := { name := "handBack", fn := fun _ => fun
  | [d1, d2, d3, d4] => { results := [.lit (.bool true)], args := [d1, d2, d3, d4] }
  | _ => none }
def handBackRow : OpenClaim := { program := "ytkacghjglicjiaagreat", sum := "f20c1e358d858c0ef0ce853e15a07ffedaff4b928da816284fdb70349fdcbac1", func := "goit/goitlaw24.HandBack", spec := "handBack", unfollowed := true, recurses := true, plainKeys := false, apart := false }
def HandBackSaid : Prop := handBackRow.holds Tryz.pinned (OpenSpec.ofChange handBackSpec)

/-- ITS FALSE NEIGHBOUR: 'it returns false'. Refute it at one input. -/
def handBackWrong : ChangeSpec := { name := "handBack", fn := fun _ => fun
  | [d1, d2, d3, d4] => { results := [.lit (.bool false)], args := [d1, d2, d3, d4] }
  | _ => none }
def HandBackWrongFalsely : Prop := handBackRow.holds Tryz.pinned (OpenSpec.ofChange handBackWrong)

/-- 'goitlaw24.HandTwice': WHATEVER THE INPUT: true; the input reads as it did. -/
def handTwiceSpec : ChangeSpec := { name := "handTwice", fn := fun _ => fun
  | [d1, d2] => { results := [.lit (.bool true)], args := [d1, d2] }
  | _ => none }
def handTwiceRow : OpenClaim := { program := "ytkacghjglicjiaagreat", sum := "f20c1e358d858c0ef0ce853e15a07ffedaff4b928da816284fdb70349fdcbac1", func := "goit/goitlaw24.HandTwice", spec := "handTwice", unfollowed := true, recurses := true, plainKeys := false, apart := false }
def HandTwiceSaid : Prop := handTwiceRow.holds Tryz.pinned (OpenSpec.ofChange handTwiceSpec)

/-- ITS FALSE NEIGHBOUR: 'it returns false'. Refute it at one input. -/
def handTwiceWrong : ChangeSpec := { name := "handTwice", fn := fun _ => fun
  | [d1, d2] => { results := [.lit (.bool false)], args := [d1, d2] }
  | _ => none }
def HandTwiceWrongFalsely : Prop := handTwiceRow.holds Tryz.pinned (OpenSpec.ofChange handTwiceWrong)

/-- 'goitlaw24.HandClock': WHATEVER THE INPUT: true; the input reads as it did. -/
def handClockSpec : ChangeSpec := { name := "handClock", fn := fun _ => fun
  | [d1, d2, d3] => { results := [.lit (.bool true)], args := [d1, d2, d3] }
  | _ => none }
def handClockRow : OpenClaim := { program := "ytkacghjglicjiaagreat", sum := "f20c1e358d858c0ef0ce853e15a07ffedaff4b928da816284fdb70349fdcbac1", func := "goit/goitlaw24.HandClock", spec := "handClock", unfollowed := true, recurses := true, plainKeys := false, apart := false }
def HandClockSaid : Prop := handClockRow.holds Tryz.pinned (OpenSpec.ofChange handClockSpec)

/-- ITS FALSE NEIGHBOUR: 'it returns false'. Refute it at one input. -/
def handClockWrong : ChangeSpec := { name := "handClock", fn := fun _ => fun
  | [d1, d2, d3] => { results := [.lit (.bool false)], args := [d1, d2, d3] }
  | _ => none }
def HandClockWrongFalsely : Prop := handClockRow.holds Tryz.pinned (OpenSpec.ofChange handClockWrong)

/- THE SECOND FORM. 'bulk': how many values and letters a reading holds, each counted each time it is reached (what is shared counts as often as it is met; a slice's spare places count too). A statement '..UptoSaid' is the law's where the arguments, and the package variables that the reading takes, are together of bulk at most 1048576: NARROWER than '..Said'. Prove '..Said' where nothing that the law and all that it calls make is longer than what came in: it says more and counts as full. Else prove '..UptoSaid'. A law counts once. -/
mutual
def uptoBulk {H : Type} : DataW H → Nat
  | .lit (.string bytes) => bytes.length + 1
  | .lit _ => 1
  | .nil => 1
  | .ptr d => uptoBulk d + 1
  | .slice elems spare => uptoBulkAll elems + uptoBulkAll spare + 1
  | .agg parts => uptoBulkAll parts + 1
  | .iface _ d => uptoBulk d + 1
  | .map entries => uptoBulkEntries entries + 1
  | .held _ => 1
def uptoBulkAll {H : Type} : List (DataW H) → Nat
  | [] => 0
  | d :: r => uptoBulk d + uptoBulkAll r
def uptoBulkEntries {H : Type} : List (Lit × DataW H) → Nat
  | [] => 0
  | x :: r => uptoBulkEntry x + uptoBulkEntries r
def uptoBulkEntry {H : Type} : Lit × DataW H → Nat
  | (.string bytes, d) => bytes.length + uptoBulk d + 1
  | (_, d) => uptoBulk d + 1
 end
def uptoSmall : (H : Type) → List (DataW H) → Bool := fun _ ds => decide (uptoBulkAll ds ≤ 1048576)
def OpenSpec.upto (s : _root_.Go.ChangeSpec) : _root_.Go.OpenSpec := { _root_.Go.OpenSpec.ofChange s with cond := some uptoSmall }

/-- 'goitlaw24.HandSends', WHERE WHAT IT READS IS OF BULK AT MOST 1048576: true; the input reads as it did. -/
def handSendsUptoRow : OpenClaim := { program := "ytkacghjglicjiaagreat", sum := "f20c1e358d858c0ef0ce853e15a07ffedaff4b928da816284fdb70349fdcbac1", func := "goit/goitlaw24.HandSends", spec := "handSends", unfollowed := true, recurses := true, plainKeys := false, apart := false, narrowed := true }
def HandSendsUptoSaid : Prop := handSendsUptoRow.holds Tryz.pinned (OpenSpec.upto handSendsSpec)

/-- 'goitlaw24.HandReceives', WHERE WHAT IT READS IS OF BULK AT MOST 1048576: true; the input reads as it did. -/
def handReceivesUptoRow : OpenClaim := { program := "ytkacghjglicjiaagreat", sum := "f20c1e358d858c0ef0ce853e15a07ffedaff4b928da816284fdb70349fdcbac1", func := "goit/goitlaw24.HandReceives", spec := "handReceives", unfollowed := true, recurses := true, plainKeys := false, apart := false, narrowed := true }
def HandReceivesUptoSaid : Prop := handReceivesUptoRow.holds Tryz.pinned (OpenSpec.upto handReceivesSpec)

/-- 'goitlaw24.HandBack', WHERE WHAT IT READS IS OF BULK AT MOST 1048576: true; the input reads as it did. -/
def handBackUptoRow : OpenClaim := { program := "ytkacghjglicjiaagreat", sum := "f20c1e358d858c0ef0ce853e15a07ffedaff4b928da816284fdb70349fdcbac1", func := "goit/goitlaw24.HandBack", spec := "handBack", unfollowed := true, recurses := true, plainKeys := false, apart := false, narrowed := true }
def HandBackUptoSaid : Prop := handBackUptoRow.holds Tryz.pinned (OpenSpec.upto handBackSpec)

/-- 'goitlaw24.HandTwice', WHERE WHAT IT READS IS OF BULK AT MOST 1048576: true; the input reads as it did. -/
def handTwiceUptoRow : OpenClaim := { program := "ytkacghjglicjiaagreat", sum := "f20c1e358d858c0ef0ce853e15a07ffedaff4b928da816284fdb70349fdcbac1", func := "goit/goitlaw24.HandTwice", spec := "handTwice", unfollowed := true, recurses := true, plainKeys := false, apart := false, narrowed := true }
def HandTwiceUptoSaid : Prop := handTwiceUptoRow.holds Tryz.pinned (OpenSpec.upto handTwiceSpec)

/-- 'goitlaw24.HandClock', WHERE WHAT IT READS IS OF BULK AT MOST 1048576: true; the input reads as it did. -/
def handClockUptoRow : OpenClaim := { program := "ytkacghjglicjiaagreat", sum := "f20c1e358d858c0ef0ce853e15a07ffedaff4b928da816284fdb70349fdcbac1", func := "goit/goitlaw24.HandClock", spec := "handClock", unfollowed := true, recurses := true, plainKeys := false, apart := false, narrowed := true }
def HandClockUptoSaid : Prop := handClockUptoRow.holds Tryz.pinned (OpenSpec.upto handClockSpec)

end Rows
end Go.Proofs.YtkacghjglicjiaaGreat
