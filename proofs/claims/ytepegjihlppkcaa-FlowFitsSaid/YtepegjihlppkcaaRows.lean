/-
  No cell of these rows narrows 'for every input' (looked for: loops, veiled, ifaces, maps, wideKeys, modest, calm, conditions, laid).
  DERIVED. THE GIVEN ROWS OF THIS SEAT. 9 by the template 'for every input the law returns true; each argument reads behind the call as it read before'; 0 by the template 'total and deterministic' (their statements: YtepegjihlppkcaaTotals.lean).
  GIVEN WITH THE SEED: the statements are not yours to turn. If you find one false, say at which input.
  Laid BY PROGRAM, IN A SANDBOX (cutbox-rows.mjs): the forced cells as the released guide's own fill.sh prints them over the translation 99df1e5384fd6d34… (all of the seat's roots in one cut). By AI agents, Wed Nov 11 2026. No macro, syntax, notation, axiom, sorry.
-/
import Derived.Test.YtepegjihlppkcaaChecked
import GoSem.Claim
import GoSem.ClaimJoined
import GoSem.ClaimMapViews
import Derived.JoinedTies
import Derived.KernelRfl
namespace Go.Proofs.Ytepegjihlppkcaa
/- THE CELL 'sum', in the pinned program and in every row, IS THE sha256 OF THE DUMP (.gsa) THAT YtepegjihlppkcaaProg.lean LOADS. Nothing in Lean hashes anything: it is a label: what it is worth is what the hold of that sum in a sandbox is worth. -/
noncomputable def Try.pinned : Pinned := { name := "ytepegjihlppkcaa", sum := "99df1e5384fd6d3410b8644d1ce2f8d5f846e18c9e91db1d9d98dd947a472b19", checked := Try.checked }
namespace Rows
def none {H : Type} : Left H := { results := [], args := [] }

/-- 'farkeep.WidthFills': WHATEVER THE INPUT: true; the input reads as it did. -/
def widthFillsSpec : ChangeSpec := { name := "widthFills", fn := fun _ => fun
  | [d1, d2] => { results := [.lit (.bool true)], args := [d1, d2] }
  | _ => none }
def widthFillsRow : OpenClaim := { program := "ytepegjihlppkcaa", sum := "99df1e5384fd6d3410b8644d1ce2f8d5f846e18c9e91db1d9d98dd947a472b19", func := "farwriter/farkeep.WidthFills", spec := "widthFills", apart := false }
def WidthFillsSaid : Prop := widthFillsRow.holds Try.pinned (OpenSpec.ofChange widthFillsSpec)

/-- ITS FALSE NEIGHBOUR: 'it returns false'. Refute it at one input. -/
def widthFillsWrong : ChangeSpec := { name := "widthFills", fn := fun _ => fun
  | [d1, d2] => { results := [.lit (.bool false)], args := [d1, d2] }
  | _ => none }
def WidthFillsWrongFalsely : Prop := widthFillsRow.holds Try.pinned (OpenSpec.ofChange widthFillsWrong)

/-- 'farkeep.WidthJoins': WHATEVER THE INPUT: true; the input reads as it did. -/
def widthJoinsSpec : ChangeSpec := { name := "widthJoins", fn := fun _ => fun
  | [d1, d2] => { results := [.lit (.bool true)], args := [d1, d2] }
  | _ => none }
def widthJoinsRow : OpenClaim := { program := "ytepegjihlppkcaa", sum := "99df1e5384fd6d3410b8644d1ce2f8d5f846e18c9e91db1d9d98dd947a472b19", func := "farwriter/farkeep.WidthJoins", spec := "widthJoins", apart := false }
def WidthJoinsSaid : Prop := widthJoinsRow.holds Try.pinned (OpenSpec.ofChange widthJoinsSpec)

/-- ITS FALSE NEIGHBOUR: 'it returns false'. Refute it at one input. -/
def widthJoinsWrong : ChangeSpec := { name := "widthJoins", fn := fun _ => fun
  | [d1, d2] => { results := [.lit (.bool false)], args := [d1, d2] }
  | _ => none }
def WidthJoinsWrongFalsely : Prop := widthJoinsRow.holds Try.pinned (OpenSpec.ofChange widthJoinsWrong)

/-- 'farkeep.FlowFits': WHATEVER THE INPUT: true; the input reads as it did. -/
def flowFitsSpec : ChangeSpec := { name := "flowFits", fn := fun _ => fun
  | [d1, d2] => { results := [.lit (.bool true)], args := [d1, d2] }
  | _ => none }
def flowFitsRow : OpenClaim := { program := "ytepegjihlppkcaa", sum := "99df1e5384fd6d3410b8644d1ce2f8d5f846e18c9e91db1d9d98dd947a472b19", func := "farwriter/farkeep.FlowFits", spec := "flowFits", unfollowed := true, recurses := true, apart := false }
def FlowFitsSaid : Prop := flowFitsRow.holds Try.pinned (OpenSpec.ofChange flowFitsSpec)

/-- ITS FALSE NEIGHBOUR: 'it returns false'. Refute it at one input. -/
def flowFitsWrong : ChangeSpec := { name := "flowFits", fn := fun _ => fun
  | [d1, d2] => { results := [.lit (.bool false)], args := [d1, d2] }
  | _ => none }
def FlowFitsWrongFalsely : Prop := flowFitsRow.holds Try.pinned (OpenSpec.ofChange flowFitsWrong)

/-- 'farkeep.FlowBack': WHATEVER THE INPUT: true; the input reads as it did. -/
def flowBackSpec : ChangeSpec := { name := "flowBack", fn := fun _ => fun
  | [d1, d2] => { results := [.lit (.bool true)], args := [d1, d2] }
  | _ => none }
def flowBackRow : OpenClaim := { program := "ytepegjihlppkcaa", sum := "99df1e5384fd6d3410b8644d1ce2f8d5f846e18c9e91db1d9d98dd947a472b19", func := "farwriter/farkeep.FlowBack", spec := "flowBack", unfollowed := true, recurses := true, apart := false }
def FlowBackSaid : Prop := flowBackRow.holds Try.pinned (OpenSpec.ofChange flowBackSpec)

/-- ITS FALSE NEIGHBOUR: 'it returns false'. Refute it at one input. -/
def flowBackWrong : ChangeSpec := { name := "flowBack", fn := fun _ => fun
  | [d1, d2] => { results := [.lit (.bool false)], args := [d1, d2] }
  | _ => none }
def FlowBackWrongFalsely : Prop := flowBackRow.holds Try.pinned (OpenSpec.ofChange flowBackWrong)

/-- 'farkeep.FlowWays': WHATEVER THE INPUT: true; the input reads as it did. -/
def flowWaysSpec : ChangeSpec := { name := "flowWays", fn := fun _ => fun
  | [d1, d2, d3] => { results := [.lit (.bool true)], args := [d1, d2, d3] }
  | _ => none }
def flowWaysRow : OpenClaim := { program := "ytepegjihlppkcaa", sum := "99df1e5384fd6d3410b8644d1ce2f8d5f846e18c9e91db1d9d98dd947a472b19", func := "farwriter/farkeep.FlowWays", spec := "flowWays", unfollowed := true, recurses := true, apart := false }
def FlowWaysSaid : Prop := flowWaysRow.holds Try.pinned (OpenSpec.ofChange flowWaysSpec)

/-- ITS FALSE NEIGHBOUR: 'it returns false'. Refute it at one input. -/
def flowWaysWrong : ChangeSpec := { name := "flowWays", fn := fun _ => fun
  | [d1, d2, d3] => { results := [.lit (.bool false)], args := [d1, d2, d3] }
  | _ => none }
def FlowWaysWrongFalsely : Prop := flowWaysRow.holds Try.pinned (OpenSpec.ofChange flowWaysWrong)

/-- 'farkeep.FlowOwn': WHATEVER THE INPUT: true; the input reads as it did. -/
def flowOwnSpec : ChangeSpec := { name := "flowOwn", fn := fun _ => fun
  | [d1, d2, d3] => { results := [.lit (.bool true)], args := [d1, d2, d3] }
  | _ => none }
def flowOwnRow : OpenClaim := { program := "ytepegjihlppkcaa", sum := "99df1e5384fd6d3410b8644d1ce2f8d5f846e18c9e91db1d9d98dd947a472b19", func := "farwriter/farkeep.FlowOwn", spec := "flowOwn", unfollowed := true, recurses := true, apart := false }
def FlowOwnSaid : Prop := flowOwnRow.holds Try.pinned (OpenSpec.ofChange flowOwnSpec)

/-- ITS FALSE NEIGHBOUR: 'it returns false'. Refute it at one input. -/
def flowOwnWrong : ChangeSpec := { name := "flowOwn", fn := fun _ => fun
  | [d1, d2, d3] => { results := [.lit (.bool false)], args := [d1, d2, d3] }
  | _ => none }
def FlowOwnWrongFalsely : Prop := flowOwnRow.holds Try.pinned (OpenSpec.ofChange flowOwnWrong)

/-- 'farkeep.FindBorders': WHATEVER THE INPUT: true; the input reads as it did. -/
def findBordersSpec : ChangeSpec := { name := "findBorders", fn := fun _ => fun
  | [d] => { results := [.lit (.bool true)], args := [d] }
  | _ => none }
def findBordersRow : OpenClaim := { program := "ytepegjihlppkcaa", sum := "99df1e5384fd6d3410b8644d1ce2f8d5f846e18c9e91db1d9d98dd947a472b19", func := "farwriter/farkeep.FindBorders", spec := "findBorders", apart := false }
def FindBordersSaid : Prop := findBordersRow.holds Try.pinned (OpenSpec.ofChange findBordersSpec)

/-- ITS FALSE NEIGHBOUR: 'it returns false'. Refute it at one input. -/
def findBordersWrong : ChangeSpec := { name := "findBorders", fn := fun _ => fun
  | [d] => { results := [.lit (.bool false)], args := [d] }
  | _ => none }
def FindBordersWrongFalsely : Prop := findBordersRow.holds Try.pinned (OpenSpec.ofChange findBordersWrong)

/-- 'farkeep.FindLess': WHATEVER THE INPUT: true; the input reads as it did. -/
def findLessSpec : ChangeSpec := { name := "findLess", fn := fun _ => fun
  | [d1, d2, d3] => { results := [.lit (.bool true)], args := [d1, d2, d3] }
  | _ => none }
def findLessRow : OpenClaim := { program := "ytepegjihlppkcaa", sum := "99df1e5384fd6d3410b8644d1ce2f8d5f846e18c9e91db1d9d98dd947a472b19", func := "farwriter/farkeep.FindLess", spec := "findLess", apart := false }
def FindLessSaid : Prop := findLessRow.holds Try.pinned (OpenSpec.ofChange findLessSpec)

/-- ITS FALSE NEIGHBOUR: 'it returns false'. Refute it at one input. -/
def findLessWrong : ChangeSpec := { name := "findLess", fn := fun _ => fun
  | [d1, d2, d3] => { results := [.lit (.bool false)], args := [d1, d2, d3] }
  | _ => none }
def FindLessWrongFalsely : Prop := findLessRow.holds Try.pinned (OpenSpec.ofChange findLessWrong)

/-- 'farkeep.FindCuts': WHATEVER THE INPUT: true; the input reads as it did. -/
def findCutsSpec : ChangeSpec := { name := "findCuts", fn := fun _ => fun
  | [d1, d2, d3] => { results := [.lit (.bool true)], args := [d1, d2, d3] }
  | _ => none }
def findCutsRow : OpenClaim := { program := "ytepegjihlppkcaa", sum := "99df1e5384fd6d3410b8644d1ce2f8d5f846e18c9e91db1d9d98dd947a472b19", func := "farwriter/farkeep.FindCuts", spec := "findCuts", unfollowed := true, recurses := true, apart := false }
def FindCutsSaid : Prop := findCutsRow.holds Try.pinned (OpenSpec.ofChange findCutsSpec)

/-- ITS FALSE NEIGHBOUR: 'it returns false'. Refute it at one input. -/
def findCutsWrong : ChangeSpec := { name := "findCuts", fn := fun _ => fun
  | [d1, d2, d3] => { results := [.lit (.bool false)], args := [d1, d2, d3] }
  | _ => none }
def FindCutsWrongFalsely : Prop := findCutsRow.holds Try.pinned (OpenSpec.ofChange findCutsWrong)

/- THE SECOND FORM. 'bulk': how many values and letters a reading holds, each counted each time it is reached (what is shared counts as often as it is met; a slice's spare places count too). A statement '..UptoSaid' is the law's where the arguments, and the package variables that the reading takes, are together of bulk at most 1048576: NARROWER than '..Said'. Prove '..Said' where nothing that the law and all that it calls make is longer than what came in: it says more and counts as full. Else prove '..UptoSaid'. A law counts once. -/
mutual
def uptoBulk {H : Type} : DataW H → Nat
  | .lit (.string bytes) => bytes.length + 1
  | .lit _ => 1
  | .nil => 1
  | .ptr d => uptoBulk d + 1
  | .slice elems spare => uptoBulkAll elems + uptoBulkAll spare + 1
  | .agg parts => uptoBulkAll parts + 1
  | .iface _ d => uptoBulk d + 1
  | .map entries => uptoBulkEntries entries + 1
  | .held _ => 1
def uptoBulkAll {H : Type} : List (DataW H) → Nat
  | [] => 0
  | d :: r => uptoBulk d + uptoBulkAll r
def uptoBulkEntries {H : Type} : List (Lit × DataW H) → Nat
  | [] => 0
  | x :: r => uptoBulkEntry x + uptoBulkEntries r
def uptoBulkEntry {H : Type} : Lit × DataW H → Nat
  | (.string bytes, d) => bytes.length + uptoBulk d + 1
  | (_, d) => uptoBulk d + 1
 end
def uptoSmall : (H : Type) → List (DataW H) → Bool := fun _ ds => decide (uptoBulkAll ds ≤ 1048576)
def OpenSpec.upto (s : _root_.Go.ChangeSpec) : _root_.Go.OpenSpec := { _root_.Go.OpenSpec.ofChange s with cond := some uptoSmall }

/-- 'farkeep.WidthFills', WHERE WHAT IT READS IS OF BULK AT MOST 1048576: true; the input reads as it did. -/
def widthFillsUptoRow : OpenClaim := { program := "ytepegjihlppkcaa", sum := "99df1e5384fd6d3410b8644d1ce2f8d5f846e18c9e91db1d9d98dd947a472b19", func := "farwriter/farkeep.WidthFills", spec := "widthFills", apart := false, narrowed := true }
def WidthFillsUptoSaid : Prop := widthFillsUptoRow.holds Try.pinned (OpenSpec.upto widthFillsSpec)

/-- 'farkeep.WidthJoins', WHERE WHAT IT READS IS OF BULK AT MOST 1048576: true; the input reads as it did. -/
def widthJoinsUptoRow : OpenClaim := { program := "ytepegjihlppkcaa", sum := "99df1e5384fd6d3410b8644d1ce2f8d5f846e18c9e91db1d9d98dd947a472b19", func := "farwriter/farkeep.WidthJoins", spec := "widthJoins", apart := false, narrowed := true }
def WidthJoinsUptoSaid : Prop := widthJoinsUptoRow.holds Try.pinned (OpenSpec.upto widthJoinsSpec)

/-- 'farkeep.FlowFits', WHERE WHAT IT READS IS OF BULK AT MOST 1048576: true; the input reads as it did. -/
def flowFitsUptoRow : OpenClaim := { program := "ytepegjihlppkcaa", sum := "99df1e5384fd6d3410b8644d1ce2f8d5f846e18c9e91db1d9d98dd947a472b19", func := "farwriter/farkeep.FlowFits", spec := "flowFits", unfollowed := true, recurses := true, apart := false, narrowed := true }
def FlowFitsUptoSaid : Prop := flowFitsUptoRow.holds Try.pinned (OpenSpec.upto flowFitsSpec)

/-- 'farkeep.FlowBack', WHERE WHAT IT READS IS OF BULK AT MOST 1048576: true; the input reads as it did. -/
def flowBackUptoRow : OpenClaim := { program := "ytepegjihlppkcaa", sum := "99df1e5384fd6d3410b8644d1ce2f8d5f846e18c9e91db1d9d98dd947a472b19", func := "farwriter/farkeep.FlowBack", spec := "flowBack", unfollowed := true, recurses := true, apart := false, narrowed := true }
def FlowBackUptoSaid : Prop := flowBackUptoRow.holds Try.pinned (OpenSpec.upto flowBackSpec)

/-- 'farkeep.FlowWays', WHERE WHAT IT READS IS OF BULK AT MOST 1048576: true; the input reads as it did. -/
def flowWaysUptoRow : OpenClaim := { program := "ytepegjihlppkcaa", sum := "99df1e5384fd6d3410b8644d1ce2f8d5f846e18c9e91db1d9d98dd947a472b19", func := "farwriter/farkeep.FlowWays", spec := "flowWays", unfollowed := true, recurses := true, apart := false, narrowed := true }
def FlowWaysUptoSaid : Prop := flowWaysUptoRow.holds Try.pinned (OpenSpec.upto flowWaysSpec)

/-- 'farkeep.FlowOwn', WHERE WHAT IT READS IS OF BULK AT MOST 1048576: true; the input reads as it did. -/
def flowOwnUptoRow : OpenClaim := { program := "ytepegjihlppkcaa", sum := "99df1e5384fd6d3410b8644d1ce2f8d5f846e18c9e91db1d9d98dd947a472b19", func := "farwriter/farkeep.FlowOwn", spec := "flowOwn", unfollowed := true, recurses := true, apart := false, narrowed := true }
def FlowOwnUptoSaid : Prop := flowOwnUptoRow.holds Try.pinned (OpenSpec.upto flowOwnSpec)

/-- 'farkeep.FindBorders', WHERE WHAT IT READS IS OF BULK AT MOST 1048576: true; the input reads as it did. -/
def findBordersUptoRow : OpenClaim := { program := "ytepegjihlppkcaa", sum := "99df1e5384fd6d3410b8644d1ce2f8d5f846e18c9e91db1d9d98dd947a472b19", func := "farwriter/farkeep.FindBorders", spec := "findBorders", apart := false, narrowed := true }
def FindBordersUptoSaid : Prop := findBordersUptoRow.holds Try.pinned (OpenSpec.upto findBordersSpec)

/-- 'farkeep.FindLess', WHERE WHAT IT READS IS OF BULK AT MOST 1048576: true; the input reads as it did. -/
def findLessUptoRow : OpenClaim := { program := "ytepegjihlppkcaa", sum := "99df1e5384fd6d3410b8644d1ce2f8d5f846e18c9e91db1d9d98dd947a472b19", func := "farwriter/farkeep.FindLess", spec := "findLess", apart := false, narrowed := true }
def FindLessUptoSaid : Prop := findLessUptoRow.holds Try.pinned (OpenSpec.upto findLessSpec)

/-- 'farkeep.FindCuts', WHERE WHAT IT READS IS OF BULK AT MOST 1048576: true; the input reads as it did. -/
def findCutsUptoRow : OpenClaim := { program := "ytepegjihlppkcaa", sum := "99df1e5384fd6d3410b8644d1ce2f8d5f846e18c9e91db1d9d98dd947a472b19", func := "farwriter/farkeep.FindCuts", spec := "findCuts", unfollowed := true, recurses := true, apart := false, narrowed := true }
def FindCutsUptoSaid : Prop := findCutsUptoRow.holds Try.pinned (OpenSpec.upto findCutsSpec)

end Rows
end Go.Proofs.Ytepegjihlppkcaa
