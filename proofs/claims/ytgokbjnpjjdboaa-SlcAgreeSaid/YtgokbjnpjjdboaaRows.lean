/-
  No cell of these rows narrows 'for every input' (looked for: loops, veiled, ifaces, maps, wideKeys, modest, calm, conditions, laid).
  DERIVED. THE GIVEN ROWS OF THIS SEAT. 11 by the template 'for every input the law returns true; each argument reads behind the call as it read before'; 0 by the template 'total and deterministic' (their statements: YtgokbjnpjjdboaaTotals.lean).
  GIVEN WITH THE SEED: the statements are not yours to turn. If you find one false, say at which input.
  Laid BY PROGRAM, IN A SANDBOX (cutbox-rows.mjs): the forced cells as the released guide's own fill.sh prints them over the translation d6ce36ef4a5bc993… (all of the seat's roots in one cut). By AI agents, Wed Nov 11 2026. No macro, syntax, notation, axiom, sorry.
-/
import Derived.Test.YtgokbjnpjjdboaaChecked
import GoSem.Claim
import GoSem.ClaimJoined
import GoSem.ClaimMapViews
import Derived.JoinedTies
import Derived.KernelRfl
namespace Go.Proofs.Ytgokbjnpjjdboaa
/- THE CELL 'sum', in the pinned program and in every row, IS THE sha256 OF THE DUMP (.gsa) THAT YtgokbjnpjjdboaaProg.lean LOADS. Nothing in Lean hashes anything: it is a label: what it is worth is what the hold of that sum in a sandbox is worth. -/
noncomputable def Try.pinned : Pinned := { name := "ytgokbjnpjjdboaa", sum := "d6ce36ef4a5bc9932d819f9770c163529002493ae2ac827ff09f529e341c0e74", checked := Try.checked }
namespace Rows
def none {H : Type} : Left H := { results := [], args := [] }

/-- 'farkeep.TabsSteps': WHATEVER THE INPUT: true; the input reads as it did. -/
def tabsStepsSpec : ChangeSpec := { name := "tabsSteps", fn := fun _ => fun
  | [d1, d2, d3, d4, d5] => { results := [.lit (.bool true)], args := [d1, d2, d3, d4, d5] }
  | _ => none }
def tabsStepsRow : OpenClaim := { program := "ytgokbjnpjjdboaa", sum := "d6ce36ef4a5bc9932d819f9770c163529002493ae2ac827ff09f529e341c0e74", func := "farwriter/farkeep.TabsSteps", spec := "tabsSteps", apart := false }
def TabsStepsSaid : Prop := tabsStepsRow.holds Try.pinned (OpenSpec.ofChange tabsStepsSpec)

/-- ITS FALSE NEIGHBOUR: 'it returns false'. Refute it at one input. -/
def tabsStepsWrong : ChangeSpec := { name := "tabsSteps", fn := fun _ => fun
  | [d1, d2, d3, d4, d5] => { results := [.lit (.bool false)], args := [d1, d2, d3, d4, d5] }
  | _ => none }
def TabsStepsWrongFalsely : Prop := tabsStepsRow.holds Try.pinned (OpenSpec.ofChange tabsStepsWrong)

/-- 'farkeep.TabsMeans': WHATEVER THE INPUT: true; the input reads as it did. -/
def tabsMeansSpec : ChangeSpec := { name := "tabsMeans", fn := fun _ => fun
  | [d1, d2, d3] => { results := [.lit (.bool true)], args := [d1, d2, d3] }
  | _ => none }
def tabsMeansRow : OpenClaim := { program := "ytgokbjnpjjdboaa", sum := "d6ce36ef4a5bc9932d819f9770c163529002493ae2ac827ff09f529e341c0e74", func := "farwriter/farkeep.TabsMeans", spec := "tabsMeans", apart := false }
def TabsMeansSaid : Prop := tabsMeansRow.holds Try.pinned (OpenSpec.ofChange tabsMeansSpec)

/-- ITS FALSE NEIGHBOUR: 'it returns false'. Refute it at one input. -/
def tabsMeansWrong : ChangeSpec := { name := "tabsMeans", fn := fun _ => fun
  | [d1, d2, d3] => { results := [.lit (.bool false)], args := [d1, d2, d3] }
  | _ => none }
def TabsMeansWrongFalsely : Prop := tabsMeansRow.holds Try.pinned (OpenSpec.ofChange tabsMeansWrong)

/-- 'farkeep.PageSame': WHATEVER THE INPUT: true; the input reads as it did. -/
def pageSameSpec : ChangeSpec := { name := "pageSame", fn := fun _ => fun
  | [d] => { results := [.lit (.bool true)], args := [d] }
  | _ => none }
def pageSameRow : OpenClaim := { program := "ytgokbjnpjjdboaa", sum := "d6ce36ef4a5bc9932d819f9770c163529002493ae2ac827ff09f529e341c0e74", func := "farwriter/farkeep.PageSame", spec := "pageSame", apart := false }
def PageSameSaid : Prop := pageSameRow.holds Try.pinned (OpenSpec.ofChange pageSameSpec)

/-- ITS FALSE NEIGHBOUR: 'it returns false'. Refute it at one input. -/
def pageSameWrong : ChangeSpec := { name := "pageSame", fn := fun _ => fun
  | [d] => { results := [.lit (.bool false)], args := [d] }
  | _ => none }
def PageSameWrongFalsely : Prop := pageSameRow.holds Try.pinned (OpenSpec.ofChange pageSameWrong)

/-- 'farkeep.PageBack': WHATEVER THE INPUT: true; the input reads as it did. -/
def pageBackSpec : ChangeSpec := { name := "pageBack", fn := fun _ => fun
  | [d1, d2] => { results := [.lit (.bool true)], args := [d1, d2] }
  | _ => none }
def pageBackRow : OpenClaim := { program := "ytgokbjnpjjdboaa", sum := "d6ce36ef4a5bc9932d819f9770c163529002493ae2ac827ff09f529e341c0e74", func := "farwriter/farkeep.PageBack", spec := "pageBack", apart := false }
def PageBackSaid : Prop := pageBackRow.holds Try.pinned (OpenSpec.ofChange pageBackSpec)

/-- ITS FALSE NEIGHBOUR: 'it returns false'. Refute it at one input. -/
def pageBackWrong : ChangeSpec := { name := "pageBack", fn := fun _ => fun
  | [d1, d2] => { results := [.lit (.bool false)], args := [d1, d2] }
  | _ => none }
def PageBackWrongFalsely : Prop := pageBackRow.holds Try.pinned (OpenSpec.ofChange pageBackWrong)

/-- 'farkeep.PageRunes': WHATEVER THE INPUT: true; the input reads as it did. -/
def pageRunesSpec : ChangeSpec := { name := "pageRunes", fn := fun _ => fun
  | [d1, d2] => { results := [.lit (.bool true)], args := [d1, d2] }
  | _ => none }
def pageRunesRow : OpenClaim := { program := "ytgokbjnpjjdboaa", sum := "d6ce36ef4a5bc9932d819f9770c163529002493ae2ac827ff09f529e341c0e74", func := "farwriter/farkeep.PageRunes", spec := "pageRunes", apart := false }
def PageRunesSaid : Prop := pageRunesRow.holds Try.pinned (OpenSpec.ofChange pageRunesSpec)

/-- ITS FALSE NEIGHBOUR: 'it returns false'. Refute it at one input. -/
def pageRunesWrong : ChangeSpec := { name := "pageRunes", fn := fun _ => fun
  | [d1, d2] => { results := [.lit (.bool false)], args := [d1, d2] }
  | _ => none }
def PageRunesWrongFalsely : Prop := pageRunesRow.holds Try.pinned (OpenSpec.ofChange pageRunesWrong)

/-- 'farkeep.NvtBack': WHATEVER THE INPUT: true; the input reads as it did. -/
def nvtBackSpec : ChangeSpec := { name := "nvtBack", fn := fun _ => fun
  | [d1, d2] => { results := [.lit (.bool true)], args := [d1, d2] }
  | _ => none }
def nvtBackRow : OpenClaim := { program := "ytgokbjnpjjdboaa", sum := "d6ce36ef4a5bc9932d819f9770c163529002493ae2ac827ff09f529e341c0e74", func := "farwriter/farkeep.NvtBack", spec := "nvtBack", apart := false }
def NvtBackSaid : Prop := nvtBackRow.holds Try.pinned (OpenSpec.ofChange nvtBackSpec)

/-- ITS FALSE NEIGHBOUR: 'it returns false'. Refute it at one input. -/
def nvtBackWrong : ChangeSpec := { name := "nvtBack", fn := fun _ => fun
  | [d1, d2] => { results := [.lit (.bool false)], args := [d1, d2] }
  | _ => none }
def NvtBackWrongFalsely : Prop := nvtBackRow.holds Try.pinned (OpenSpec.ofChange nvtBackWrong)

/-- 'farkeep.NvtCuts': WHATEVER THE INPUT: true; the input reads as it did. -/
def nvtCutsSpec : ChangeSpec := { name := "nvtCuts", fn := fun _ => fun
  | [d1, d2, d3, d4] => { results := [.lit (.bool true)], args := [d1, d2, d3, d4] }
  | _ => none }
def nvtCutsRow : OpenClaim := { program := "ytgokbjnpjjdboaa", sum := "d6ce36ef4a5bc9932d819f9770c163529002493ae2ac827ff09f529e341c0e74", func := "farwriter/farkeep.NvtCuts", spec := "nvtCuts", apart := false }
def NvtCutsSaid : Prop := nvtCutsRow.holds Try.pinned (OpenSpec.ofChange nvtCutsSpec)

/-- ITS FALSE NEIGHBOUR: 'it returns false'. Refute it at one input. -/
def nvtCutsWrong : ChangeSpec := { name := "nvtCuts", fn := fun _ => fun
  | [d1, d2, d3, d4] => { results := [.lit (.bool false)], args := [d1, d2, d3, d4] }
  | _ => none }
def NvtCutsWrongFalsely : Prop := nvtCutsRow.holds Try.pinned (OpenSpec.ofChange nvtCutsWrong)

/-- 'farkeep.SlcQuiet': WHATEVER THE INPUT: true; the input reads as it did. -/
def slcQuietSpec : ChangeSpec := { name := "slcQuiet", fn := fun _ => fun
  | [d1, d2, d3, d4] => { results := [.lit (.bool true)], args := [d1, d2, d3, d4] }
  | _ => none }
def slcQuietRow : OpenClaim := { program := "ytgokbjnpjjdboaa", sum := "d6ce36ef4a5bc9932d819f9770c163529002493ae2ac827ff09f529e341c0e74", func := "farwriter/farkeep.SlcQuiet", spec := "slcQuiet", apart := false }
def SlcQuietSaid : Prop := slcQuietRow.holds Try.pinned (OpenSpec.ofChange slcQuietSpec)

/-- ITS FALSE NEIGHBOUR: 'it returns false'. Refute it at one input. -/
def slcQuietWrong : ChangeSpec := { name := "slcQuiet", fn := fun _ => fun
  | [d1, d2, d3, d4] => { results := [.lit (.bool false)], args := [d1, d2, d3, d4] }
  | _ => none }
def SlcQuietWrongFalsely : Prop := slcQuietRow.holds Try.pinned (OpenSpec.ofChange slcQuietWrong)

/-- 'farkeep.SlcAlone': WHATEVER THE INPUT: true; the input reads as it did. -/
def slcAloneSpec : ChangeSpec := { name := "slcAlone", fn := fun _ => fun
  | [d1, d2] => { results := [.lit (.bool true)], args := [d1, d2] }
  | _ => none }
def slcAloneRow : OpenClaim := { program := "ytgokbjnpjjdboaa", sum := "d6ce36ef4a5bc9932d819f9770c163529002493ae2ac827ff09f529e341c0e74", func := "farwriter/farkeep.SlcAlone", spec := "slcAlone", apart := false }
def SlcAloneSaid : Prop := slcAloneRow.holds Try.pinned (OpenSpec.ofChange slcAloneSpec)

/-- ITS FALSE NEIGHBOUR: 'it returns false'. Refute it at one input. -/
def slcAloneWrong : ChangeSpec := { name := "slcAlone", fn := fun _ => fun
  | [d1, d2] => { results := [.lit (.bool false)], args := [d1, d2] }
  | _ => none }
def SlcAloneWrongFalsely : Prop := slcAloneRow.holds Try.pinned (OpenSpec.ofChange slcAloneWrong)

/-- 'farkeep.SlcCuts': WHATEVER THE INPUT: true; the input reads as it did. -/
def slcCutsSpec : ChangeSpec := { name := "slcCuts", fn := fun _ => fun
  | [d1, d2, d3] => { results := [.lit (.bool true)], args := [d1, d2, d3] }
  | _ => none }
def slcCutsRow : OpenClaim := { program := "ytgokbjnpjjdboaa", sum := "d6ce36ef4a5bc9932d819f9770c163529002493ae2ac827ff09f529e341c0e74", func := "farwriter/farkeep.SlcCuts", spec := "slcCuts", apart := false }
def SlcCutsSaid : Prop := slcCutsRow.holds Try.pinned (OpenSpec.ofChange slcCutsSpec)

/-- ITS FALSE NEIGHBOUR: 'it returns false'. Refute it at one input. -/
def slcCutsWrong : ChangeSpec := { name := "slcCuts", fn := fun _ => fun
  | [d1, d2, d3] => { results := [.lit (.bool false)], args := [d1, d2, d3] }
  | _ => none }
def SlcCutsWrongFalsely : Prop := slcCutsRow.holds Try.pinned (OpenSpec.ofChange slcCutsWrong)

/-- 'farkeep.SlcAgree': WHATEVER THE INPUT: true; the input reads as it did. -/
def slcAgreeSpec : ChangeSpec := { name := "slcAgree", fn := fun _ => fun
  | [d1, d2] => { results := [.lit (.bool true)], args := [d1, d2] }
  | _ => none }
def slcAgreeRow : OpenClaim := { program := "ytgokbjnpjjdboaa", sum := "d6ce36ef4a5bc9932d819f9770c163529002493ae2ac827ff09f529e341c0e74", func := "farwriter/farkeep.SlcAgree", spec := "slcAgree", apart := false }
def SlcAgreeSaid : Prop := slcAgreeRow.holds Try.pinned (OpenSpec.ofChange slcAgreeSpec)

/-- ITS FALSE NEIGHBOUR: 'it returns false'. Refute it at one input. -/
def slcAgreeWrong : ChangeSpec := { name := "slcAgree", fn := fun _ => fun
  | [d1, d2] => { results := [.lit (.bool false)], args := [d1, d2] }
  | _ => none }
def SlcAgreeWrongFalsely : Prop := slcAgreeRow.holds Try.pinned (OpenSpec.ofChange slcAgreeWrong)

/- THE SECOND FORM. 'bulk': how many values and letters a reading holds, each counted each time it is reached (what is shared counts as often as it is met; a slice's spare places count too). A statement '..UptoSaid' is the law's where the arguments, and the package variables that the reading takes, are together of bulk at most 1048576: NARROWER than '..Said'. Prove '..Said' where nothing that the law and all that it calls make is longer than what came in: it says more and counts as full. Else prove '..UptoSaid'. A law counts once. -/
mutual
def uptoBulk {H : Type} : DataW H → Nat
  | .lit (.string bytes) => bytes.length + 1
  | .lit _ => 1
  | .nil => 1
  | .ptr d => uptoBulk d + 1
  | .slice elems spare => uptoBulkAll elems + uptoBulkAll spare + 1
  | .agg parts => uptoBulkAll parts + 1
  | .iface _ d => uptoBulk d + 1
  | .map entries => uptoBulkEntries entries + 1
  | .held _ => 1
def uptoBulkAll {H : Type} : List (DataW H) → Nat
  | [] => 0
  | d :: r => uptoBulk d + uptoBulkAll r
def uptoBulkEntries {H : Type} : List (Lit × DataW H) → Nat
  | [] => 0
  | x :: r => uptoBulkEntry x + uptoBulkEntries r
def uptoBulkEntry {H : Type} : Lit × DataW H → Nat
  | (.string bytes, d) => bytes.length + uptoBulk d + 1
  | (_, d) => uptoBulk d + 1
 end
def uptoSmall : (H : Type) → List (DataW H) → Bool := fun _ ds => decide (uptoBulkAll ds ≤ 1048576)
def OpenSpec.upto (s : _root_.Go.ChangeSpec) : _root_.Go.OpenSpec := { _root_.Go.OpenSpec.ofChange s with cond := some uptoSmall }

/-- 'farkeep.TabsSteps', WHERE WHAT IT READS IS OF BULK AT MOST 1048576: true; the input reads as it did. -/
def tabsStepsUptoRow : OpenClaim := { program := "ytgokbjnpjjdboaa", sum := "d6ce36ef4a5bc9932d819f9770c163529002493ae2ac827ff09f529e341c0e74", func := "farwriter/farkeep.TabsSteps", spec := "tabsSteps", apart := false, narrowed := true }
def TabsStepsUptoSaid : Prop := tabsStepsUptoRow.holds Try.pinned (OpenSpec.upto tabsStepsSpec)

/-- 'farkeep.TabsMeans', WHERE WHAT IT READS IS OF BULK AT MOST 1048576: true; the input reads as it did. -/
def tabsMeansUptoRow : OpenClaim := { program := "ytgokbjnpjjdboaa", sum := "d6ce36ef4a5bc9932d819f9770c163529002493ae2ac827ff09f529e341c0e74", func := "farwriter/farkeep.TabsMeans", spec := "tabsMeans", apart := false, narrowed := true }
def TabsMeansUptoSaid : Prop := tabsMeansUptoRow.holds Try.pinned (OpenSpec.upto tabsMeansSpec)

/-- 'farkeep.PageSame', WHERE WHAT IT READS IS OF BULK AT MOST 1048576: true; the input reads as it did. -/
def pageSameUptoRow : OpenClaim := { program := "ytgokbjnpjjdboaa", sum := "d6ce36ef4a5bc9932d819f9770c163529002493ae2ac827ff09f529e341c0e74", func := "farwriter/farkeep.PageSame", spec := "pageSame", apart := false, narrowed := true }
def PageSameUptoSaid : Prop := pageSameUptoRow.holds Try.pinned (OpenSpec.upto pageSameSpec)

/-- 'farkeep.PageBack', WHERE WHAT IT READS IS OF BULK AT MOST 1048576: true; the input reads as it did. -/
def pageBackUptoRow : OpenClaim := { program := "ytgokbjnpjjdboaa", sum := "d6ce36ef4a5bc9932d819f9770c163529002493ae2ac827ff09f529e341c0e74", func := "farwriter/farkeep.PageBack", spec := "pageBack", apart := false, narrowed := true }
def PageBackUptoSaid : Prop := pageBackUptoRow.holds Try.pinned (OpenSpec.upto pageBackSpec)

/-- 'farkeep.PageRunes', WHERE WHAT IT READS IS OF BULK AT MOST 1048576: true; the input reads as it did. -/
def pageRunesUptoRow : OpenClaim := { program := "ytgokbjnpjjdboaa", sum := "d6ce36ef4a5bc9932d819f9770c163529002493ae2ac827ff09f529e341c0e74", func := "farwriter/farkeep.PageRunes", spec := "pageRunes", apart := false, narrowed := true }
def PageRunesUptoSaid : Prop := pageRunesUptoRow.holds Try.pinned (OpenSpec.upto pageRunesSpec)

/-- 'farkeep.NvtBack', WHERE WHAT IT READS IS OF BULK AT MOST 1048576: true; the input reads as it did. -/
def nvtBackUptoRow : OpenClaim := { program := "ytgokbjnpjjdboaa", sum := "d6ce36ef4a5bc9932d819f9770c163529002493ae2ac827ff09f529e341c0e74", func := "farwriter/farkeep.NvtBack", spec := "nvtBack", apart := false, narrowed := true }
def NvtBackUptoSaid : Prop := nvtBackUptoRow.holds Try.pinned (OpenSpec.upto nvtBackSpec)

/-- 'farkeep.NvtCuts', WHERE WHAT IT READS IS OF BULK AT MOST 1048576: true; the input reads as it did. -/
def nvtCutsUptoRow : OpenClaim := { program := "ytgokbjnpjjdboaa", sum := "d6ce36ef4a5bc9932d819f9770c163529002493ae2ac827ff09f529e341c0e74", func := "farwriter/farkeep.NvtCuts", spec := "nvtCuts", apart := false, narrowed := true }
def NvtCutsUptoSaid : Prop := nvtCutsUptoRow.holds Try.pinned (OpenSpec.upto nvtCutsSpec)

/-- 'farkeep.SlcQuiet', WHERE WHAT IT READS IS OF BULK AT MOST 1048576: true; the input reads as it did. -/
def slcQuietUptoRow : OpenClaim := { program := "ytgokbjnpjjdboaa", sum := "d6ce36ef4a5bc9932d819f9770c163529002493ae2ac827ff09f529e341c0e74", func := "farwriter/farkeep.SlcQuiet", spec := "slcQuiet", apart := false, narrowed := true }
def SlcQuietUptoSaid : Prop := slcQuietUptoRow.holds Try.pinned (OpenSpec.upto slcQuietSpec)

/-- 'farkeep.SlcAlone', WHERE WHAT IT READS IS OF BULK AT MOST 1048576: true; the input reads as it did. -/
def slcAloneUptoRow : OpenClaim := { program := "ytgokbjnpjjdboaa", sum := "d6ce36ef4a5bc9932d819f9770c163529002493ae2ac827ff09f529e341c0e74", func := "farwriter/farkeep.SlcAlone", spec := "slcAlone", apart := false, narrowed := true }
def SlcAloneUptoSaid : Prop := slcAloneUptoRow.holds Try.pinned (OpenSpec.upto slcAloneSpec)

/-- 'farkeep.SlcCuts', WHERE WHAT IT READS IS OF BULK AT MOST 1048576: true; the input reads as it did. -/
def slcCutsUptoRow : OpenClaim := { program := "ytgokbjnpjjdboaa", sum := "d6ce36ef4a5bc9932d819f9770c163529002493ae2ac827ff09f529e341c0e74", func := "farwriter/farkeep.SlcCuts", spec := "slcCuts", apart := false, narrowed := true }
def SlcCutsUptoSaid : Prop := slcCutsUptoRow.holds Try.pinned (OpenSpec.upto slcCutsSpec)

/-- 'farkeep.SlcAgree', WHERE WHAT IT READS IS OF BULK AT MOST 1048576: true; the input reads as it did. -/
def slcAgreeUptoRow : OpenClaim := { program := "ytgokbjnpjjdboaa", sum := "d6ce36ef4a5bc9932d819f9770c163529002493ae2ac827ff09f529e341c0e74", func := "farwriter/farkeep.SlcAgree", spec := "slcAgree", apart := false, narrowed := true }
def SlcAgreeUptoSaid : Prop := slcAgreeUptoRow.holds Try.pinned (OpenSpec.upto slcAgreeSpec)

end Rows
end Go.Proofs.Ytgokbjnpjjdboaa
