/-
  NARROWER THAN 'FOR EVERY INPUT', by the rows' own cells (each row's printed sentence says how): IacPlain: laid · IacRight: laid · IacAgain: laid · IacCuts: laid · IacBack: laid.
  DERIVED. THE GIVEN ROWS OF THIS SEAT. 5 by the template 'for every input the law returns true; each argument reads behind the call as it read before'; 0 by the template 'total and deterministic' (their statements: YtjndlncimgoacaaDoorTotals.lean).
  GIVEN WITH THE SEED: the statements are not yours to turn. If you find one false, say at which input.
  Laid BY PROGRAM, IN A SANDBOX (cutbox-rows.mjs): the forced cells as the released guide's own fill.sh prints them over the translation c16ed63808b146d3… (all of the seat's roots in one cut). By AI agents, Wed Nov 11 2026. No macro, syntax, notation, axiom, sorry.
-/
import Derived.Test.YtjndlncimgoacaaDoorChecked
import GoSem.PinnedTables
import GoSem.Claim
import GoSem.ClaimJoined
import GoSem.ClaimMapViews
import Derived.JoinedTies
import Derived.KernelRfl
namespace Go.Proofs.YtjndlncimgoacaaDoor
/- THE CELL 'sum', in the pinned program and in every row, IS THE sha256 OF THE DUMP (.gsa) THAT YtjndlncimgoacaaDoorProg.lean LOADS. Nothing in Lean hashes anything: it is a label: what it is worth is what the hold of that sum in a sandbox is worth. -/
noncomputable def Tryd.pinned : Pinned := { name := "ytjndlncimgoacaadoor", sum := "c16ed63808b146d3db084b35da8dbaa8925844302dcdb1e8aea987214e3522b4", checked := Tryd.checked }
namespace Rows
def none {H : Type} : Left H := { results := [], args := [] }

/- WHAT THE LISTED PACKAGE-LEVEL VARIABLES READ AS WHEN THE CALL BEGINS. Each datum BY PROGRAM (the guide's laid-datum.mjs) off the statement by which the dump's own 'gosem.cut.vars' lays the variable. In a bare row this is a premise. The card (YtjndlncimgoacaaDoorCards.lean) ties it to the program's text. -/
def laid_unicode_utf8_acceptRanges {H : Type} : DataW H := .agg [.agg [.lit (.int .u8 128), .lit (.int .u8 191)], .agg [.lit (.int .u8 160), .lit (.int .u8 191)], .agg [.lit (.int .u8 128), .lit (.int .u8 159)], .agg [.lit (.int .u8 144), .lit (.int .u8 191)], .agg [.lit (.int .u8 128), .lit (.int .u8 143)], .agg [.lit (.int .u8 0), .lit (.int .u8 0)], .agg [.lit (.int .u8 0), .lit (.int .u8 0)], .agg [.lit (.int .u8 0), .lit (.int .u8 0)], .agg [.lit (.int .u8 0), .lit (.int .u8 0)], .agg [.lit (.int .u8 0), .lit (.int .u8 0)], .agg [.lit (.int .u8 0), .lit (.int .u8 0)], .agg [.lit (.int .u8 0), .lit (.int .u8 0)], .agg [.lit (.int .u8 0), .lit (.int .u8 0)], .agg [.lit (.int .u8 0), .lit (.int .u8 0)], .agg [.lit (.int .u8 0), .lit (.int .u8 0)], .agg [.lit (.int .u8 0), .lit (.int .u8 0)]]
/-- One of Go's own tables, pinned by name: the form's constant. -/
def laid_unicode_utf8_first : DataW Unit := Go.Pinned.utf8First

/-- 'farkeep.IacPlain': WHATEVER THE INPUT: true; the input reads as it did. -/
def iacPlainSpec : ChangeSpec := { name := "iacPlain", fn := fun _ => fun
  | [d] => { results := [.lit (.bool true)], args := [d] }
  | _ => none }
def iacPlainRow : OpenClaim := { program := "ytjndlncimgoacaadoor", sum := "c16ed63808b146d3db084b35da8dbaa8925844302dcdb1e8aea987214e3522b4", func := "farwriter/farkeep.IacPlain", spec := "iacPlain", inPlace := ["internal/bytealg.CountString", "internal/bytealg.IndexByteString", "internal/bytealg.IndexString", "internal/abi.NoEscape", "internal/bytealg.MakeNoZero"], named := ["internal/bytealg.MaxLen", "unicode/utf8.first", "unicode/utf8.acceptRanges"], apart := false, laid := [("unicode/utf8.acceptRanges", laid_unicode_utf8_acceptRanges), ("unicode/utf8.first", laid_unicode_utf8_first)] }
def IacPlainSaid : Prop := iacPlainRow.holds Tryd.pinned (OpenSpec.ofChange iacPlainSpec)

/-- ITS FALSE NEIGHBOUR: 'it returns false'. Refute it at one input. -/
def iacPlainWrong : ChangeSpec := { name := "iacPlain", fn := fun _ => fun
  | [d] => { results := [.lit (.bool false)], args := [d] }
  | _ => none }
def IacPlainWrongFalsely : Prop := iacPlainRow.holds Tryd.pinned (OpenSpec.ofChange iacPlainWrong)

/-- 'farkeep.IacRight': WHATEVER THE INPUT: true; the input reads as it did. -/
def iacRightSpec : ChangeSpec := { name := "iacRight", fn := fun _ => fun
  | [d1, d2] => { results := [.lit (.bool true)], args := [d1, d2] }
  | _ => none }
def iacRightRow : OpenClaim := { program := "ytjndlncimgoacaadoor", sum := "c16ed63808b146d3db084b35da8dbaa8925844302dcdb1e8aea987214e3522b4", func := "farwriter/farkeep.IacRight", spec := "iacRight", inPlace := ["internal/bytealg.CountString", "internal/bytealg.IndexByteString", "internal/bytealg.IndexString", "internal/abi.NoEscape", "internal/bytealg.MakeNoZero"], named := ["internal/bytealg.MaxLen", "unicode/utf8.first", "unicode/utf8.acceptRanges"], apart := false, laid := [("unicode/utf8.acceptRanges", laid_unicode_utf8_acceptRanges), ("unicode/utf8.first", laid_unicode_utf8_first)] }
def IacRightSaid : Prop := iacRightRow.holds Tryd.pinned (OpenSpec.ofChange iacRightSpec)

/-- ITS FALSE NEIGHBOUR: 'it returns false'. Refute it at one input. -/
def iacRightWrong : ChangeSpec := { name := "iacRight", fn := fun _ => fun
  | [d1, d2] => { results := [.lit (.bool false)], args := [d1, d2] }
  | _ => none }
def IacRightWrongFalsely : Prop := iacRightRow.holds Tryd.pinned (OpenSpec.ofChange iacRightWrong)

/-- 'farkeep.IacAgain': WHATEVER THE INPUT: true; the input reads as it did. -/
def iacAgainSpec : ChangeSpec := { name := "iacAgain", fn := fun _ => fun
  | [d1, d2, d3] => { results := [.lit (.bool true)], args := [d1, d2, d3] }
  | _ => none }
def iacAgainRow : OpenClaim := { program := "ytjndlncimgoacaadoor", sum := "c16ed63808b146d3db084b35da8dbaa8925844302dcdb1e8aea987214e3522b4", func := "farwriter/farkeep.IacAgain", spec := "iacAgain", inPlace := ["internal/bytealg.CountString", "internal/bytealg.IndexByteString", "internal/bytealg.IndexString", "internal/abi.NoEscape", "internal/bytealg.MakeNoZero"], named := ["internal/bytealg.MaxLen", "unicode/utf8.first", "unicode/utf8.acceptRanges"], apart := false, laid := [("unicode/utf8.acceptRanges", laid_unicode_utf8_acceptRanges), ("unicode/utf8.first", laid_unicode_utf8_first)] }
def IacAgainSaid : Prop := iacAgainRow.holds Tryd.pinned (OpenSpec.ofChange iacAgainSpec)

/-- ITS FALSE NEIGHBOUR: 'it returns false'. Refute it at one input. -/
def iacAgainWrong : ChangeSpec := { name := "iacAgain", fn := fun _ => fun
  | [d1, d2, d3] => { results := [.lit (.bool false)], args := [d1, d2, d3] }
  | _ => none }
def IacAgainWrongFalsely : Prop := iacAgainRow.holds Tryd.pinned (OpenSpec.ofChange iacAgainWrong)

/-- 'farkeep.IacCuts': WHATEVER THE INPUT: true; the input reads as it did. -/
def iacCutsSpec : ChangeSpec := { name := "iacCuts", fn := fun _ => fun
  | [d1, d2, d3] => { results := [.lit (.bool true)], args := [d1, d2, d3] }
  | _ => none }
def iacCutsRow : OpenClaim := { program := "ytjndlncimgoacaadoor", sum := "c16ed63808b146d3db084b35da8dbaa8925844302dcdb1e8aea987214e3522b4", func := "farwriter/farkeep.IacCuts", spec := "iacCuts", inPlace := ["internal/bytealg.CountString", "internal/bytealg.IndexByteString", "internal/bytealg.IndexString", "internal/abi.NoEscape", "internal/bytealg.MakeNoZero"], named := ["internal/bytealg.MaxLen", "unicode/utf8.first", "unicode/utf8.acceptRanges"], apart := false, laid := [("unicode/utf8.acceptRanges", laid_unicode_utf8_acceptRanges), ("unicode/utf8.first", laid_unicode_utf8_first)] }
def IacCutsSaid : Prop := iacCutsRow.holds Tryd.pinned (OpenSpec.ofChange iacCutsSpec)

/-- ITS FALSE NEIGHBOUR: 'it returns false'. Refute it at one input. -/
def iacCutsWrong : ChangeSpec := { name := "iacCuts", fn := fun _ => fun
  | [d1, d2, d3] => { results := [.lit (.bool false)], args := [d1, d2, d3] }
  | _ => none }
def IacCutsWrongFalsely : Prop := iacCutsRow.holds Tryd.pinned (OpenSpec.ofChange iacCutsWrong)

/-- 'farkeep.IacBack': WHATEVER THE INPUT: true; the input reads as it did. -/
def iacBackSpec : ChangeSpec := { name := "iacBack", fn := fun _ => fun
  | [d] => { results := [.lit (.bool true)], args := [d] }
  | _ => none }
def iacBackRow : OpenClaim := { program := "ytjndlncimgoacaadoor", sum := "c16ed63808b146d3db084b35da8dbaa8925844302dcdb1e8aea987214e3522b4", func := "farwriter/farkeep.IacBack", spec := "iacBack", inPlace := ["internal/bytealg.CountString", "internal/bytealg.IndexByteString", "internal/bytealg.IndexString", "internal/abi.NoEscape", "internal/bytealg.MakeNoZero"], named := ["internal/bytealg.MaxLen", "unicode/utf8.first", "unicode/utf8.acceptRanges"], apart := false, laid := [("unicode/utf8.acceptRanges", laid_unicode_utf8_acceptRanges), ("unicode/utf8.first", laid_unicode_utf8_first)] }
def IacBackSaid : Prop := iacBackRow.holds Tryd.pinned (OpenSpec.ofChange iacBackSpec)

/-- ITS FALSE NEIGHBOUR: 'it returns false'. Refute it at one input. -/
def iacBackWrong : ChangeSpec := { name := "iacBack", fn := fun _ => fun
  | [d] => { results := [.lit (.bool false)], args := [d] }
  | _ => none }
def IacBackWrongFalsely : Prop := iacBackRow.holds Tryd.pinned (OpenSpec.ofChange iacBackWrong)

/- THE SECOND FORM. 'bulk': how many values and letters a reading holds, each counted each time it is reached (what is shared counts as often as it is met; a slice's spare places count too). A statement '..UptoSaid' is the law's where the arguments, and the package variables that the reading takes, are together of bulk at most 1048576: NARROWER than '..Said'. Prove '..Said' where nothing that the law and all that it calls make is longer than what came in: it says more and counts as full. Else prove '..UptoSaid'. A law counts once. -/
mutual
def uptoBulk {H : Type} : DataW H → Nat
  | .lit (.string bytes) => bytes.length + 1
  | .lit _ => 1
  | .nil => 1
  | .ptr d => uptoBulk d + 1
  | .slice elems spare => uptoBulkAll elems + uptoBulkAll spare + 1
  | .agg parts => uptoBulkAll parts + 1
  | .iface _ d => uptoBulk d + 1
  | .map entries => uptoBulkEntries entries + 1
  | .held _ => 1
def uptoBulkAll {H : Type} : List (DataW H) → Nat
  | [] => 0
  | d :: r => uptoBulk d + uptoBulkAll r
def uptoBulkEntries {H : Type} : List (Lit × DataW H) → Nat
  | [] => 0
  | x :: r => uptoBulkEntry x + uptoBulkEntries r
def uptoBulkEntry {H : Type} : Lit × DataW H → Nat
  | (.string bytes, d) => bytes.length + uptoBulk d + 1
  | (_, d) => uptoBulk d + 1
 end
def uptoSmall : (H : Type) → List (DataW H) → Bool := fun _ ds => decide (uptoBulkAll ds ≤ 1048576)
def OpenSpec.upto (s : _root_.Go.ChangeSpec) : _root_.Go.OpenSpec := { _root_.Go.OpenSpec.ofChange s with cond := some uptoSmall }

/-- 'farkeep.IacPlain', WHERE WHAT IT READS IS OF BULK AT MOST 1048576: true; the input reads as it did. -/
def iacPlainUptoRow : OpenClaim := { program := "ytjndlncimgoacaadoor", sum := "c16ed63808b146d3db084b35da8dbaa8925844302dcdb1e8aea987214e3522b4", func := "farwriter/farkeep.IacPlain", spec := "iacPlain", inPlace := ["internal/bytealg.CountString", "internal/bytealg.IndexByteString", "internal/bytealg.IndexString", "internal/abi.NoEscape", "internal/bytealg.MakeNoZero"], named := ["internal/bytealg.MaxLen", "unicode/utf8.first", "unicode/utf8.acceptRanges"], apart := false, laid := [("unicode/utf8.acceptRanges", laid_unicode_utf8_acceptRanges), ("unicode/utf8.first", laid_unicode_utf8_first)], narrowed := true }
def IacPlainUptoSaid : Prop := iacPlainUptoRow.holds Tryd.pinned (OpenSpec.upto iacPlainSpec)

/-- 'farkeep.IacRight', WHERE WHAT IT READS IS OF BULK AT MOST 1048576: true; the input reads as it did. -/
def iacRightUptoRow : OpenClaim := { program := "ytjndlncimgoacaadoor", sum := "c16ed63808b146d3db084b35da8dbaa8925844302dcdb1e8aea987214e3522b4", func := "farwriter/farkeep.IacRight", spec := "iacRight", inPlace := ["internal/bytealg.CountString", "internal/bytealg.IndexByteString", "internal/bytealg.IndexString", "internal/abi.NoEscape", "internal/bytealg.MakeNoZero"], named := ["internal/bytealg.MaxLen", "unicode/utf8.first", "unicode/utf8.acceptRanges"], apart := false, laid := [("unicode/utf8.acceptRanges", laid_unicode_utf8_acceptRanges), ("unicode/utf8.first", laid_unicode_utf8_first)], narrowed := true }
def IacRightUptoSaid : Prop := iacRightUptoRow.holds Tryd.pinned (OpenSpec.upto iacRightSpec)

/-- 'farkeep.IacAgain', WHERE WHAT IT READS IS OF BULK AT MOST 1048576: true; the input reads as it did. -/
def iacAgainUptoRow : OpenClaim := { program := "ytjndlncimgoacaadoor", sum := "c16ed63808b146d3db084b35da8dbaa8925844302dcdb1e8aea987214e3522b4", func := "farwriter/farkeep.IacAgain", spec := "iacAgain", inPlace := ["internal/bytealg.CountString", "internal/bytealg.IndexByteString", "internal/bytealg.IndexString", "internal/abi.NoEscape", "internal/bytealg.MakeNoZero"], named := ["internal/bytealg.MaxLen", "unicode/utf8.first", "unicode/utf8.acceptRanges"], apart := false, laid := [("unicode/utf8.acceptRanges", laid_unicode_utf8_acceptRanges), ("unicode/utf8.first", laid_unicode_utf8_first)], narrowed := true }
def IacAgainUptoSaid : Prop := iacAgainUptoRow.holds Tryd.pinned (OpenSpec.upto iacAgainSpec)

/-- 'farkeep.IacCuts', WHERE WHAT IT READS IS OF BULK AT MOST 1048576: true; the input reads as it did. -/
def iacCutsUptoRow : OpenClaim := { program := "ytjndlncimgoacaadoor", sum := "c16ed63808b146d3db084b35da8dbaa8925844302dcdb1e8aea987214e3522b4", func := "farwriter/farkeep.IacCuts", spec := "iacCuts", inPlace := ["internal/bytealg.CountString", "internal/bytealg.IndexByteString", "internal/bytealg.IndexString", "internal/abi.NoEscape", "internal/bytealg.MakeNoZero"], named := ["internal/bytealg.MaxLen", "unicode/utf8.first", "unicode/utf8.acceptRanges"], apart := false, laid := [("unicode/utf8.acceptRanges", laid_unicode_utf8_acceptRanges), ("unicode/utf8.first", laid_unicode_utf8_first)], narrowed := true }
def IacCutsUptoSaid : Prop := iacCutsUptoRow.holds Tryd.pinned (OpenSpec.upto iacCutsSpec)

/-- 'farkeep.IacBack', WHERE WHAT IT READS IS OF BULK AT MOST 1048576: true; the input reads as it did. -/
def iacBackUptoRow : OpenClaim := { program := "ytjndlncimgoacaadoor", sum := "c16ed63808b146d3db084b35da8dbaa8925844302dcdb1e8aea987214e3522b4", func := "farwriter/farkeep.IacBack", spec := "iacBack", inPlace := ["internal/bytealg.CountString", "internal/bytealg.IndexByteString", "internal/bytealg.IndexString", "internal/abi.NoEscape", "internal/bytealg.MakeNoZero"], named := ["internal/bytealg.MaxLen", "unicode/utf8.first", "unicode/utf8.acceptRanges"], apart := false, laid := [("unicode/utf8.acceptRanges", laid_unicode_utf8_acceptRanges), ("unicode/utf8.first", laid_unicode_utf8_first)], narrowed := true }
def IacBackUptoSaid : Prop := iacBackUptoRow.holds Tryd.pinned (OpenSpec.upto iacBackSpec)

end Rows
end Go.Proofs.YtjndlncimgoacaaDoor
