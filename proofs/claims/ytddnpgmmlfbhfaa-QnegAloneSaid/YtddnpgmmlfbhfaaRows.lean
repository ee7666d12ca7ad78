/-
  No cell of these rows narrows 'for every input' (looked for: loops, veiled, ifaces, maps, wideKeys, modest, calm, conditions, laid).
  DERIVED. THE GIVEN ROWS OF THIS SEAT. 5 by the template 'for every input the law returns true; each argument reads behind the call as it read before'; 0 by the template 'total and deterministic' (their statements: YtddnpgmmlfbhfaaTotals.lean).
  GIVEN WITH THE SEED: the statements are not yours to turn. If you find one false, say at which input.
  Laid BY PROGRAM, IN A SANDBOX (cutbox-rows.mjs): the forced cells as the released guide's own fill.sh prints them over the translation f51483315530b4e5… (all of the seat's roots in one cut). By AI agents, Wed Nov 11 2026. No macro, syntax, notation, axiom, sorry.
-/
import Derived.Test.YtddnpgmmlfbhfaaChecked
import GoSem.Claim
import GoSem.ClaimJoined
import GoSem.ClaimMapViews
import Derived.JoinedTies
import Derived.KernelRfl
namespace Go.Proofs.Ytddnpgmmlfbhfaa
/- THE CELL 'sum', in the pinned program and in every row, IS THE sha256 OF THE DUMP (.gsa) THAT YtddnpgmmlfbhfaaProg.lean LOADS. Nothing in Lean hashes anything: it is a label: what it is worth is what the hold of that sum in a sandbox is worth. -/
noncomputable def Try.pinned : Pinned := { name := "ytddnpgmmlfbhfaa", sum := "f51483315530b4e5b3a82e212a93f3da3fd02e5b3c9f4d339718edb667218083", checked := Try.checked }
namespace Rows
def none {H : Type} : Left H := { results := [], args := [] }

/-- 'farkeep.QnegQuiet': WHATEVER THE INPUT: true; the input reads as it did. -/
def qnegQuietSpec : ChangeSpec := { name := "qnegQuiet", fn := fun _ => fun
  | [d1, d2] => { results := [.lit (.bool true)], args := [d1, d2] }
  | _ => none }
def qnegQuietRow : OpenClaim := { program := "ytddnpgmmlfbhfaa", sum := "f51483315530b4e5b3a82e212a93f3da3fd02e5b3c9f4d339718edb667218083", func := "farwriter/farkeep.QnegQuiet", spec := "qnegQuiet", apart := false }
def QnegQuietSaid : Prop := qnegQuietRow.holds Try.pinned (OpenSpec.ofChange qnegQuietSpec)

/-- ITS FALSE NEIGHBOUR: 'it returns false'. Refute it at one input. -/
def qnegQuietWrong : ChangeSpec := { name := "qnegQuiet", fn := fun _ => fun
  | [d1, d2] => { results := [.lit (.bool false)], args := [d1, d2] }
  | _ => none }
def QnegQuietWrongFalsely : Prop := qnegQuietRow.holds Try.pinned (OpenSpec.ofChange qnegQuietWrong)

/-- 'farkeep.QnegLast': WHATEVER THE INPUT: true; the input reads as it did. -/
def qnegLastSpec : ChangeSpec := { name := "qnegLast", fn := fun _ => fun
  | [d1, d2] => { results := [.lit (.bool true)], args := [d1, d2] }
  | _ => none }
def qnegLastRow : OpenClaim := { program := "ytddnpgmmlfbhfaa", sum := "f51483315530b4e5b3a82e212a93f3da3fd02e5b3c9f4d339718edb667218083", func := "farwriter/farkeep.QnegLast", spec := "qnegLast", apart := false }
def QnegLastSaid : Prop := qnegLastRow.holds Try.pinned (OpenSpec.ofChange qnegLastSpec)

/-- ITS FALSE NEIGHBOUR: 'it returns false'. Refute it at one input. -/
def qnegLastWrong : ChangeSpec := { name := "qnegLast", fn := fun _ => fun
  | [d1, d2] => { results := [.lit (.bool false)], args := [d1, d2] }
  | _ => none }
def QnegLastWrongFalsely : Prop := qnegLastRow.holds Try.pinned (OpenSpec.ofChange qnegLastWrong)

/-- 'farkeep.QnegAnswered': WHATEVER THE INPUT: true; the input reads as it did. -/
def qnegAnsweredSpec : ChangeSpec := { name := "qnegAnswered", fn := fun _ => fun
  | [d] => { results := [.lit (.bool true)], args := [d] }
  | _ => none }
def qnegAnsweredRow : OpenClaim := { program := "ytddnpgmmlfbhfaa", sum := "f51483315530b4e5b3a82e212a93f3da3fd02e5b3c9f4d339718edb667218083", func := "farwriter/farkeep.QnegAnswered", spec := "qnegAnswered", apart := false }
def QnegAnsweredSaid : Prop := qnegAnsweredRow.holds Try.pinned (OpenSpec.ofChange qnegAnsweredSpec)

/-- ITS FALSE NEIGHBOUR: 'it returns false'. Refute it at one input. -/
def qnegAnsweredWrong : ChangeSpec := { name := "qnegAnswered", fn := fun _ => fun
  | [d] => { results := [.lit (.bool false)], args := [d] }
  | _ => none }
def QnegAnsweredWrongFalsely : Prop := qnegAnsweredRow.holds Try.pinned (OpenSpec.ofChange qnegAnsweredWrong)

/-- 'farkeep.QnegTwice': WHATEVER THE INPUT: true; the input reads as it did. -/
def qnegTwiceSpec : ChangeSpec := { name := "qnegTwice", fn := fun _ => fun
  | [d1, d2] => { results := [.lit (.bool true)], args := [d1, d2] }
  | _ => none }
def qnegTwiceRow : OpenClaim := { program := "ytddnpgmmlfbhfaa", sum := "f51483315530b4e5b3a82e212a93f3da3fd02e5b3c9f4d339718edb667218083", func := "farwriter/farkeep.QnegTwice", spec := "qnegTwice", apart := false }
def QnegTwiceSaid : Prop := qnegTwiceRow.holds Try.pinned (OpenSpec.ofChange qnegTwiceSpec)

/-- ITS FALSE NEIGHBOUR: 'it returns false'. Refute it at one input. -/
def qnegTwiceWrong : ChangeSpec := { name := "qnegTwice", fn := fun _ => fun
  | [d1, d2] => { results := [.lit (.bool false)], args := [d1, d2] }
  | _ => none }
def QnegTwiceWrongFalsely : Prop := qnegTwiceRow.holds Try.pinned (OpenSpec.ofChange qnegTwiceWrong)

/-- 'farkeep.QnegAlone': WHATEVER THE INPUT: true; the input reads as it did. -/
def qnegAloneSpec : ChangeSpec := { name := "qnegAlone", fn := fun _ => fun
  | [d1, d2, d3, d4, d5] => { results := [.lit (.bool true)], args := [d1, d2, d3, d4, d5] }
  | _ => none }
def qnegAloneRow : OpenClaim := { program := "ytddnpgmmlfbhfaa", sum := "f51483315530b4e5b3a82e212a93f3da3fd02e5b3c9f4d339718edb667218083", func := "farwriter/farkeep.QnegAlone", spec := "qnegAlone", apart := false }
def QnegAloneSaid : Prop := qnegAloneRow.holds Try.pinned (OpenSpec.ofChange qnegAloneSpec)

/-- ITS FALSE NEIGHBOUR: 'it returns false'. Refute it at one input. -/
def qnegAloneWrong : ChangeSpec := { name := "qnegAlone", fn := fun _ => fun
  | [d1, d2, d3, d4, d5] => { results := [.lit (.bool false)], args := [d1, d2, d3, d4, d5] }
  | _ => none }
def QnegAloneWrongFalsely : Prop := qnegAloneRow.holds Try.pinned (OpenSpec.ofChange qnegAloneWrong)

/- THE SECOND FORM. 'bulk': how many values and letters a reading holds, each counted each time it is reached (what is shared counts as often as it is met; a slice's spare places count too). A statement '..UptoSaid' is the law's where the arguments, and the package variables that the reading takes, are together of bulk at most 1048576: NARROWER than '..Said'. Prove '..Said' where nothing that the law and all that it calls make is longer than what came in: it says more and counts as full. Else prove '..UptoSaid'. A law counts once. -/
mutual
def uptoBulk {H : Type} : DataW H → Nat
  | .lit (.string bytes) => bytes.length + 1
  | .lit _ => 1
  | .nil => 1
  | .ptr d => uptoBulk d + 1
  | .slice elems spare => uptoBulkAll elems + uptoBulkAll spare + 1
  | .agg parts => uptoBulkAll parts + 1
  | .iface _ d => uptoBulk d + 1
  | .map entries => uptoBulkEntries entries + 1
  | .held _ => 1
def uptoBulkAll {H : Type} : List (DataW H) → Nat
  | [] => 0
  | d :: r => uptoBulk d + uptoBulkAll r
def uptoBulkEntries {H : Type} : List (Lit × DataW H) → Nat
  | [] => 0
  | x :: r => uptoBulkEntry x + uptoBulkEntries r
def uptoBulkEntry {H : Type} : Lit × DataW H → Nat
  | (.string bytes, d) => bytes.length + uptoBulk d + 1
  | (_, d) => uptoBulk d + 1
 end
def uptoSmall : (H : Type) → List (DataW H) → Bool := fun _ ds => decide (uptoBulkAll ds ≤ 1048576)
def OpenSpec.upto (s : _root_.Go.ChangeSpec) : _root_.Go.OpenSpec := { _root_.Go.OpenSpec.ofChange s with cond := some uptoSmall }

/-- 'farkeep.QnegQuiet', WHERE WHAT IT READS IS OF BULK AT MOST 1048576: true; the input reads as it did. -/
def qnegQuietUptoRow : OpenClaim := { program := "ytddnpgmmlfbhfaa", sum := "f51483315530b4e5b3a82e212a93f3da3fd02e5b3c9f4d339718edb667218083", func := "farwriter/farkeep.QnegQuiet", spec := "qnegQuiet", apart := false, narrowed := true }
def QnegQuietUptoSaid : Prop := qnegQuietUptoRow.holds Try.pinned (OpenSpec.upto qnegQuietSpec)

/-- 'farkeep.QnegLast', WHERE WHAT IT READS IS OF BULK AT MOST 1048576: true; the input reads as it did. -/
def qnegLastUptoRow : OpenClaim := { program := "ytddnpgmmlfbhfaa", sum := "f51483315530b4e5b3a82e212a93f3da3fd02e5b3c9f4d339718edb667218083", func := "farwriter/farkeep.QnegLast", spec := "qnegLast", apart := false, narrowed := true }
def QnegLastUptoSaid : Prop := qnegLastUptoRow.holds Try.pinned (OpenSpec.upto qnegLastSpec)

/-- 'farkeep.QnegAnswered', WHERE WHAT IT READS IS OF BULK AT MOST 1048576: true; the input reads as it did. -/
def qnegAnsweredUptoRow : OpenClaim := { program := "ytddnpgmmlfbhfaa", sum := "f51483315530b4e5b3a82e212a93f3da3fd02e5b3c9f4d339718edb667218083", func := "farwriter/farkeep.QnegAnswered", spec := "qnegAnswered", apart := false, narrowed := true }
def QnegAnsweredUptoSaid : Prop := qnegAnsweredUptoRow.holds Try.pinned (OpenSpec.upto qnegAnsweredSpec)

/-- 'farkeep.QnegTwice', WHERE WHAT IT READS IS OF BULK AT MOST 1048576: true; the input reads as it did. -/
def qnegTwiceUptoRow : OpenClaim := { program := "ytddnpgmmlfbhfaa", sum := "f51483315530b4e5b3a82e212a93f3da3fd02e5b3c9f4d339718edb667218083", func := "farwriter/farkeep.QnegTwice", spec := "qnegTwice", apart := false, narrowed := true }
def QnegTwiceUptoSaid : Prop := qnegTwiceUptoRow.holds Try.pinned (OpenSpec.upto qnegTwiceSpec)

/-- 'farkeep.QnegAlone', WHERE WHAT IT READS IS OF BULK AT MOST 1048576: true; the input reads as it did. -/
def qnegAloneUptoRow : OpenClaim := { program := "ytddnpgmmlfbhfaa", sum := "f51483315530b4e5b3a82e212a93f3da3fd02e5b3c9f4d339718edb667218083", func := "farwriter/farkeep.QnegAlone", spec := "qnegAlone", apart := false, narrowed := true }
def QnegAloneUptoSaid : Prop := qnegAloneUptoRow.holds Try.pinned (OpenSpec.upto qnegAloneSpec)

end Rows
end Go.Proofs.Ytddnpgmmlfbhfaa
