/-
  No cell of these rows narrows 'for every input' (looked for: loops, veiled, ifaces, maps, wideKeys, modest, calm, conditions, laid).
  DERIVED. THE GIVEN ROWS OF THIS SEAT. 11 by the template 'for every input the law returns true; each argument reads behind the call as it read before'; 0 by the template 'total and deterministic' (their statements: YtphbfciikjkkfaaTotals.lean).
  GIVEN WITH THE SEED: the statements are not yours to turn. If you find one false, say at which input.
  Laid BY PROGRAM, IN A SANDBOX (cutbox-rows.mjs): the forced cells as the released guide's own fill.sh prints them over the translation 9aa80d41bd84f6b7… (all of the seat's roots in one cut). By AI agents, Wed Nov 11 2026. No macro, syntax, notation, axiom, sorry.
-/
import Derived.Test.YtphbfciikjkkfaaChecked
import GoSem.Claim
import GoSem.ClaimJoined
import GoSem.ClaimMapViews
import Derived.JoinedTies
import Derived.KernelRfl
namespace Go.Proofs.Ytphbfciikjkkfaa
/- THE CELL 'sum', in the pinned program and in every row, IS THE sha256 OF THE DUMP (.gsa) THAT YtphbfciikjkkfaaProg.lean LOADS. Nothing in Lean hashes anything: it is a label: what it is worth is what the hold of that sum in a sandbox is worth. -/
noncomputable def Try.pinned : Pinned := { name := "ytphbfciikjkkfaa", sum := "9aa80d41bd84f6b77e3503387b622878270fe05e4e7eb2816638bac9710f46e1", checked := Try.checked }
namespace Rows
def none {H : Type} : Left H := { results := [], args := [] }

/-- 'farkeep.EnvironBack': WHATEVER THE INPUT: true; the input reads as it did. -/
def environBackSpec : ChangeSpec := { name := "environBack", fn := fun _ => fun
  | [d1, d2] => { results := [.lit (.bool true)], args := [d1, d2] }
  | _ => none }
def environBackRow : OpenClaim := { program := "ytphbfciikjkkfaa", sum := "9aa80d41bd84f6b77e3503387b622878270fe05e4e7eb2816638bac9710f46e1", func := "farwriter/farkeep.EnvironBack", spec := "environBack", unfollowed := true, recurses := true, apart := false }
def EnvironBackSaid : Prop := environBackRow.holds Try.pinned (OpenSpec.ofChange environBackSpec)

/-- ITS FALSE NEIGHBOUR: 'it returns false'. Refute it at one input. -/
def environBackWrong : ChangeSpec := { name := "environBack", fn := fun _ => fun
  | [d1, d2] => { results := [.lit (.bool false)], args := [d1, d2] }
  | _ => none }
def EnvironBackWrongFalsely : Prop := environBackRow.holds Try.pinned (OpenSpec.ofChange environBackWrong)

/-- 'farkeep.EnvironJoins': WHATEVER THE INPUT: true; the input reads as it did. -/
def environJoinsSpec : ChangeSpec := { name := "environJoins", fn := fun _ => fun
  | [d1, d2] => { results := [.lit (.bool true)], args := [d1, d2] }
  | _ => none }
def environJoinsRow : OpenClaim := { program := "ytphbfciikjkkfaa", sum := "9aa80d41bd84f6b77e3503387b622878270fe05e4e7eb2816638bac9710f46e1", func := "farwriter/farkeep.EnvironJoins", spec := "environJoins", unfollowed := true, recurses := true, apart := false }
def EnvironJoinsSaid : Prop := environJoinsRow.holds Try.pinned (OpenSpec.ofChange environJoinsSpec)

/-- ITS FALSE NEIGHBOUR: 'it returns false'. Refute it at one input. -/
def environJoinsWrong : ChangeSpec := { name := "environJoins", fn := fun _ => fun
  | [d1, d2] => { results := [.lit (.bool false)], args := [d1, d2] }
  | _ => none }
def EnvironJoinsWrongFalsely : Prop := environJoinsRow.holds Try.pinned (OpenSpec.ofChange environJoinsWrong)

/-- 'farkeep.EnvironOwn': WHATEVER THE INPUT: true; the input reads as it did. -/
def environOwnSpec : ChangeSpec := { name := "environOwn", fn := fun _ => fun
  | [d1, d2] => { results := [.lit (.bool true)], args := [d1, d2] }
  | _ => none }
def environOwnRow : OpenClaim := { program := "ytphbfciikjkkfaa", sum := "9aa80d41bd84f6b77e3503387b622878270fe05e4e7eb2816638bac9710f46e1", func := "farwriter/farkeep.EnvironOwn", spec := "environOwn", unfollowed := true, recurses := true, apart := false }
def EnvironOwnSaid : Prop := environOwnRow.holds Try.pinned (OpenSpec.ofChange environOwnSpec)

/-- ITS FALSE NEIGHBOUR: 'it returns false'. Refute it at one input. -/
def environOwnWrong : ChangeSpec := { name := "environOwn", fn := fun _ => fun
  | [d1, d2] => { results := [.lit (.bool false)], args := [d1, d2] }
  | _ => none }
def EnvironOwnWrongFalsely : Prop := environOwnRow.holds Try.pinned (OpenSpec.ofChange environOwnWrong)

/-- 'farkeep.EnvironTold': WHATEVER THE INPUT: true; the input reads as it did. -/
def environToldSpec : ChangeSpec := { name := "environTold", fn := fun _ => fun
  | [d1, d2] => { results := [.lit (.bool true)], args := [d1, d2] }
  | _ => none }
def environToldRow : OpenClaim := { program := "ytphbfciikjkkfaa", sum := "9aa80d41bd84f6b77e3503387b622878270fe05e4e7eb2816638bac9710f46e1", func := "farwriter/farkeep.EnvironTold", spec := "environTold", unfollowed := true, recurses := true, apart := false }
def EnvironToldSaid : Prop := environToldRow.holds Try.pinned (OpenSpec.ofChange environToldSpec)

/-- ITS FALSE NEIGHBOUR: 'it returns false'. Refute it at one input. -/
def environToldWrong : ChangeSpec := { name := "environTold", fn := fun _ => fun
  | [d1, d2] => { results := [.lit (.bool false)], args := [d1, d2] }
  | _ => none }
def EnvironToldWrongFalsely : Prop := environToldRow.holds Try.pinned (OpenSpec.ofChange environToldWrong)

/-- 'farkeep.AboutEnd': WHATEVER THE INPUT: true; the input reads as it did. -/
def aboutEndSpec : ChangeSpec := { name := "aboutEnd", fn := fun _ => fun
  | [d] => { results := [.lit (.bool true)], args := [d] }
  | _ => none }
def aboutEndRow : OpenClaim := { program := "ytphbfciikjkkfaa", sum := "9aa80d41bd84f6b77e3503387b622878270fe05e4e7eb2816638bac9710f46e1", func := "farwriter/farkeep.AboutEnd", spec := "aboutEnd", apart := false }
def AboutEndSaid : Prop := aboutEndRow.holds Try.pinned (OpenSpec.ofChange aboutEndSpec)

/-- ITS FALSE NEIGHBOUR: 'it returns false'. Refute it at one input. -/
def aboutEndWrong : ChangeSpec := { name := "aboutEnd", fn := fun _ => fun
  | [d] => { results := [.lit (.bool false)], args := [d] }
  | _ => none }
def AboutEndWrongFalsely : Prop := aboutEndRow.holds Try.pinned (OpenSpec.ofChange aboutEndWrong)

/-- 'farkeep.AboutOwn': WHATEVER THE INPUT: true; the input reads as it did. -/
def aboutOwnSpec : ChangeSpec := { name := "aboutOwn", fn := fun _ => fun
  | [d1, d2] => { results := [.lit (.bool true)], args := [d1, d2] }
  | _ => none }
def aboutOwnRow : OpenClaim := { program := "ytphbfciikjkkfaa", sum := "9aa80d41bd84f6b77e3503387b622878270fe05e4e7eb2816638bac9710f46e1", func := "farwriter/farkeep.AboutOwn", spec := "aboutOwn", apart := false }
def AboutOwnSaid : Prop := aboutOwnRow.holds Try.pinned (OpenSpec.ofChange aboutOwnSpec)

/-- ITS FALSE NEIGHBOUR: 'it returns false'. Refute it at one input. -/
def aboutOwnWrong : ChangeSpec := { name := "aboutOwn", fn := fun _ => fun
  | [d1, d2] => { results := [.lit (.bool false)], args := [d1, d2] }
  | _ => none }
def AboutOwnWrongFalsely : Prop := aboutOwnRow.holds Try.pinned (OpenSpec.ofChange aboutOwnWrong)

/-- 'farkeep.AboutBack': WHATEVER THE INPUT: true; the input reads as it did. -/
def aboutBackSpec : ChangeSpec := { name := "aboutBack", fn := fun _ => fun
  | [d1, d2, d3] => { results := [.lit (.bool true)], args := [d1, d2, d3] }
  | _ => none }
def aboutBackRow : OpenClaim := { program := "ytphbfciikjkkfaa", sum := "9aa80d41bd84f6b77e3503387b622878270fe05e4e7eb2816638bac9710f46e1", func := "farwriter/farkeep.AboutBack", spec := "aboutBack", apart := false }
def AboutBackSaid : Prop := aboutBackRow.holds Try.pinned (OpenSpec.ofChange aboutBackSpec)

/-- ITS FALSE NEIGHBOUR: 'it returns false'. Refute it at one input. -/
def aboutBackWrong : ChangeSpec := { name := "aboutBack", fn := fun _ => fun
  | [d1, d2, d3] => { results := [.lit (.bool false)], args := [d1, d2, d3] }
  | _ => none }
def AboutBackWrongFalsely : Prop := aboutBackRow.holds Try.pinned (OpenSpec.ofChange aboutBackWrong)

/-- 'farkeep.PenMakes': WHATEVER THE INPUT: true; the input reads as it did. -/
def penMakesSpec : ChangeSpec := { name := "penMakes", fn := fun _ => fun
  | [d1, d2] => { results := [.lit (.bool true)], args := [d1, d2] }
  | _ => none }
def penMakesRow : OpenClaim := { program := "ytphbfciikjkkfaa", sum := "9aa80d41bd84f6b77e3503387b622878270fe05e4e7eb2816638bac9710f46e1", func := "farwriter/farkeep.PenMakes", spec := "penMakes", unfollowed := true, recurses := true, apart := false }
def PenMakesSaid : Prop := penMakesRow.holds Try.pinned (OpenSpec.ofChange penMakesSpec)

/-- ITS FALSE NEIGHBOUR: 'it returns false'. Refute it at one input. -/
def penMakesWrong : ChangeSpec := { name := "penMakes", fn := fun _ => fun
  | [d1, d2] => { results := [.lit (.bool false)], args := [d1, d2] }
  | _ => none }
def PenMakesWrongFalsely : Prop := penMakesRow.holds Try.pinned (OpenSpec.ofChange penMakesWrong)

/-- 'farkeep.PenZero': WHATEVER THE INPUT: true; the input reads as it did. -/
def penZeroSpec : ChangeSpec := { name := "penZero", fn := fun _ => fun
  | [d1, d2, d3] => { results := [.lit (.bool true)], args := [d1, d2, d3] }
  | _ => none }
def penZeroRow : OpenClaim := { program := "ytphbfciikjkkfaa", sum := "9aa80d41bd84f6b77e3503387b622878270fe05e4e7eb2816638bac9710f46e1", func := "farwriter/farkeep.PenZero", spec := "penZero", unfollowed := true, recurses := true, apart := false }
def PenZeroSaid : Prop := penZeroRow.holds Try.pinned (OpenSpec.ofChange penZeroSpec)

/-- ITS FALSE NEIGHBOUR: 'it returns false'. Refute it at one input. -/
def penZeroWrong : ChangeSpec := { name := "penZero", fn := fun _ => fun
  | [d1, d2, d3] => { results := [.lit (.bool false)], args := [d1, d2, d3] }
  | _ => none }
def PenZeroWrongFalsely : Prop := penZeroRow.holds Try.pinned (OpenSpec.ofChange penZeroWrong)

/-- 'farkeep.PenBack': WHATEVER THE INPUT: true; the input reads as it did. -/
def penBackSpec : ChangeSpec := { name := "penBack", fn := fun _ => fun
  | [d1, d2] => { results := [.lit (.bool true)], args := [d1, d2] }
  | _ => none }
def penBackRow : OpenClaim := { program := "ytphbfciikjkkfaa", sum := "9aa80d41bd84f6b77e3503387b622878270fe05e4e7eb2816638bac9710f46e1", func := "farwriter/farkeep.PenBack", spec := "penBack", unfollowed := true, recurses := true, apart := false }
def PenBackSaid : Prop := penBackRow.holds Try.pinned (OpenSpec.ofChange penBackSpec)

/-- ITS FALSE NEIGHBOUR: 'it returns false'. Refute it at one input. -/
def penBackWrong : ChangeSpec := { name := "penBack", fn := fun _ => fun
  | [d1, d2] => { results := [.lit (.bool false)], args := [d1, d2] }
  | _ => none }
def PenBackWrongFalsely : Prop := penBackRow.holds Try.pinned (OpenSpec.ofChange penBackWrong)

/-- 'farkeep.PenJoins': WHATEVER THE INPUT: true; the input reads as it did. -/
def penJoinsSpec : ChangeSpec := { name := "penJoins", fn := fun _ => fun
  | [d1, d2, d3] => { results := [.lit (.bool true)], args := [d1, d2, d3] }
  | _ => none }
def penJoinsRow : OpenClaim := { program := "ytphbfciikjkkfaa", sum := "9aa80d41bd84f6b77e3503387b622878270fe05e4e7eb2816638bac9710f46e1", func := "farwriter/farkeep.PenJoins", spec := "penJoins", unfollowed := true, recurses := true, apart := false }
def PenJoinsSaid : Prop := penJoinsRow.holds Try.pinned (OpenSpec.ofChange penJoinsSpec)

/-- ITS FALSE NEIGHBOUR: 'it returns false'. Refute it at one input. -/
def penJoinsWrong : ChangeSpec := { name := "penJoins", fn := fun _ => fun
  | [d1, d2, d3] => { results := [.lit (.bool false)], args := [d1, d2, d3] }
  | _ => none }
def PenJoinsWrongFalsely : Prop := penJoinsRow.holds Try.pinned (OpenSpec.ofChange penJoinsWrong)

/- THE SECOND FORM. 'bulk': how many values and letters a reading holds, each counted each time it is reached (what is shared counts as often as it is met; a slice's spare places count too). A statement '..UptoSaid' is the law's where the arguments, and the package variables that the reading takes, are together of bulk at most 1048576: NARROWER than '..Said'. Prove '..Said' where nothing that the law and all that it calls make is longer than what came in: it says more and counts as full. Else prove '..UptoSaid'. A law counts once. -/
mutual
def uptoBulk {H : Type} : DataW H → Nat
  | .lit (.string bytes) => bytes.length + 1
  | .lit _ => 1
  | .nil => 1
  | .ptr d => uptoBulk d + 1
  | .slice elems spare => uptoBulkAll elems + uptoBulkAll spare + 1
  | .agg parts => uptoBulkAll parts + 1
  | .iface _ d => uptoBulk d + 1
  | .map entries => uptoBulkEntries entries + 1
  | .held _ => 1
def uptoBulkAll {H : Type} : List (DataW H) → Nat
  | [] => 0
  | d :: r => uptoBulk d + uptoBulkAll r
def uptoBulkEntries {H : Type} : List (Lit × DataW H) → Nat
  | [] => 0
  | x :: r => uptoBulkEntry x + uptoBulkEntries r
def uptoBulkEntry {H : Type} : Lit × DataW H → Nat
  | (.string bytes, d) => bytes.length + uptoBulk d + 1
  | (_, d) => uptoBulk d + 1
 end
def uptoSmall : (H : Type) → List (DataW H) → Bool := fun _ ds => decide (uptoBulkAll ds ≤ 1048576)
def OpenSpec.upto (s : _root_.Go.ChangeSpec) : _root_.Go.OpenSpec := { _root_.Go.OpenSpec.ofChange s with cond := some uptoSmall }

/-- 'farkeep.EnvironBack', WHERE WHAT IT READS IS OF BULK AT MOST 1048576: true; the input reads as it did. -/
def environBackUptoRow : OpenClaim := { program := "ytphbfciikjkkfaa", sum := "9aa80d41bd84f6b77e3503387b622878270fe05e4e7eb2816638bac9710f46e1", func := "farwriter/farkeep.EnvironBack", spec := "environBack", unfollowed := true, recurses := true, apart := false, narrowed := true }
def EnvironBackUptoSaid : Prop := environBackUptoRow.holds Try.pinned (OpenSpec.upto environBackSpec)

/-- 'farkeep.EnvironJoins', WHERE WHAT IT READS IS OF BULK AT MOST 1048576: true; the input reads as it did. -/
def environJoinsUptoRow : OpenClaim := { program := "ytphbfciikjkkfaa", sum := "9aa80d41bd84f6b77e3503387b622878270fe05e4e7eb2816638bac9710f46e1", func := "farwriter/farkeep.EnvironJoins", spec := "environJoins", unfollowed := true, recurses := true, apart := false, narrowed := true }
def EnvironJoinsUptoSaid : Prop := environJoinsUptoRow.holds Try.pinned (OpenSpec.upto environJoinsSpec)

/-- 'farkeep.EnvironOwn', WHERE WHAT IT READS IS OF BULK AT MOST 1048576: true; the input reads as it did. -/
def environOwnUptoRow : OpenClaim := { program := "ytphbfciikjkkfaa", sum := "9aa80d41bd84f6b77e3503387b622878270fe05e4e7eb2816638bac9710f46e1", func := "farwriter/farkeep.EnvironOwn", spec := "environOwn", unfollowed := true, recurses := true, apart := false, narrowed := true }
def EnvironOwnUptoSaid : Prop := environOwnUptoRow.holds Try.pinned (OpenSpec.upto environOwnSpec)

/-- 'farkeep.EnvironTold', WHERE WHAT IT READS IS OF BULK AT MOST 1048576: true; the input reads as it did. -/
def environToldUptoRow : OpenClaim := { program := "ytphbfciikjkkfaa", sum := "9aa80d41bd84f6b77e3503387b622878270fe05e4e7eb2816638bac9710f46e1", func := "farwriter/farkeep.EnvironTold", spec := "environTold", unfollowed := true, recurses := true, apart := false, narrowed := true }
def EnvironToldUptoSaid : Prop := environToldUptoRow.holds Try.pinned (OpenSpec.upto environToldSpec)

/-- 'farkeep.AboutEnd', WHERE WHAT IT READS IS OF BULK AT MOST 1048576: true; the input reads as it did. -/
def aboutEndUptoRow : OpenClaim := { program := "ytphbfciikjkkfaa", sum := "9aa80d41bd84f6b77e3503387b622878270fe05e4e7eb2816638bac9710f46e1", func := "farwriter/farkeep.AboutEnd", spec := "aboutEnd", apart := false, narrowed := true }
def AboutEndUptoSaid : Prop := aboutEndUptoRow.holds Try.pinned (OpenSpec.upto aboutEndSpec)

/-- 'farkeep.AboutOwn', WHERE WHAT IT READS IS OF BULK AT MOST 1048576: true; the input reads as it did. -/
def aboutOwnUptoRow : OpenClaim := { program := "ytphbfciikjkkfaa", sum := "9aa80d41bd84f6b77e3503387b622878270fe05e4e7eb2816638bac9710f46e1", func := "farwriter/farkeep.AboutOwn", spec := "aboutOwn", apart := false, narrowed := true }
def AboutOwnUptoSaid : Prop := aboutOwnUptoRow.holds Try.pinned (OpenSpec.upto aboutOwnSpec)

/-- 'farkeep.AboutBack', WHERE WHAT IT READS IS OF BULK AT MOST 1048576: true; the input reads as it did. -/
def aboutBackUptoRow : OpenClaim := { program := "ytphbfciikjkkfaa", sum := "9aa80d41bd84f6b77e3503387b622878270fe05e4e7eb2816638bac9710f46e1", func := "farwriter/farkeep.AboutBack", spec := "aboutBack", apart := false, narrowed := true }
def AboutBackUptoSaid : Prop := aboutBackUptoRow.holds Try.pinned (OpenSpec.upto aboutBackSpec)

/-- 'farkeep.PenMakes', WHERE WHAT IT READS IS OF BULK AT MOST 1048576: true; the input reads as it did. -/
def penMakesUptoRow : OpenClaim := { program := "ytphbfciikjkkfaa", sum := "9aa80d41bd84f6b77e3503387b622878270fe05e4e7eb2816638bac9710f46e1", func := "farwriter/farkeep.PenMakes", spec := "penMakes", unfollowed := true, recurses := true, apart := false, narrowed := true }
def PenMakesUptoSaid : Prop := penMakesUptoRow.holds Try.pinned (OpenSpec.upto penMakesSpec)

/-- 'farkeep.PenZero', WHERE WHAT IT READS IS OF BULK AT MOST 1048576: true; the input reads as it did. -/
def penZeroUptoRow : OpenClaim := { program := "ytphbfciikjkkfaa", sum := "9aa80d41bd84f6b77e3503387b622878270fe05e4e7eb2816638bac9710f46e1", func := "farwriter/farkeep.PenZero", spec := "penZero", unfollowed := true, recurses := true, apart := false, narrowed := true }
def PenZeroUptoSaid : Prop := penZeroUptoRow.holds Try.pinned (OpenSpec.upto penZeroSpec)

/-- 'farkeep.PenBack', WHERE WHAT IT READS IS OF BULK AT MOST 1048576: true; the input reads as it did. -/
def penBackUptoRow : OpenClaim := { program := "ytphbfciikjkkfaa", sum := "9aa80d41bd84f6b77e3503387b622878270fe05e4e7eb2816638bac9710f46e1", func := "farwriter/farkeep.PenBack", spec := "penBack", unfollowed := true, recurses := true, apart := false, narrowed := true }
def PenBackUptoSaid : Prop := penBackUptoRow.holds Try.pinned (OpenSpec.upto penBackSpec)

/-- 'farkeep.PenJoins', WHERE WHAT IT READS IS OF BULK AT MOST 1048576: true; the input reads as it did. -/
def penJoinsUptoRow : OpenClaim := { program := "ytphbfciikjkkfaa", sum := "9aa80d41bd84f6b77e3503387b622878270fe05e4e7eb2816638bac9710f46e1", func := "farwriter/farkeep.PenJoins", spec := "penJoins", unfollowed := true, recurses := true, apart := false, narrowed := true }
def PenJoinsUptoSaid : Prop := penJoinsUptoRow.holds Try.pinned (OpenSpec.upto penJoinsSpec)

end Rows
end Go.Proofs.Ytphbfciikjkkfaa
