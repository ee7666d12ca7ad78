/-
  No cell of these rows narrows 'for every input' (looked for: loops, veiled, ifaces, maps, wideKeys, modest, calm, conditions, laid).
  DERIVED. THE GIVEN ROWS OF THIS SEAT. 6 by the template 'for every input the law returns true; each argument reads behind the call as it read before'; 0 by the template 'total and deterministic' (their statements: YtipipahbfakcaaaTotals.lean).
  GIVEN WITH THE SEED: the statements are not yours to turn. If you find one false, say at which input.
  Laid BY PROGRAM, IN A SANDBOX (cutbox-rows.mjs): the forced cells as the released guide's own fill.sh prints them over the translation 5fea79c091fa3d80… (all of the seat's roots in one cut). By AI agents, Wed Nov 11 2026. No macro, syntax, notation, axiom, sorry.
-/
import Derived.Test.YtipipahbfakcaaaChecked
import GoSem.Claim
import GoSem.ClaimJoined
import GoSem.ClaimMapViews
import Derived.JoinedTies
import Derived.KernelRfl
namespace Go.Proofs.Ytipipahbfakcaaa
/- THE CELL 'sum', in the pinned program and in every row, IS THE sha256 OF THE DUMP (.gsa) THAT YtipipahbfakcaaaProg.lean LOADS. Nothing in Lean hashes anything: it is a label: what it is worth is what the hold of that sum in a sandbox is worth. -/
noncomputable def Try.pinned : Pinned := { name := "ytipipahbfakcaaa", sum := "5fea79c091fa3d8046902cac0d3f378057948c37e4284ffa755899e11400167d", checked := Try.checked }
namespace Rows
def none {H : Type} : Left H := { results := [], args := [] }

/-- 'farkeep.GridPut': WHATEVER THE INPUT: true; the input reads as it did. -/
def gridPutSpec : ChangeSpec := { name := "gridPut", fn := fun _ => fun
  | [d1, d2, d3, d4, d5] => { results := [.lit (.bool true)], args := [d1, d2, d3, d4, d5] }
  | _ => none }
def gridPutRow : OpenClaim := { program := "ytipipahbfakcaaa", sum := "5fea79c091fa3d8046902cac0d3f378057948c37e4284ffa755899e11400167d", func := "farwriter/farkeep.GridPut", spec := "gridPut", unfollowed := true, recurses := true, apart := false }
def GridPutSaid : Prop := gridPutRow.holds Try.pinned (OpenSpec.ofChange gridPutSpec)

/-- ITS FALSE NEIGHBOUR: 'it returns false'. Refute it at one input. -/
def gridPutWrong : ChangeSpec := { name := "gridPut", fn := fun _ => fun
  | [d1, d2, d3, d4, d5] => { results := [.lit (.bool false)], args := [d1, d2, d3, d4, d5] }
  | _ => none }
def GridPutWrongFalsely : Prop := gridPutRow.holds Try.pinned (OpenSpec.ofChange gridPutWrong)

/-- 'farkeep.GridTells': WHATEVER THE INPUT: true; the input reads as it did. -/
def gridTellsSpec : ChangeSpec := { name := "gridTells", fn := fun _ => fun
  | [d1, d2, d3] => { results := [.lit (.bool true)], args := [d1, d2, d3] }
  | _ => none }
def gridTellsRow : OpenClaim := { program := "ytipipahbfakcaaa", sum := "5fea79c091fa3d8046902cac0d3f378057948c37e4284ffa755899e11400167d", func := "farwriter/farkeep.GridTells", spec := "gridTells", unfollowed := true, recurses := true, apart := false }
def GridTellsSaid : Prop := gridTellsRow.holds Try.pinned (OpenSpec.ofChange gridTellsSpec)

/-- ITS FALSE NEIGHBOUR: 'it returns false'. Refute it at one input. -/
def gridTellsWrong : ChangeSpec := { name := "gridTells", fn := fun _ => fun
  | [d1, d2, d3] => { results := [.lit (.bool false)], args := [d1, d2, d3] }
  | _ => none }
def GridTellsWrongFalsely : Prop := gridTellsRow.holds Try.pinned (OpenSpec.ofChange gridTellsWrong)

/-- 'farkeep.GridAlone': WHATEVER THE INPUT: true; the input reads as it did. -/
def gridAloneSpec : ChangeSpec := { name := "gridAlone", fn := fun _ => fun
  | [d1, d2, d3, d4, d5, d6, d7] => { results := [.lit (.bool true)], args := [d1, d2, d3, d4, d5, d6, d7] }
  | _ => none }
def gridAloneRow : OpenClaim := { program := "ytipipahbfakcaaa", sum := "5fea79c091fa3d8046902cac0d3f378057948c37e4284ffa755899e11400167d", func := "farwriter/farkeep.GridAlone", spec := "gridAlone", unfollowed := true, recurses := true, apart := false }
def GridAloneSaid : Prop := gridAloneRow.holds Try.pinned (OpenSpec.ofChange gridAloneSpec)

/-- ITS FALSE NEIGHBOUR: 'it returns false'. Refute it at one input. -/
def gridAloneWrong : ChangeSpec := { name := "gridAlone", fn := fun _ => fun
  | [d1, d2, d3, d4, d5, d6, d7] => { results := [.lit (.bool false)], args := [d1, d2, d3, d4, d5, d6, d7] }
  | _ => none }
def GridAloneWrongFalsely : Prop := gridAloneRow.holds Try.pinned (OpenSpec.ofChange gridAloneWrong)

/-- 'farkeep.GridBack': WHATEVER THE INPUT: true; the input reads as it did. -/
def gridBackSpec : ChangeSpec := { name := "gridBack", fn := fun _ => fun
  | [d1, d2, d3, d4] => { results := [.lit (.bool true)], args := [d1, d2, d3, d4] }
  | _ => none }
def gridBackRow : OpenClaim := { program := "ytipipahbfakcaaa", sum := "5fea79c091fa3d8046902cac0d3f378057948c37e4284ffa755899e11400167d", func := "farwriter/farkeep.GridBack", spec := "gridBack", unfollowed := true, recurses := true, apart := false }
def GridBackSaid : Prop := gridBackRow.holds Try.pinned (OpenSpec.ofChange gridBackSpec)

/-- ITS FALSE NEIGHBOUR: 'it returns false'. Refute it at one input. -/
def gridBackWrong : ChangeSpec := { name := "gridBack", fn := fun _ => fun
  | [d1, d2, d3, d4] => { results := [.lit (.bool false)], args := [d1, d2, d3, d4] }
  | _ => none }
def GridBackWrongFalsely : Prop := gridBackRow.holds Try.pinned (OpenSpec.ofChange gridBackWrong)

/-- 'farkeep.GridRight': WHATEVER THE INPUT: true; the input reads as it did. -/
def gridRightSpec : ChangeSpec := { name := "gridRight", fn := fun _ => fun
  | [d1, d2, d3, d4, d5, d6, d7] => { results := [.lit (.bool true)], args := [d1, d2, d3, d4, d5, d6, d7] }
  | _ => none }
def gridRightRow : OpenClaim := { program := "ytipipahbfakcaaa", sum := "5fea79c091fa3d8046902cac0d3f378057948c37e4284ffa755899e11400167d", func := "farwriter/farkeep.GridRight", spec := "gridRight", unfollowed := true, recurses := true, apart := false }
def GridRightSaid : Prop := gridRightRow.holds Try.pinned (OpenSpec.ofChange gridRightSpec)

/-- ITS FALSE NEIGHBOUR: 'it returns false'. Refute it at one input. -/
def gridRightWrong : ChangeSpec := { name := "gridRight", fn := fun _ => fun
  | [d1, d2, d3, d4, d5, d6, d7] => { results := [.lit (.bool false)], args := [d1, d2, d3, d4, d5, d6, d7] }
  | _ => none }
def GridRightWrongFalsely : Prop := gridRightRow.holds Try.pinned (OpenSpec.ofChange gridRightWrong)

/-- 'farkeep.GridOwn': WHATEVER THE INPUT: true; the input reads as it did. -/
def gridOwnSpec : ChangeSpec := { name := "gridOwn", fn := fun _ => fun
  | [d1, d2, d3, d4, d5, d6] => { results := [.lit (.bool true)], args := [d1, d2, d3, d4, d5, d6] }
  | _ => none }
def gridOwnRow : OpenClaim := { program := "ytipipahbfakcaaa", sum := "5fea79c091fa3d8046902cac0d3f378057948c37e4284ffa755899e11400167d", func := "farwriter/farkeep.GridOwn", spec := "gridOwn", unfollowed := true, recurses := true, apart := false }
def GridOwnSaid : Prop := gridOwnRow.holds Try.pinned (OpenSpec.ofChange gridOwnSpec)

/-- ITS FALSE NEIGHBOUR: 'it returns false'. Refute it at one input. -/
def gridOwnWrong : ChangeSpec := { name := "gridOwn", fn := fun _ => fun
  | [d1, d2, d3, d4, d5, d6] => { results := [.lit (.bool false)], args := [d1, d2, d3, d4, d5, d6] }
  | _ => none }
def GridOwnWrongFalsely : Prop := gridOwnRow.holds Try.pinned (OpenSpec.ofChange gridOwnWrong)

/- THE SECOND FORM. 'bulk': how many values and letters a reading holds, each counted each time it is reached (what is shared counts as often as it is met; a slice's spare places count too). A statement '..UptoSaid' is the law's where the arguments, and the package variables that the reading takes, are together of bulk at most 1048576: NARROWER than '..Said'. Prove '..Said' where nothing that the law and all that it calls make is longer than what came in: it says more and counts as full. Else prove '..UptoSaid'. A law counts once. -/
mutual
def uptoBulk {H : Type} : DataW H → Nat
  | .lit (.string bytes) => bytes.length + 1
  | .lit _ => 1
  | .nil => 1
  | .ptr d => uptoBulk d + 1
  | .slice elems spare => uptoBulkAll elems + uptoBulkAll spare + 1
  | .agg parts => uptoBulkAll parts + 1
  | .iface _ d => uptoBulk d + 1
  | .map entries => uptoBulkEntries entries + 1
  | .held _ => 1
def uptoBulkAll {H : Type} : List (DataW H) → Nat
  | [] => 0
  | d :: r => uptoBulk d + uptoBulkAll r
def uptoBulkEntries {H : Type} : List (Lit × DataW H) → Nat
  | [] => 0
  | x :: r => uptoBulkEntry x + uptoBulkEntries r
def uptoBulkEntry {H : Type} : Lit × DataW H → Nat
  | (.string bytes, d) => bytes.length + uptoBulk d + 1
  | (_, d) => uptoBulk d + 1
 end
def uptoSmall : (H : Type) → List (DataW H) → Bool := fun _ ds => decide (uptoBulkAll ds ≤ 1048576)
def OpenSpec.upto (s : _root_.Go.ChangeSpec) : _root_.Go.OpenSpec := { _root_.Go.OpenSpec.ofChange s with cond := some uptoSmall }

/-- 'farkeep.GridPut', WHERE WHAT IT READS IS OF BULK AT MOST 1048576: true; the input reads as it did. -/
def gridPutUptoRow : OpenClaim := { program := "ytipipahbfakcaaa", sum := "5fea79c091fa3d8046902cac0d3f378057948c37e4284ffa755899e11400167d", func := "farwriter/farkeep.GridPut", spec := "gridPut", unfollowed := true, recurses := true, apart := false, narrowed := true }
def GridPutUptoSaid : Prop := gridPutUptoRow.holds Try.pinned (OpenSpec.upto gridPutSpec)

/-- 'farkeep.GridTells', WHERE WHAT IT READS IS OF BULK AT MOST 1048576: true; the input reads as it did. -/
def gridTellsUptoRow : OpenClaim := { program := "ytipipahbfakcaaa", sum := "5fea79c091fa3d8046902cac0d3f378057948c37e4284ffa755899e11400167d", func := "farwriter/farkeep.GridTells", spec := "gridTells", unfollowed := true, recurses := true, apart := false, narrowed := true }
def GridTellsUptoSaid : Prop := gridTellsUptoRow.holds Try.pinned (OpenSpec.upto gridTellsSpec)

/-- 'farkeep.GridAlone', WHERE WHAT IT READS IS OF BULK AT MOST 1048576: true; the input reads as it did. -/
def gridAloneUptoRow : OpenClaim := { program := "ytipipahbfakcaaa", sum := "5fea79c091fa3d8046902cac0d3f378057948c37e4284ffa755899e11400167d", func := "farwriter/farkeep.GridAlone", spec := "gridAlone", unfollowed := true, recurses := true, apart := false, narrowed := true }
def GridAloneUptoSaid : Prop := gridAloneUptoRow.holds Try.pinned (OpenSpec.upto gridAloneSpec)

/-- 'farkeep.GridBack', WHERE WHAT IT READS IS OF BULK AT MOST 1048576: true; the input reads as it did. -/
def gridBackUptoRow : OpenClaim := { program := "ytipipahbfakcaaa", sum := "5fea79c091fa3d8046902cac0d3f378057948c37e4284ffa755899e11400167d", func := "farwriter/farkeep.GridBack", spec := "gridBack", unfollowed := true, recurses := true, apart := false, narrowed := true }
def GridBackUptoSaid : Prop := gridBackUptoRow.holds Try.pinned (OpenSpec.upto gridBackSpec)

/-- 'farkeep.GridRight', WHERE WHAT IT READS IS OF BULK AT MOST 1048576: true; the input reads as it did. -/
def gridRightUptoRow : OpenClaim := { program := "ytipipahbfakcaaa", sum := "5fea79c091fa3d8046902cac0d3f378057948c37e4284ffa755899e11400167d", func := "farwriter/farkeep.GridRight", spec := "gridRight", unfollowed := true, recurses := true, apart := false, narrowed := true }
def GridRightUptoSaid : Prop := gridRightUptoRow.holds Try.pinned (OpenSpec.upto gridRightSpec)

/-- 'farkeep.GridOwn', WHERE WHAT IT READS IS OF BULK AT MOST 1048576: true; the input reads as it did. -/
def gridOwnUptoRow : OpenClaim := { program := "ytipipahbfakcaaa", sum := "5fea79c091fa3d8046902cac0d3f378057948c37e4284ffa755899e11400167d", func := "farwriter/farkeep.GridOwn", spec := "gridOwn", unfollowed := true, recurses := true, apart := false, narrowed := true }
def GridOwnUptoSaid : Prop := gridOwnUptoRow.holds Try.pinned (OpenSpec.upto gridOwnSpec)

end Rows
end Go.Proofs.Ytipipahbfakcaaa
