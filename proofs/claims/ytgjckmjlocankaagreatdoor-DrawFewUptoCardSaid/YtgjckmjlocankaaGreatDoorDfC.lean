/- DrawFew: the walk. -/
import Derived.Test.YtgjckmjlocankaaGreatDoorDfB
import Derived.Test.YtgjckmjlocankaaGreatDoorRows
import Derived.Lib.LaidTab
import Derived.MakeChecks
import Derived.LaidSub
namespace Go.Proofs.YtgjckmjlocankaaGreatDoor.Pm
open Go.Proofs.YtgjckmjlocankaaGreatDoor.Args
open Go.ChangeShapes Go.WideShapes Go.ChangeAt Go.RowKit
set_option linter.unusedVariables false
set_option linter.unusedSimpArgs false
set_option maxRecDepth 100000
theorem maxcell {w : World} (hsh : w.ShapedOpen Go.Proofs.Tryz.prog) : ∃ m, w.cell? ⟨2, 0, none⟩ = some (.int .i64 m) :=
  cell_of_shapedOpen_int (t := 3) (zero := #[.int .i64 0]) hsh (of_decide_eq_true (by kernel_rfl)) (by kernel_rfl) rfl (by kernel_rfl) (by kernel_rfl) (by kernel_rfl)
theorem pow10 {w : World} (hL : laidMetH Go.Proofs.Tryz.prog Rows.drawFewUptoRow.laid w) : Lib.TabIs Go.Proofs.Tryz.prog w "internal/strconv.uint64pow10" .u64 Lib.pow10Tab := by
  have h := hL.filter (fun x => x.1 == "internal/strconv.uint64pow10")
  have e : (Rows.drawFewUptoRow.laid.filter fun x => x.1 == "internal/strconv.uint64pow10") = [("internal/strconv.uint64pow10", Lib.tabData .u64 Lib.pow10Tab)] := by kernel_rfl
  rw [e] at h
  have h2 := (laidMetH_iff.1 h).1
  have e2 : (([("internal/strconv.uint64pow10", Lib.tabData .u64 Lib.pow10Tab)] : List (String × DataW Unit)).filter fun x => x.2.handleName?.isNone) = [("internal/strconv.uint64pow10", Lib.tabData .u64 Lib.pow10Tab)] := by kernel_rfl
  rw [e2] at h2
  exact Lib.tabIs_of_head rfl rfl rfl rfl rfl rfl h2
theorem past_le {s : GScreen} (hv : V36 (some 1048576) s) : s.Past.length ≤ 1048576 := by have := hv.2.2.2.2.2.2.2.2.2.2.2.2.2.2.1; unfold FitN at this; omega
theorem DrawFew_walk (v0 v1 : Value) (w : World) (h0 : Arg (some 1048576) Go.Proofs.Tryz.prog w 36 v0) (h1 : Arg (some 1048576) Go.Proofs.Tryz.prog w 36 v1) (hsh : w.ShapedOpen Go.Proofs.Tryz.prog) (hL : laidMetH Go.Proofs.Tryz.prog Rows.drawFewUptoRow.laid w) : Calls Go.Proofs.Tryz.prog 3 #[v0, v1] w fun e w' => e = .returned (.bool true) ∧ Below w.heap.size w w' :=
  DrawFew_calls (some 1048576) (fun a b ha hb => drawFew a b (past_le ha) (past_le hb)) v0 v1 w h0 h1 (maxcell hsh) (pow10 hL)
end Go.Proofs.YtgjckmjlocankaaGreatDoor.Pm
