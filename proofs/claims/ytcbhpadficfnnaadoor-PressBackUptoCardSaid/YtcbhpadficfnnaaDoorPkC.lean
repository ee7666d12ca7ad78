/- PressBack: the walk. -/
import Derived.Test.YtcbhpadficfnnaaDoorPkB
namespace Go.Proofs.YtcbhpadficfnnaaDoor.Pm
open Go.Proofs.YtcbhpadficfnnaaDoor.Args
open Go.ChangeShapes Go.WideShapes Go.ChangeAt Go.RowKit
set_option linter.unusedVariables false
set_option linter.unusedSimpArgs false
set_option maxRecDepth 100000
theorem maxcell {w : World} (hsh : w.ShapedOpen Go.Proofs.Tryd.prog) : ∃ m, w.cell? ⟨3, 0, none⟩ = some (.int .i64 m) :=
  cell_of_shapedOpen_int (t := 3) (zero := #[.int .i64 0]) hsh (of_decide_eq_true (by kernel_rfl)) (by kernel_rfl) rfl (by kernel_rfl) (by kernel_rfl) (by kernel_rfl)
theorem pow10 {w : World} (hL : laidMetH Go.Proofs.Tryd.prog Rows.pressBackUptoRow.laid w) : Lib.TabIs Go.Proofs.Tryd.prog w "internal/strconv.uint64pow10" .u64 Lib.pow10Tab := by
  have h := hL.filter (fun x => x.1 == "internal/strconv.uint64pow10")
  have e : (Rows.pressBackUptoRow.laid.filter fun x => x.1 == "internal/strconv.uint64pow10") = [("internal/strconv.uint64pow10", Lib.tabData .u64 Lib.pow10Tab)] := by kernel_rfl
  rw [e] at h
  have h2 := (laidMetH_iff.1 h).1
  have e2 : (([("internal/strconv.uint64pow10", Lib.tabData .u64 Lib.pow10Tab)] : List (String × DataW Unit)).filter fun x => x.2.handleName?.isNone) = [("internal/strconv.uint64pow10", Lib.tabData .u64 Lib.pow10Tab)] := by kernel_rfl
  rw [e2] at h2
  exact Lib.tabIs_of_head rfl rfl rfl rfl rfl rfl h2
theorem row_es (u : TypeId) (h : Go.Proofs.Tryd.prog.typeName? 3 u = some "*errors.errorString") : u = 101 :=
  typeName_ptr_named (nm := "errors.errorString") (by rw [show "*" ++ "errors.errorString" = "*errors.errorString" from by decide]; kernel_rfl) (by kernel_rfl) (by decide) u (by rw [show "*" ++ "errors.errorString" = "*errors.errorString" from by decide]; exact h)
theorem err_at {w : World} (hL : laidMetH Go.Proofs.Tryd.prog Rows.pressBackUptoRow.laid w) : ErrAt 0 w ∧ ErrAt 1 w := by
  constructor
  · have h := hL.filter (fun x => x.1 == "strconv.ErrSyntax")
    have e : (Rows.pressBackUptoRow.laid.filter fun x => x.1 == "strconv.ErrSyntax") = [("strconv.ErrSyntax", Rows.laid_strconv_ErrSyntax)] := by kernel_rfl
    rw [e] at h
    have h2 := (laidMetH_iff.1 h).1
    have e2 : (([("strconv.ErrSyntax", Rows.laid_strconv_ErrSyntax)] : List (String × DataW Unit)).filter fun x => x.2.handleName?.isNone) = [("strconv.ErrSyntax", Rows.laid_strconv_ErrSyntax)] := by kernel_rfl
    rw [e2] at h2
    have g : Go.Proofs.Tryd.prog.globalNamed "strconv.ErrSyntax" = some 0 := by kernel_rfl
    obtain ⟨a, s, hv, _⟩ := laid_sentinel (P := Go.Proofs.Tryd.prog) (n := "strconv.ErrSyntax") (ti := 38) (tp := 101) (te := 103) (ts := 9) (ms := #[("Error", 114)]) (f := Field.mk "s" 9 0 false "" "errors" 0) h2 g (by kernel_rfl) (by kernel_rfl) row_es (by kernel_rfl) (by kernel_rfl) rfl rfl (by kernel_rfl) (by kernel_rfl) (by kernel_rfl)
    exact ⟨_, by have h0 := World.var?_cell g hv 0; simpa using h0, .inr ⟨_, _, rfl⟩⟩
  · have h := hL.filter (fun x => x.1 == "strconv.ErrRange")
    have e : (Rows.pressBackUptoRow.laid.filter fun x => x.1 == "strconv.ErrRange") = [("strconv.ErrRange", Rows.laid_strconv_ErrRange)] := by kernel_rfl
    rw [e] at h
    have h2 := (laidMetH_iff.1 h).1
    have e2 : (([("strconv.ErrRange", Rows.laid_strconv_ErrRange)] : List (String × DataW Unit)).filter fun x => x.2.handleName?.isNone) = [("strconv.ErrRange", Rows.laid_strconv_ErrRange)] := by kernel_rfl
    rw [e2] at h2
    have g : Go.Proofs.Tryd.prog.globalNamed "strconv.ErrRange" = some 1 := by kernel_rfl
    obtain ⟨a, s, hv, _⟩ := laid_sentinel (P := Go.Proofs.Tryd.prog) (n := "strconv.ErrRange") (ti := 38) (tp := 101) (te := 103) (ts := 9) (ms := #[("Error", 114)]) (f := Field.mk "s" 9 0 false "" "errors" 0) h2 g (by kernel_rfl) (by kernel_rfl) row_es (by kernel_rfl) (by kernel_rfl) rfl rfl (by kernel_rfl) (by kernel_rfl) (by kernel_rfl)
    exact ⟨_, by have h0 := World.var?_cell g hv 0; simpa using h0, .inr ⟨_, _, rfl⟩⟩
theorem PressBack_walk (v0 v1 : Value) (w : World) (h0 : Arg (some 1048576) Go.Proofs.Tryd.prog w 23 v0) (h1 : Arg (some 1048576) Go.Proofs.Tryd.prog w 9 v1) (hsh : w.ShapedOpen Go.Proofs.Tryd.prog) (hL : laidMetH Go.Proofs.Tryd.prog Rows.pressBackUptoRow.laid w) : Calls Go.Proofs.Tryd.prog 3 #[v0, v1] w fun e w' => e = .returned (.bool true) ∧ Below w.heap.size w w' :=
  PressBack_calls (some 1048576) (fun m s _ hs => pressBack m s (by have := hs.2; unfold FitN at this; omega)) v0 v1 w h0 h1 (maxcell hsh) (pow10 hL) (err_at hL)
end Go.Proofs.YtcbhpadficfnnaaDoor.Pm
