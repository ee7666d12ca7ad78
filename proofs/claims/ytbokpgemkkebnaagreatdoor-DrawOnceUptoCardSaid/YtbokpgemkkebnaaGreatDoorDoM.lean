/- DrawOnce: the law. -/
import Derived.Test.YtbokpgemkkebnaaGreatDoorDoL
import Derived.Test.YtbokpgemkkebnaaGreatDoorRows
import Derived.Lib.LaidTab
import Derived.MakeChecks
import Derived.LaidSub
namespace Go.Proofs.YtbokpgemkkebnaaGreatDoor.Dr
open Go.Proofs.YtbokpgemkkebnaaGreatDoor.Pm
open Go.Proofs.YtbokpgemkkebnaaGreatDoor.Args
open Go.ChangeShapes Go.WideShapes Go.ChangeAt Go.RowKit
set_option linter.unusedVariables false
set_option linter.unusedSimpArgs false
set_option maxRecDepth 100000
theorem drawOnce (a b : GScreen) (pa : a.Past.length ≤ 1048576) (pb : b.Past.length ≤ 1048576) : f3 a b = some true := by
 have lv : libLives = some true := rfl
 obtain ⟨ka, kb, l, ca, cb, hd, h1, h2, h3⟩ := drawn a b pa pb
 unfold f3
 rw [hd, bs, lv, bs, bcf (by rfl)]
 try dsimp only []
 by_cases h0 : dE ka kb a b = 0
 case neg =>
  have := h1 h0
  subst this
  rw [df h0, Bool.not_false, ct]
  unfold f3_j1
  rw [lv, bs, bct (by rfl), bct (by rfl)]
 rw [dt h0, Bool.not_true, cf]
 obtain ⟨x, hs, hx, hlx, hpx, cx0, hdx⟩ := h3 h0
 obtain ⟨ka', kb', m, ca', cb', hd', g1, g2, _⟩ := drawn x b (by rw [hpx]; exact pa) pb
 have ek : ∀ {k k' : Bool}, (some (if k then (0 : Int) else 4)) = some (if k' then 0 else 4) → k = k' := fun {k k'} h => by
  cases k <;> cases k' <;> first | rfl | cases h
 obtain rfl : ka = ka' := ek (cx0.symm.trans ca')
 obtain rfl : kb = kb' := ek (cb.symm.trans cb')
 have hm := g2 hx
 subst hm
 rw [hdx kb b, h0] at hd'
 unfold f3_j0
 rw [hs, bs, hd', bs, bct (by rfl), bct (by rfl), bct (by rfl), sight_ok x b (by omega) hx, bs, bct (by rfl), bct (by rfl)]
theorem maxcell {w : World} (hsh : w.ShapedOpen Go.Proofs.Tryz.prog) : ∃ m, w.cell? ⟨2, 0, none⟩ = some (.int .i64 m) :=
 cell_of_shapedOpen_int (t := 3) (zero := #[.int .i64 0]) hsh (of_decide_eq_true (by kernel_rfl)) (by kernel_rfl) rfl (by kernel_rfl) (by kernel_rfl) (by kernel_rfl)
theorem pow10 {w : World} (hL : laidMetH Go.Proofs.Tryz.prog Rows.drawOnceUptoRow.laid w) : Lib.TabIs Go.Proofs.Tryz.prog w "internal/strconv.uint64pow10" .u64 Lib.pow10Tab := by
 have h := hL.filter (fun x => x.1 == "internal/strconv.uint64pow10")
 have e : (Rows.drawOnceUptoRow.laid.filter fun x => x.1 == "internal/strconv.uint64pow10") = [("internal/strconv.uint64pow10", Lib.tabData .u64 Lib.pow10Tab)] := by kernel_rfl
 rw [e] at h
 have h2 := (laidMetH_iff.1 h).1
 have e2 : (([("internal/strconv.uint64pow10", Lib.tabData .u64 Lib.pow10Tab)] : List (String × DataW Unit)).filter fun x => x.2.handleName?.isNone) = [("internal/strconv.uint64pow10", Lib.tabData .u64 Lib.pow10Tab)] := by kernel_rfl
 rw [e2] at h2
 exact Lib.tabIs_of_head rfl rfl rfl rfl rfl rfl h2
theorem past_le {s : GScreen} (hv : V36 (some 1048576) s) : s.Past.length ≤ 1048576 := by have := hv.2.2.2.2.2.2.2.2.2.2.2.2.2.2.1; unfold FitN at this; omega
end Go.Proofs.YtbokpgemkkebnaaGreatDoor.Dr
namespace Go.Proofs.YtbokpgemkkebnaaGreatDoor.Pm
open Go.Proofs.YtbokpgemkkebnaaGreatDoor.Dr
open Go.Proofs.YtbokpgemkkebnaaGreatDoor.Args
open Go.ChangeShapes Go.WideShapes Go.ChangeAt Go.RowKit
theorem DrawOnce_walk (v0 v1 : Value) (w : World) (h0 : Arg (some 1048576) Go.Proofs.Tryz.prog w 36 v0) (h1 : Arg (some 1048576) Go.Proofs.Tryz.prog w 36 v1) (hsh : w.ShapedOpen Go.Proofs.Tryz.prog) (hL : laidMetH Go.Proofs.Tryz.prog Rows.drawOnceUptoRow.laid w) : Calls Go.Proofs.Tryz.prog 3 #[v0, v1] w fun e w' => e = .returned (.bool true) ∧ Below w.heap.size w w' :=
 DrawOnce_calls (some 1048576) (fun a b ha hb => drawOnce a b (past_le ha) (past_le hb)) v0 v1 w h0 h1 (maxcell hsh) (pow10 hL)
end Go.Proofs.YtbokpgemkkebnaaGreatDoor.Pm
