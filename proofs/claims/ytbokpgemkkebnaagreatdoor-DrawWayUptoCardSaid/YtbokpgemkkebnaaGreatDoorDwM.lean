/- DrawWay: the law. -/
import Derived.Test.YtbokpgemkkebnaaGreatDoorDoL
import Derived.Test.YtbokpgemkkebnaaGreatDoorRows
import Derived.Lib.LaidTab
import Derived.MakeChecks
import Derived.LaidSub
namespace Go.Proofs.YtbokpgemkkebnaaGreatDoor.Dr
open Go.Proofs.YtbokpgemkkebnaaGreatDoor.Pm
open Go.Proofs.YtbokpgemkkebnaaGreatDoor.Args
open Go.ChangeShapes Go.WideShapes Go.ChangeAt Go.RowKit
set_option linter.unusedVariables false
set_option linter.unusedSimpArgs false
set_option maxRecDepth 100000
theorem show_nil (s : GScreen) (hp : s.Past.length ≤ 1048576) (h : f9 s = some 0) : f7 s [] = some (s, [], 0) := by
 rcases scr_check s hp with q | ⟨_, f⟩
 ·rw [h] at q; cases q
 ·exact show_ok s [] ⟨s, []⟩ h f (by simp) (Sim.nil s)
theorem drawWay (a b c : GScreen) (pa : a.Past.length ≤ 1048576) (pb : b.Past.length ≤ 1048576) (pc : c.Past.length ≤ 1048576) : f4 a b c = some true := by
 have lv : libLives = some true := rfl
 obtain ⟨ka, kb, l, ca, cb, hd, h1, h2, h3⟩ := drawn a b pa pb
 unfold f4
 rw [hd, bs, lv, bs, bcf (by rfl)]
 try dsimp only []
 by_cases h0 : dE ka kb a b = 0
 case neg => rw [df h0, Bool.not_false, ct, bs]
 rw [dt h0, Bool.not_true, cf]
 obtain ⟨x, hs, hx, hlx, hpx, cx0, hdx⟩ := h3 h0
 have hka : ka = true := by
  unfold dE at h0
  cases ka with
  | true => rfl
  | false => cases h0
 subst hka
 have px : x.Past.length ≤ 1048576 := by rw [hpx]; exact pa
 obtain ⟨kx, kc, m, cx1, cc, hd1, i1, _, i3⟩ := drawn x c px pc
 obtain ⟨ka2, kc2, n, ca2, cc2, hd2, j1, _, j3⟩ := drawn a c pa pc
 have ek : ∀ {k k' : Bool}, (some (if k then (0 : Int) else 4)) = some (if k' then 0 else 4) → k = k' := fun {k k'} h => by
  cases k <;> cases k' <;> first | rfl | cases h
 obtain rfl : true = kx := ek (cx0.symm.trans cx1)
 obtain rfl : true = ka2 := ek (ca.symm.trans ca2)
 obtain rfl : kc = kc2 := ek (cc.symm.trans cc2)
 have hde := hdx kc c
 unfold f4_j0
 rw [hs, bs, hd1, bs, hd2, bs]
 unfold f4_j1 f4_j2
 try dsimp only []
 rw [hde] at i1 i3 ⊢
 by_cases e : dE true kc a c = 0
 ·obtain ⟨y, ys, yx, ylx, _⟩ := i3 e
  obtain ⟨z, zs, zx, zlx, _⟩ := j3 e
  rw [ys, bs, zs, bs, bct (dt rfl), e, bcf (by rfl), sight_ok y z (by omega) ⟨yx.g.trans zx.g.symm, yx.r.trans zx.r.symm, yx.k.trans zx.k.symm, yx.p.trans zx.p.symm⟩, bs, bct (by rfl), sight_ok z c (by omega) zx, bs]
 ·have em := i1 e
  have en := j1 e
  subst em; subst en
  rw [show_nil x px cx0, bs, show_nil a pa ca, bs, bct (dt rfl), bct (by rw [df e]; rfl)]
theorem maxcell {w : World} (hsh : w.ShapedOpen Go.Proofs.Tryz.prog) : ∃ m, w.cell? ⟨2, 0, none⟩ = some (.int .i64 m) :=
 cell_of_shapedOpen_int (t := 3) (zero := #[.int .i64 0]) hsh (of_decide_eq_true (by kernel_rfl)) (by kernel_rfl) rfl (by kernel_rfl) (by kernel_rfl) (by kernel_rfl)
theorem pow10 {w : World} (hL : laidMetH Go.Proofs.Tryz.prog Rows.drawWayUptoRow.laid w) : Lib.TabIs Go.Proofs.Tryz.prog w "internal/strconv.uint64pow10" .u64 Lib.pow10Tab := by
 have h := hL.filter (fun x => x.1 == "internal/strconv.uint64pow10")
 have e : (Rows.drawWayUptoRow.laid.filter fun x => x.1 == "internal/strconv.uint64pow10") = [("internal/strconv.uint64pow10", Lib.tabData .u64 Lib.pow10Tab)] := by kernel_rfl
 rw [e] at h
 have h2 := (laidMetH_iff.1 h).1
 have e2 : (([("internal/strconv.uint64pow10", Lib.tabData .u64 Lib.pow10Tab)] : List (String × DataW Unit)).filter fun x => x.2.handleName?.isNone) = [("internal/strconv.uint64pow10", Lib.tabData .u64 Lib.pow10Tab)] := by kernel_rfl
 rw [e2] at h2
 exact Lib.tabIs_of_head rfl rfl rfl rfl rfl rfl h2
theorem past_le {s : GScreen} (hv : V36 (some 1048576) s) : s.Past.length ≤ 1048576 := by have := hv.2.2.2.2.2.2.2.2.2.2.2.2.2.2.1; unfold FitN at this; omega
end Go.Proofs.YtbokpgemkkebnaaGreatDoor.Dr
namespace Go.Proofs.YtbokpgemkkebnaaGreatDoor.Pm
open Go.Proofs.YtbokpgemkkebnaaGreatDoor.Dr
open Go.Proofs.YtbokpgemkkebnaaGreatDoor.Args
open Go.ChangeShapes Go.WideShapes Go.ChangeAt Go.RowKit
theorem DrawWay_walk (v0 v1 v2 : Value) (w : World) (h0 : Arg (some 1048576) Go.Proofs.Tryz.prog w 36 v0) (h1 : Arg (some 1048576) Go.Proofs.Tryz.prog w 36 v1) (h2 : Arg (some 1048576) Go.Proofs.Tryz.prog w 36 v2) (hsh : w.ShapedOpen Go.Proofs.Tryz.prog) (hL : laidMetH Go.Proofs.Tryz.prog Rows.drawWayUptoRow.laid w) : Calls Go.Proofs.Tryz.prog 4 #[v0, v1, v2] w fun e w' => e = .returned (.bool true) ∧ Below w.heap.size w w' :=
 DrawWay_calls (some 1048576) (fun a b c ha hb hc => drawWay a b c (past_le ha) (past_le hb) (past_le hc)) v0 v1 v2 w h0 h1 h2 (maxcell hsh) (pow10 hL)
end Go.Proofs.YtbokpgemkkebnaaGreatDoor.Pm
