/- Draw: what the acts that are drawn do to a screen. -/
import Derived.Test.YtbokpgemkkebnaaGreatDoorDoH
namespace Go.Proofs.YtbokpgemkkebnaaGreatDoor.Dr
open Go.Proofs.YtbokpgemkkebnaaGreatDoor.Pm
open Go.Proofs.YtbokpgemkkebnaaGreatDoor.Args
open Go.ChangeShapes Go.WideShapes Go.ChangeAt Go.RowKit
set_option linter.unusedVariables false
set_option linter.unusedSimpArgs false
set_option maxRecDepth 100000
def X (a : GScreen) (c : List GCell) (r k : Int) (lt : Bool) (p : GPen) : GScreen :=
 ⟨⟨a.Grid.Wide, a.Grid.High, c⟩, r, k, lt, a.Top, a.Bottom, p, a.Modes, a.Stops, a.Pages, a.Shift, a.Saved, a.Other, a.Title, a.Past⟩
def TT (a : GScreen) (c : List GCell) (r k : Int) (lt : Bool) (p : GPen) : Gterminal := ⟨X a c r k lt p, []⟩
structure Ok (a : GScreen) (W H : Nat) : Prop where
 w : 1 ≤ W ∧ W ≤ 160
 h : 1 ≤ H ∧ H ≤ 60
 gw : a.Grid.Wide = (W : Int)
 gh : a.Grid.High = (H : Int)
 m1 : bitI .and .i64 a.Modes 1 = 0
 m2 : bitI .and .i64 a.Modes 2 = 0
 sh : (a.Shift = 0 ∧ a.Pages.1 = 1) ∨ (a.Shift = 1 ∧ a.Pages.2 = 1)
theorem is_eq (t : Gterminal) (l : List PD) (m : Int) : f86 t l m = some (!decide (bitI .and .i64 t.Screen.Modes m = 0)) := by
 unfold f86
 cases decide (bitI .and .i64 t.Screen.Modes m = 0) <;> rfl
theorem chk_eq {a b : Nat} (h : a = b) : chk (decide (a = b)) = some () := chk_ok (dt h)
theorem limit_in (a b c : Int) (h : b ≤ a ∧ a ≤ c) : f121 a b c = some a := by
 unfold f121
 rw [if_neg (show ¬ c < a by omega)]
 by_cases h2 : a > b
 ·rw [if_pos h2]
 ·rw [if_neg h2, show b = a by omega]
theorem get0 (x : Int) (xs : List Int) (d : Int) (h : x ≠ -1) : f99 (x :: xs) 0 d = some x := by
 have e : idx (x :: xs) 0 = some x := rfl
 unfold f99
 rw [bcf (by rfl), bcf (df (by simp)), e, bs, bcf (df h), bs]
theorem get1 (x y : Int) (d : Int) (h : y ≠ -1) : f99 [x, y] 1 d = some y := by
 have e : idx [x, y] 1 = some y := rfl
 unfold f99
 rw [bcf (by rfl), bcf (df (by simp)), e, bs, bcf (df h), bs]
theorem pos0 (x : Int) (xs : List Int) (h : 1 ≤ x) : f98 (x :: xs) 0 = some x := by
 unfold f98
 rw [get0 x xs 1 (by omega), bs, if_neg (by omega)]
theorem pos1 (x y : Int) (h : 1 ≤ y) : f98 [x, y] 1 = some y := by
 unfold f98
 rw [get1 x y 1 (by omega), bs, if_neg (by omega)]
theorem act4 (a : GAct) (t : Gterminal) (h : a.Kind = 4) (hi : a.Inter = []) : f35 a t = (f66 a t).bind fun z => some z := by
 unfold f35
 rw [bcf (df (by omega)), bcf (df (by omega)), bcf (df (by omega))]
 unfold f35_j0
 rw [bcf (df (by omega)), bcf (df (by omega)), bct (dt h), bct (dt hi)]
theorem act_m (a : GScreen) (c : List GCell) (r k : Int) (lt : Bool) (p q : GPen) (l : List Int) (h0 : l ≠ []) (hl : Sm l) (hs : f132 p l = some (q, 0)) : f35 ⟨4, 109, 0, [], l, []⟩ (TT a c r k lt p) = some (TT a c r k lt q) := by
 obtain ⟨x, xs, rfl⟩ := List.exists_cons_of_ne_nil h0
 have hx := hl x (by simp)
 rw [act4 _ _ rfl rfl]
 have hp : ∃ v, f98 (x :: xs) 0 = some v := by
  unfold f98
  rw [get0 x xs 1 (by omega), bs]; exact ⟨_, rfl⟩
 obtain ⟨v, hv⟩ := hp
 unfold f66
 try dsimp only []
 rw [hv, bs, get0 _ _ 0 (by omega), bs, bct (by rfl)]
 have hcur : f100 ⟨4, 109, 0, [], x :: xs, []⟩ v (TT a c r k lt p) = some (TT a c r k lt p, false) := by
  unfold f100 f100_j0
  try dsimp only []
  rw [bcf (by rfl), bcf (by rfl), bcf (by rfl), bcf (by rfl), bcf (by rfl), bcf (by rfl), bcf (by rfl), bcf (by rfl), cf, bcf (by rfl), bcf (by rfl), bcf (by rfl)]
  unfold f100_j1
  try dsimp only []
  rw [cf, bcf (by rfl), bcf (by rfl), bcf (by rfl), bcf (by rfl)]
 have her : f101 109 v x (TT a c r k lt p) = some (TT a c r k lt p) := by
  unfold f101 f101_j0
  rw [bcf (by rfl), bcf (by rfl), cf, bcf (by rfl), bcf (by rfl), bcf (by rfl), bcf (by rfl), bcf (by rfl)]
  unfold f101_j1
  rw [cf, bcf (by rfl), bcf (by rfl)]
  rfl
 have hs' : f132 (TT a c r k lt p).Screen.Pen (x :: xs) = some (q, 0) := hs
 rw [hcur, bs, chk_eq (by rfl), bs, chk_eq (by rfl), bs, chk_eq (by rfl), bs, bct (by rfl), her, bs]
 unfold f102
 try dsimp only []
 rw [bcf (by rfl), bcf (by rfl), bcf (by rfl)]
 unfold f102_j0
 try dsimp only []
 rw [cf, bct (by rfl), hs', bs, bct (by rfl), bs, bs]; rfl
variable {a : GScreen} {W H : Nat} (ok : Ok a W H)
include ok
theorem column_ok (c : List GCell) (r k0 : Int) (lt : Bool) (p : GPen) (k : Int) (hk : 0 ≤ k ∧ k < W) : f84 k (TT a c r k0 lt p) = some (TT a c r k false p) := by
 have hw := ok.w
 have gw := ok.gw
 have e : IntKind.i64.wrap ((TT a c r k0 lt p).Screen.Grid.Wide - 1) = (W : Int) - 1 := by
  show IntKind.i64.wrap (a.Grid.Wide - 1) = _
  rw [gw, i64w _ (by omega)]
 unfold f84
 rw [e, limit_in k 0 _ (by omega), bs]; rfl
theorem move_ok (c : List GCell) (r0 k0 : Int) (lt : Bool) (p : GPen) (r k : Int) (hr : 0 ≤ r ∧ r < H) (hk : 0 ≤ k ∧ k < W) : f128 r k (TT a c r0 k0 lt p) = some (TT a c r k false p) := by
 have hh := ok.h
 have gh := ok.gh
 have e : IntKind.i64.wrap ((TT a c r0 k0 lt p).Screen.Grid.High - 1) = (H : Int) - 1 := by
  show IntKind.i64.wrap (a.Grid.High - 1) = _
  rw [gh, i64w _ (by omega)]
 have hm : (!decide (bitI .and .i64 (TT a c r0 k0 lt p).Screen.Modes 2 = 0)) = false := by
  rw [dt (show bitI .and .i64 (TT a c r0 k0 lt p).Screen.Modes 2 = 0 from ok.m2)]; rfl
 have hc : f84 k (Gterminal.mk ({ (TT a c r0 k0 lt p).Screen with Row := r }) (TT a c r0 k0 lt p).sent) = some (TT a c r k false p) := column_ok ok c r k0 lt p k hk
 unfold f128
 rw [is_eq, bs, hm, cf, e, limit_in r 0 _ (by omega), bs, hc, bs, chk_eq (by rfl), bs, chk_eq (by rfl), bs, chk_eq (by rfl), bs]
theorem act_H (c : List GCell) (r0 k0 : Int) (lt : Bool) (p : GPen) (r k : Int) (hr : 0 ≤ r ∧ r < H) (hk : 0 ≤ k ∧ k < W) : f35 ⟨4, 72, 0, [], [r + 1, k + 1], []⟩ (TT a c r0 k0 lt p) = some (TT a c r k false p) := by
 have hw := ok.w
 have hh := ok.h
 rw [act4 _ _ rfl rfl]
 unfold f66
 try dsimp only []
 rw [pos0 _ _ (by omega), bs, get0 _ _ 0 (by omega), bs, bct (by rfl)]
 have hcur : f100 ⟨4, 72, 0, [], [r + 1, k + 1], []⟩ (r + 1) (TT a c r0 k0 lt p) = some (TT a c r k false p, true) := by
  unfold f100 f100_j0
  try dsimp only []
  rw [bcf (by rfl), bcf (by rfl), bcf (by rfl), bcf (by rfl), bcf (by rfl), bcf (by rfl), bcf (by rfl), bcf (by rfl), cf, bcf (by rfl), bct (by rfl)]
  unfold f100_j1
  try dsimp only []
  rw [ct, pos1 _ _ (by omega), bs, i64w (r + 1 - 1) (by omega), i64w (k + 1 - 1) (by omega), show r + 1 - 1 = r by omega, show k + 1 - 1 = k by omega, move_ok ok c r0 k0 lt p r k hr hk, bs, chk_eq (by rfl), bs, chk_eq (by rfl), bs, chk_eq (by rfl), bs]
 rw [hcur, bs, chk_eq (by rfl), bs, chk_eq (by rfl), bs, chk_eq (by rfl), bs, bcf (by rfl), bs]
theorem act_p (c : List GCell) (n k : Nat) (p : GPen) (r : Int) (hc : c.length = W * H) (hn : n < H) (hr : 0 < wd r) (hk : (k : Int) + wd r ≤ W) :
  ∃ (k' : Int) (lt' : Bool), f35 ⟨1, r, 0, [], [], []⟩ (TT a c n k false p) = some (TT a (repL (putC c (n * W) k r p) (n * W) W) n k' lt' p) ∧ ((k : Int) + wd r < W → k' = (k : Int) + wd r ∧ lt' = false) := by
 have hw := ok.w
 have hh := ok.h
 have gw := ok.gw
 have gh := ok.gh
 have w2 := wd_cases r
 have hput := putin_ok W H n k r p c hc hn hw.2 hh.2 hr hk
 have hlen : (repL (putC c (n * W) k r p) (n * W) W).length = (TT a c n k false p).Screen.Grid.Cells.length := by rw [repL_len]; unfold putC; rw [mkL_len]; rfl
 have eW : IntKind.i64.wrap (a.Grid.Wide - 1) = (W : Int) - 1 := by rw [gw, i64w _ (by omega)]
 -- behind the page
 have j0 : ∃ (k' : Int) (lt' : Bool), f61_j0 r (TT a c n k false p) r = some (TT a (repL (putC c (n * W) k r p) (n * W) W) n k' lt' p) ∧ ((k : Int) + wd r < W → k' = (k : Int) + wd r ∧ lt' = false) := by
  have hm : (!decide (bitI .and .i64 (TT a c n k false p).Screen.Modes 1 = 0)) = false := by
   rw [dt (show bitI .and .i64 (TT a c n k false p).Screen.Modes 1 = 0 from ok.m1)]; rfl
  have j4 : ∃ (k' : Int) (lt' : Bool), f61_j4 r (TT a c n k false p) r (wd r) = some (TT a (repL (putC c (n * W) k r p) (n * W) W) n k' lt' p) ∧ ((k : Int) + wd r < W → k' = (k : Int) + wd r ∧ lt' = false) := by
   unfold f61_j4
   have hput' : f89 (TT a c n k false p).Screen.Grid.Wide (TT a c n k false p).Screen.Grid.High (TT a c n k false p).Screen.Row (TT a c n k false p).Screen.Col r (TT a c n k false p).Screen.Pen (TT a c n k false p).Screen.Grid.Cells = some (repL (putC c (n * W) k r p) (n * W) W) := by
    show f89 a.Grid.Wide a.Grid.High (n : Int) (k : Int) r p c = _
    rw [gw, gh]; exact hput
   have e1 : IntKind.i64.wrap ((TT a c n k false p).Screen.Grid.Wide - 1) = (W : Int) - 1 := eW
   have e2 : IntKind.i64.wrap ((TT a c n k false p).Screen.Col + wd r) = (k : Int) + wd r := i64w ((k : Int) + wd r) (by omega)
   rw [hput', bs, chk_eq hlen, bs, e1, e2]
   by_cases h : (W : Int) - 1 < (k : Int) + wd r
   ·rw [bct (dt h), is_eq, bs]
    exact ⟨_, _, rfl, fun q => by omega⟩
   ·rw [bcf (df h)]
    exact ⟨_, _, rfl, fun _ => ⟨rfl, rfl⟩⟩
  unfold f61_j0
  have hgw : ¬ (TT a c n k false p).Screen.Grid.Wide < wd r := by show ¬ a.Grid.Wide < wd r; rw [gw]; omega
  rw [width_ok, bs, bcf (df (by omega)), bcf (df hgw)]
  unfold f61_j1
  rw [bcf (by rfl)]
  unfold f61_j2 f61_j5 f61_j3
  rw [is_eq, bs, hm, cf]
  have e1 : IntKind.i64.wrap ((TT a c n k false p).Screen.Grid.Wide - 1) = (W : Int) - 1 := eW
  by_cases h2 : wd r = 2
  ·have hne : ¬ (TT a c n k false p).Screen.Col = IntKind.i64.wrap ((TT a c n k false p).Screen.Grid.Wide - 1) := by
    rw [e1]; show ¬ (k : Int) = (W : Int) - 1; omega
   rw [bct (dt h2), bcf (df hne)]; exact j4
  ·rw [bcf (df h2)]; exact j4
 unfold f35
 try dsimp only []
 rw [bct (by rfl)]
 obtain ⟨k', lt', e, h⟩ := j0
 refine ⟨k', lt', ?_, h⟩
 have pr : f61 r (TT a c n k false p) = f61_j0 r (TT a c n k false p) r := by
  have r0 : 0 ≤ r := by
   apply Int.not_lt.1; intro q
   unfold wd at hr; rw [if_pos (.inl q)] at hr; omega
  unfold f61
  rw [bct (dt r0)]
  by_cases h7 : r ≤ 127
  ·have h6 : r ≤ 126 := by
    apply Int.not_lt.1; intro q
    have : r = 127 := by omega
    subst this
    revert hr; decide
   obtain ⟨m, rfl⟩ := Int.eq_ofNat_of_zero_le r0
   have hb : (UInt8.ofNat m).toNat = m := by simp; omega
   have hpg : f83 1 (u8 (m : Int)) = some ((m : Int), 0) := by
    have := rune_ok1 (UInt8.ofNat m) (by omega)
    rw [hb] at this; exact this
   rw [bct (dt h7)]
   rcases ok.sh with ⟨s1, s2⟩ | ⟨s1, s2⟩
   ·have e0 : inR (TT a c n k false p).Screen.Shift 2 = some 0 := by show inR a.Shift 2 = _; rw [s1]; rfl
    have e1 : (TT a c n k false p).Screen.Pages.1 = 1 := s2
    rw [e0, bs, bct (by rfl), e1, hpg, bs]
   ·have e0 : inR (TT a c n k false p).Screen.Shift 2 = some 1 := by show inR a.Shift 2 = _; rw [s1]; rfl
    have e1 : (TT a c n k false p).Screen.Pages.2 = 1 := s2
    rw [e0, bs, bcf (by rfl), e1, hpg, bs]
  ·rw [bcf (df h7)]
   unfold f61_j6
   rfl
 rw [pr, e, bs]
end Go.Proofs.YtbokpgemkkebnaaGreatDoor.Dr
