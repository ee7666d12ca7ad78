/- ScreenPlain: the printing of a sign. -/
import Derived.Test.YtjoccdgmcdkbkaaDoorSpA
namespace Go.Proofs.YtjoccdgmcdkbkaaDoor.Pm
open Go.Proofs.YtjoccdgmcdkbkaaDoor.Args
open Go.ChangeShapes Go.WideShapes Go.ChangeAt Go.RowKit
set_option linter.unusedVariables false
set_option linter.unusedSimpArgs false
set_option maxRecDepth 100000
def tOf (W H : Nat) (st : GStops) (g : List GCell) (r c : Int) (late : Bool) : Gterminal := ⟨sOf W H st g r c late, []⟩
theorem celL_len (W H : Nat) (l : List UInt8) (k : Nat) : (celL W H l k).length = W * H := mkL_len _ _
theorem celL_cx (W H : Nat) (l : List UInt8) (k j : Nat) (h : j < W * H) : cx (celL W H l k) j = cel l k j := mkL_cx _ _ _ h
theorem cel_next (l : List UInt8) (k j : Nat) (h : j ≠ k) : cel l k j = cel l (k + 1) j := by
  unfold cel
  by_cases q : j < k
  · rw [if_pos q, if_pos (by omega)]
  · rw [if_neg q, if_neg (by omega)]
/-- The cells with one more sign. -/
theorem put_cel (W H n col : Nat) (l : List UInt8) (hl : Okl l) (hW : W ≤ 160) (hH : H ≤ 60) (hn : n < H) (hc : col < W) (hk : n * W + col < l.length) :
    f46 (W : Int) (H : Int) (n : Int) (col : Int) ((sg l (n * W + col)).toNat : Int) P0 (celL W H l (n * W + col)) = some (celL W H l (n * W + col + 1)) := by
  have hs := hl (n * W + col) hk
  have hw : wd ((sg l (n * W + col)).toNat : Int) = 1 := wd_sg (by omega) (by omega)
  have hlt := mul_lt n H W col hn hc
  have hm := mul_le n H W hn
  rw [Nat.succ_mul] at hm
  rw [putin_ok W H n col _ P0 _ (celL_len _ _ _ _) hn hW hH (by omega) (by omega)]
  have hput : ∀ j, j < W * H → cx (putC (celL W H l (n * W + col)) (n * W) col ((sg l (n * W + col)).toNat : Int) P0) j = cel l (n * W + col + 1) j := fun j hj => by
    unfold putC
    rw [mkL_cx _ _ _ (by rw [celL_len]; exact hj), if_neg (by rw [hw]; omega)]
    by_cases e : j = n * W + col
    · rw [if_pos e, e]
      unfold cel
      rw [if_pos (by omega)]
    · rw [if_neg e, celL_cx _ _ _ _ _ hj, cel_next l _ j e]
  have hlen : (putC (celL W H l (n * W + col)) (n * W) col ((sg l (n * W + col)).toNat : Int) P0).length = W * H := by
    unfold putC; rw [mkL_len, celL_len]
  refine congrArg some (cx_ext _ _ (by rw [repL_len, hlen, celL_len]) fun j hj => ?_)
  rw [repL_len, hlen] at hj
  rw [repL_cx _ _ _ _ (by omega), celL_cx _ _ _ _ _ hj]
  split
  · rename_i hr
    unfold repF
    have e : n * W + (j - n * W) = j := by omega
    have hcel := cel_ok l hl (n * W + col + 1) j (by omega)
    have hf : loneF (fun i => cx (putC (celL W H l (n * W + col)) (n * W) col ((sg l (n * W + col)).toNat : Int) P0) (n * W + i)) W (j - n * W) = false := by
      rw [notlone]
      try dsimp only []
      rw [e, hput j hj]
      exact ⟨fun q => absurd q hcel.1, fun q => by rw [hcel.2] at q; exact absurd q (by decide)⟩
    rw [if_neg (by rw [hf]; decide)]
    try dsimp only []
    rw [e, hput j hj]
  · exact hput j hj
/-- Where the cursor is behind k signs. -/
structure Pos (W H k n col : Nat) (late : Bool) : Prop where
  h : n < H
  f : late = false → col < W ∧ k = n * W + col
  t : late = true → col + 1 = W ∧ k = n * W + W
theorem is_ok (W H : Nat) (st : GStops) (g : List GCell) (r c : Int) (late : Bool) : f43 (tOf W H st g r c late) [] 1 = some false ∧ f43 (tOf W H st g r c late) [] 4 = some true := by
  unfold f43 tOf sOf
  exact ⟨bcf (by show (!decide (bitI .and .i64 12 1 = 0)) = false; decide), bct (by show (!decide (bitI .and .i64 12 4 = 0)) = true; decide)⟩
theorem put1 (W H n col : Nat) (st : GStops) (l : List UInt8) (a : Int) (t0 : Gterminal) (h0 : t0.Screen.Grid.Wide = W) (hl : Okl l) (hW : W ≤ 160) (hH : H ≤ 60) (hn : n < H) (hc : col < W) (hk : n * W + col < l.length) :
    ∃ (m c : Nat) (b : Bool), f27_j2 a t0 (tOf W H st (celL W H l (n * W + col)) (n : Int) (col : Int) false) ((sg l (n * W + col)).toNat : Int) 1 = some (tOf W H st (celL W H l (n * W + col + 1)) (m : Int) (c : Int) b) ∧ Pos W H (n * W + col + 1) m c b := by
  unfold f27_j2 f27_j5 f27_j3 f27_j4
  rw [bcf (df (by omega)), (is_ok W H st _ _ _ _).1, bs, cf]
  have hp := put_cel W H n col l hl hW hH hn hc hk
  have hp' : f46 (tOf W H st (celL W H l (n * W + col)) (n : Int) (col : Int) false).Screen.Grid.Wide (tOf W H st (celL W H l (n * W + col)) (n : Int) (col : Int) false).Screen.Grid.High (tOf W H st (celL W H l (n * W + col)) (n : Int) (col : Int) false).Screen.Row (tOf W H st (celL W H l (n * W + col)) (n : Int) (col : Int) false).Screen.Col ((sg l (n * W + col)).toNat : Int) (tOf W H st (celL W H l (n * W + col)) (n : Int) (col : Int) false).Screen.Pen (tOf W H st (celL W H l (n * W + col)) (n : Int) (col : Int) false).Screen.Grid.Cells = _ := hp
  rw [hp', bs, chk_ok (dt (by show (celL W H l (n * W + col + 1)).length = (celL W H l (n * W + col)).length; rw [celL_len, celL_len])), bs, h0, i64w ((W : Int) - 1) (by omega)]
  have ec : IntKind.i64.wrap ((tOf W H st (celL W H l (n * W + col)) (n : Int) (col : Int) false).Screen.Col + 1) = ((col + 1 : Nat) : Int) := wr1 col (by omega)
  rw [ec]
  by_cases h : col + 1 < W
  · rw [bcf (df (by omega))]
    exact ⟨n, col + 1, false, rfl, hn, fun _ => ⟨h, rfl⟩, fun q => (by cases q)⟩
  · rw [bct (dt (by omega))]
    have hi := (is_ok W H st (celL W H l (n * W + col + 1)) (n : Int) ((col + 1 : Nat) : Int) false).2
    have hi' : f43 (Gterminal.mk ({ (tOf W H st (celL W H l (n * W + col)) (n : Int) (col : Int) false).Screen with Grid := (GGrid.mk (tOf W H st (celL W H l (n * W + col)) (n : Int) (col : Int) false).Screen.Grid.Wide (tOf W H st (celL W H l (n * W + col)) (n : Int) (col : Int) false).Screen.Grid.High (celL W H l (n * W + col + 1))), Col := ((col + 1 : Nat) : Int) }) (tOf W H st (celL W H l (n * W + col)) (n : Int) (col : Int) false).sent) [] 4 = some true := hi
    rw [hi', bs]
    refine ⟨n, col, true, ?_, hn, fun q => (by cases q), fun _ => ⟨by omega, by omega⟩⟩
    have e : (W : Int) - 1 = (col : Int) := by omega
    rw [e]; rfl
theorem rune_ok1 (b : UInt8) (h : b.toNat ≤ 126) : f40 1 (u8 (b.toNat : Int)) = some ((b.toNat : Int), 0) := by
  have e : u8 (b.toNat : Int) = b := by
    unfold u8
    apply UInt8.toNat.inj
    simp
    omega
  unfold f40 f64 f64_j0
  rw [known_ok, bs, e, bcf (by rfl), bcf (by decide), bcf (df (by omega)), bcf (by decide), bcf (by decide), bs]
theorem chk_eq {a b : Nat} (h : a = b) : chk (decide (a = b)) = some () := chk_ok (dt h)
theorem print_ok (W H k n col : Nat) (late : Bool) (st : GStops) (l : List UInt8) (hl : Okl l) (h1 : 1 ≤ W ∧ W ≤ 160) (h2 : 1 ≤ H ∧ H ≤ 60) (hp : Pos W H k n col late) (hk : k < l.length) (hlen : l.length < W * H) :
    ∃ (m c : Nat) (b : Bool), f27 ((sg l k).toNat : Int) (tOf W H st (celL W H l k) (n : Int) (col : Int) late) = some (tOf W H st (celL W H l (k + 1)) (m : Int) (c : Int) b) ∧ Pos W H (k + 1) m c b := by
  have hs := hl k hk
  have hw : wd ((sg l k).toNat : Int) = 1 := wd_sg (by omega) (by omega)
  unfold f27
  rw [bct (dt (by omega)), bct (dt (by omega))]
  have e0 : inR (tOf W H st (celL W H l k) (n : Int) (col : Int) late).Screen.Shift 2 = some 0 := rfl
  have e1 : f40 (tOf W H st (celL W H l k) (n : Int) (col : Int) late).Screen.Pages.1 (u8 ((sg l k).toNat : Int)) = _ := rune_ok1 (sg l k) hs.2
  rw [e0, bs, bct (by rfl), e1, bs]
  unfold f27_j0
  try dsimp only []
  rw [width_ok, bs, hw, bcf (by decide), bcf (df (by show ¬ (W : Int) < 1; omega))]
  unfold f27_j1
  cases late with
  | false =>
    obtain ⟨hc, rfl⟩ := hp.f rfl
    rw [bcf (by rfl)]
    exact put1 W H n col st l _ _ rfl hl h1.2 h2.2 hp.h hc hk
  | true =>
    obtain ⟨hc, rfl⟩ := hp.t rfl
    have hn1 : n + 1 < H := by
      rcases Nat.lt_or_ge (n + 1) H with h | h
      · exact h
      · have := Nat.mul_le_mul_right W h
        rw [Nat.succ_mul, Nat.mul_comm H W] at this
        omega
    have ec : f41 0 (tOf W H st (celL W H l (n * W + W)) (n : Int) (col : Int) true) = some (tOf W H st (celL W H l (n * W + W)) (n : Int) 0 false) := by
      unfold f41 f65
      have : IntKind.i64.wrap ((tOf W H st (celL W H l (n * W + W)) (n : Int) (col : Int) true).Screen.Grid.Wide - 1) = (W : Int) - 1 := i64w ((W : Int) - 1) (by omega)
      rw [this, bs, if_neg (by omega)]; rfl
    have ei : f42 (tOf W H st (celL W H l (n * W + W)) (n : Int) 0 false) = some (tOf W H st (celL W H l (n * W + W)) ((n + 1 : Nat) : Int) 0 false) := by
      unfold f42
      have e2 : IntKind.i64.wrap ((tOf W H st (celL W H l (n * W + W)) (n : Int) 0 false).Screen.Bottom - 1) = (H : Int) - 1 := i64w ((H : Int) - 1) (by omega)
      have e3 : IntKind.i64.wrap ((tOf W H st (celL W H l (n * W + W)) (n : Int) 0 false).Screen.Grid.High - 1) = (H : Int) - 1 := i64w ((H : Int) - 1) (by omega)
      have e4 : IntKind.i64.wrap ((tOf W H st (celL W H l (n * W + W)) (n : Int) 0 false).Screen.Row + 1) = ((n + 1 : Nat) : Int) := wr1 n (by omega)
      rw [e2, e3, e4, bcf (df (by show ¬ (n : Int) = (H : Int) - 1; omega)), bct (dt (by show (n : Int) < (H : Int) - 1; omega))]; rfl
    rw [bct (by rfl), ec, bs, chk_eq (by rfl), bs, chk_eq (by rfl), bs, chk_eq (by rfl), bs, ei, bs]
    have hz : (n * W + W) = (n + 1) * W + 0 := by rw [Nat.succ_mul]; omega
    rw [hz] at hk ⊢
    exact put1 W H (n + 1) 0 st l _ _ rfl hl h1.2 h2.2 hn1 (by omega) hk
end Go.Proofs.YtjoccdgmcdkbkaaDoor.Pm
