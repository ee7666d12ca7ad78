/- The small machine: what an operation does to typed data. No program is named here. -/
import Derived.Test.YtobkkblijfhpoaaGreatDoorPd
namespace Go.Proofs.YtobkkblijfhpoaaGreatDoor.Pm
set_option linter.unusedVariables false
section
variable {γ : Orc} {H : Nat → Cel} {d : Nat} {ρ : Operand → PV} {x y i : Operand} {kk : IntKind} {j : Int} {b g l n e k : Nat}
theorem idx_some {α : Type} {xs : List α} {j : Int} {y : α} (h : idx xs j = some y) : 0 ≤ j ∧ xs[j.toNat]? = some y ∧ j < xs.length := by
 unfold idx at h
 split at h
 ·refine ⟨‹_›, h, ?_⟩
  have := (List.getElem?_eq_some_iff.1 h).1
  omega
 ·cases h
theorem inR_some {j : Int} {n m : Nat} (h : inR j n = some m) : 0 ≤ j ∧ j < n ∧ j.toNat = m := by
 unfold inR at h
 split at h
 ·rename_i hc; cases h; exact ⟨hc.1, hc.2, rfl⟩
 ·cases h
theorem sub_some {α : Type} {xs ys : List α} {lo hi : Int} (h : sub? xs lo hi = some ys) : 0 ≤ lo ∧ lo ≤ hi ∧ hi ≤ xs.length ∧ ys = (xs.take hi.toNat).drop lo.toNat := by
 unfold sub? at h
 split at h
 ·rename_i hc; cases h; exact ⟨hc.1, hc.2.1, hc.2.2, rfl⟩
 ·cases h
theorem ev_ixStr {s : List UInt8} {y : UInt8} (hx : ρ x = .d (.str s)) (hi : ρ i = .d (.int kk j)) (h : idx s j = some y) : peval γ H d ρ (.ixStr x i) = some (.d (.int .u8 (y.toNat : Int)), []) := by
 obtain ⟨h1, h2, h3⟩ := idx_some h
 simp only [peval, hx, hi, PV.str?, PV.int?]
 rw [if_pos ⟨h1, h3⟩]
 simp [List.getD_eq_getElem?_getD, h2]
section
variable {α : Type} (E : Enc α) {xs ys : List α} {z : α}
theorem ev_ixS (hx : ρ x = .d (.sl xs.length (E.cells xs))) (hi : ρ i = .d (.int kk j)) (h : idx xs j = some z) (hk : E.k = k) (hz : E.enc z ≠ []) : peval γ H d ρ (.ixS e k x i) = some (.rptr (E.enc z ++ E.cells (xs.drop (j.toNat + 1))), []) := by
 obtain ⟨h1, h2, h3⟩ := idx_some h
 have hne : E.cells xs ≠ [] := by
  rw [E.cells_get h2]; intro hc
  have := (List.append_eq_nil_iff.1 (List.append_eq_nil_iff.1 hc).2).1
  exact hz this
 subst hk
 simp only [peval, hx, hi, PV.int?]
 rw [if_pos ⟨h1, h3, hne⟩, E.cells_drop]
 obtain ⟨hl, rfl⟩ := List.getElem?_eq_some_iff.1 h2
 rw [List.drop_eq_getElem_cons hl]; rfl
theorem ev_ixM {cs : List PD} {m : Nat} (hx : ρ x = .r (.msl b g l n)) (hl : look H b g = some (.own e k cs)) (hi : ρ i = .d (.int kk j)) (h : inR j n = some m) : peval γ H d ρ (.ixS e k x i) = some (.r (.ptr b g ((l + m) * k)), []) := by
 obtain ⟨h1, h2, h3⟩ := inR_some h
 simp only [peval, hx, hi, PV.int?, hl]
 simp [h1, h2, h3]
theorem partD_at (agg : Bool) (a bs cs : List PD) (o n : Nat) (h : o + n ≤ bs.length) (h1 : 0 < n) : partD agg (a ++ (bs ++ cs)) (a.length + o) n = partD agg bs o n := by
 unfold partD
 cases agg with
 | true =>
  simp only [if_true, List.length_append]
  rw [if_pos (by omega), if_pos h, List.drop_append]
  simp only [Nat.add_sub_cancel_left]
  rw [List.drop_of_length_le (by omega), List.nil_append, List.drop_append, List.take_append]
  simp only [List.length_drop]
  rw [show n - (bs.length - o) = 0 by omega]
  simp
 | false =>
  simp only [Bool.false_eq_true, if_false]
  rw [List.getElem?_append_right (by omega), Nat.add_sub_cancel_left, List.getElem?_append_left (by omega)]
theorem ev_loadM {agg : Bool} {m fo o n : Nat} {p : PV} (hx : ρ x = .r (.ptr b g o)) (hl : look H b g = some (.own e k (E.cells xs))) (ho : o = m * E.k + fo) (h : xs[m]? = some z) (hp : partD agg (E.enc z) fo n = some p) (hn : Nat.ble (fo + n) E.k = true) (hn0 : Nat.ble 1 n = true) : peval γ H d ρ (.load agg n x) = some (p, []) := by
 have hn := Nat.le_of_ble_eq_true hn
 have hn0 := Nat.le_of_ble_eq_true hn0
 have hml : (E.cells (xs.take m)).length = m * E.k := by
  rw [E.cells_len, List.length_take]
  have := (List.getElem?_eq_some_iff.1 h).1
  rw [Nat.min_eq_left (by omega)]
 simp only [peval, hx, hl]
 rw [E.cells_get h, ho, ← hml, partD_at _ _ _ _ _ _ (by rw [E.len]; exact hn) (by omega), hp]
theorem splice_at {β : Type} (a bs cs new : List β) (o : Nat) (h : o + new.length ≤ bs.length) : splice (a ++ (bs ++ cs)) (a.length + o) new = a ++ (splice bs o new ++ cs) := by
 unfold splice
 rw [List.take_append, List.take_of_length_le (by omega), List.drop_append, List.drop_of_length_le (by omega)]
 simp only [Nat.add_sub_cancel_left, List.nil_append, List.append_assoc]
 rw [show a.length + o + new.length - a.length = o + new.length by omega]
 rw [List.take_append_of_le_length (by omega), List.drop_append_of_le_length h]
theorem ev_storeM {m fo o n : Nat} {z' : α} {new : List PV} {ds : List PD} (hx : ρ x = .r (.ptr b g o)) (hy : (ρ y).cells? = some new) (hd : allD new = some ds) (hl : look H b g = some (.own e k (E.cells xs))) (ho : o = m * E.k + fo) (h : xs[m]? = some z)
  (hz : splice (E.enc z) fo ds = E.enc z') (hn : Nat.beq ds.length n = true) (hn1 : Nat.ble (fo + n) E.k = true) : peval γ H d ρ (.store n x y) = some (.un, [(b, ⟨g, some (.own e k (E.cells (xs.set m z')))⟩)]) := by
 have hn := Nat.eq_of_beq_eq_true hn
 have hn1 := Nat.le_of_ble_eq_true hn1
 have hlt := (List.getElem?_eq_some_iff.1 h).1
 have hml : (E.cells (xs.take m)).length = m * E.k := by
  rw [E.cells_len, List.length_take, Nat.min_eq_left (by omega)]
 have hlen : o + n ≤ (E.cells xs).length := by
  rw [E.cells_len, ho]
  have : (m + 1) * E.k ≤ xs.length * E.k := Nat.mul_le_mul_right _ (by omega)
  rw [Nat.succ_mul] at this
  omega
 simp only [peval, hx, hy, hl, hd]
 rw [if_pos ⟨hn, hlen⟩]
 rw [E.cells_set h, E.cells_get h, ho, ← hml, splice_at _ _ _ _ _ (by rw [E.len, hn]; exact hn1), hz]
theorem app_some {bb : Nat} {ws : List α} (h : app? bb xs ys = some ws) : (xs.length + ys.length) * bb ≤ 140737488355328 ∧ ws = xs ++ ys := by
 unfold app? at h
 split at h
 ·cases h; exact ⟨‹_›, rfl⟩
 ·cases h
theorem ev_app {bytes m : Nat} {ws : List α} (hy : asL H (ρ y) = some (m, E.cells ys)) (hm : ys.length = m) (hx : ρ x = .r (.msl b g 0 n)) (hn : xs.length = n) (hl : look H b g = some (.own e k (E.cells xs))) (hk : E.k = k) (h : app? bytes xs ys = some ws) :
  peval γ H d ρ (.app e k bytes x y) = some (.r (.msl b (g + 1) 0 ws.length), [(b, ⟨g + 1, some (.own e k (E.cells ws))⟩)]) := by
 obtain ⟨hb, rfl⟩ := app_some h
 subst hm hn hk
 simp only [peval, asB_of hy, hx, hl]
 rw [if_pos (E.cells_len ys), if_pos ⟨trivial, trivial, E.cells_len xs, hb⟩, E.cells_app, List.length_append]
theorem as_d (n : Nat) (cs : List PD) : asL H (.d (.sl n cs)) = some (n, cs) := rfl
theorem as_whole {n : Nat} (hl : look H b g = some (.own e k (E.cells xs))) (hk : E.k = k) (hn : xs.length = n) : asL H (.r (.msl b g 0 n)) = some (n, E.cells xs) := by
 subst hk hn
 simp only [asL, hl, Nat.zero_mul, List.drop_zero]
 rw [List.take_of_length_le (by rw [E.cells_len]; exact Nat.le_refl _)]
end
def upd {α : Type} (f : Nat → α) (i : Nat) (x : α) : Nat → α := fun j => if j = i then x else f j
theorem inR_lt {j : Int} {n m : Nat} (h : inR j n = some m) : m < n := by
 obtain ⟨h1, h2, h3⟩ := inR_some h
 omega
section
variable {α : Type} (E : Enc α) {f : Nat → α} {m nn fo : Nat}
theorem row_get (h : m < nn) : ((List.range nn).map f)[m]? = some (f m) := by simp [h]
theorem part_at (agg : Bool) {pre post : List PV} {o n : Nat} (ho : o = pre.length + m * E.k + fo) (hm : m < nn) (hn : fo + n ≤ E.k) (h0 : 0 < n) : part agg (pre ++ (E.row nn f ++ post)) o n = partD agg (E.enc (f m)) fo n := by
 have hx := row_get (f := f) hm
 rw [partD_part]
 unfold Enc.row
 rw [E.cells_get hx]
 simp only [List.map_append, List.append_assoc]
 have hml : ((E.cells (((List.range nn).map f).take m)).map PV.d).length = m * E.k := by
  rw [List.length_map, E.cells_len, List.length_take, List.length_map, List.length_range, Nat.min_eq_left (by omega)]
 have key : ∀ (a b c : List PV) (o : Nat), o = a.length + fo → fo + n ≤ b.length → part agg (a ++ (b ++ c)) o n = part agg b fo n := by
  intro a b c o ho hb
  subst ho
  unfold part
  cases agg with
  | true =>
   simp only [if_true, List.length_append]
   rw [if_pos (by omega), if_pos hb, List.drop_append]
   simp only [Nat.add_sub_cancel_left]
   rw [List.drop_of_length_le (by omega), List.nil_append, List.drop_append, List.take_append]
   simp only [List.length_drop]
   rw [show n - (b.length - fo) = 0 by omega]
   simp
  | false =>
   simp only [Bool.false_eq_true, if_false]
   rw [List.getElem?_append_right (by omega), Nat.add_sub_cancel_left, List.getElem?_append_left (by omega)]
 have := key (pre ++ (E.cells (((List.range nn).map f).take m)).map .d) ((E.enc (f m)).map .d) ((E.cells (((List.range nn).map f).drop (m + 1))).map .d ++ post) o (by rw [List.length_append, hml, ho]) (by rw [List.length_map, E.len]; exact hn)
 simpa only [List.append_assoc] using this
theorem ev_ixV (f : Nat → α) {agg : Bool} {p : PV} (hx : ρ x = .agg (E.row nn f ++ [])) (hi : ρ i = .d (.int kk j)) (h : inR j nn = some m) (hk : E.k = k) (hp : partD agg (E.enc (f m)) 0 k = some p) (hk0 : Nat.ble 1 k = true) : peval γ H d ρ (.ixV agg nn k x i) = some (p, []) := by
 obtain ⟨h1, h2, h3⟩ := inR_some h
 have hk0 := Nat.le_of_ble_eq_true hk0
 simp only [peval, hx, hi, PV.int?]
 rw [if_pos ⟨h1, h2⟩]
 have := part_at E agg (pre := []) (post := []) (f := f) (o := j.toNat * k) (n := k) (fo := 0) (m := m) (nn := nn) (by rw [h3, hk]; simp) (inR_lt h) (by omega) (by omega)
 rw [List.nil_append] at this
 rw [this, hp]
theorem ev_ixA {o : Nat} (hx : ρ x = .r (.ptr b g o)) (hi : ρ i = .d (.int kk j)) (h : inR j nn = some m) : peval γ H d ρ (.ixA nn k x i) = some (.r (.ptr b g (o + m * k)), []) := by
 obtain ⟨h1, h2, h3⟩ := inR_some h
 simp only [peval, hx, hi, PV.int?]
 rw [if_pos ⟨h1, h2⟩, h3]
theorem ev_ixA0 {o : Nat} (hx : ρ x = .r (.ptr b g o)) (hi : ρ i = .d (.int kk j)) (h : inR j 2 = some m) (hc : decide (m = 0) = true) : peval γ H d ρ (.ixA 2 k x i) = some (.r (.ptr b g o), []) := by
 have hm := of_decide_eq_true hc
 subst hm
 have q := ev_ixA (γ := γ) (H := H) (d := d) (k := k) hx hi h
 rwa [Nat.zero_mul, Nat.add_zero] at q
theorem ev_ixA1 {o : Nat} (hx : ρ x = .r (.ptr b g o)) (hi : ρ i = .d (.int kk j)) (h : inR j 2 = some m) (hc : decide (m = 0) = false) : peval γ H d ρ (.ixA 2 k x i) = some (.r (.ptr b g (o + k)), []) := by
 have hm := of_decide_eq_false hc
 have hl := inR_lt h
 have h1 : m = 1 := by omega
 subst h1
 have q := ev_ixA (γ := γ) (H := H) (d := d) (k := k) hx hi h
 rwa [Nat.one_mul] at q
theorem okBox_row {pre post : List PV} (h3 : Nat.ble 3 nn = true) (hk : 0 < E.k) : okBox (pre ++ (E.row nn f ++ post)) = true := by
 have h3 := Nat.le_of_ble_eq_true h3
 have hl : (E.cells ((List.range nn).map f)).length = nn * E.k := by rw [E.cells_len]; simp
 have h0 : 3 ≤ nn * E.k := Nat.le_trans h3 (Nat.le_mul_of_pos_right _ hk)
 refine okBox_of ?_ (.inl ?_)
 ·cases hc : E.cells ((List.range nn).map f) with
  | nil => rw [hc] at hl; simp at hl; omega
  | cons a l => exact ⟨a, by simp [Enc.row, hc]⟩
 ·simp only [List.length_append, Enc.row, List.length_map, hl]; omega
theorem ev_loadA {agg : Bool} {n o : Nat} {p : PV} {pre post : List PV} (hx : ρ x = .r (.ptr b g o)) (hl : look H b g = some (.box (pre ++ (E.row nn f ++ post)))) (ho : o = pre.length + m * E.k + fo) (hm : m < nn) (hp : partD agg (E.enc (f m)) fo n = some p) (hn : Nat.ble (fo + n) E.k = true) (hn0 : Nat.ble 1 n = true) (h3 : Nat.ble 3 nn = true := by kernel_rfl) : peval γ H d ρ (.load agg n x) = some (p, []) := by
 have hn := Nat.le_of_ble_eq_true hn
 have hn0 := Nat.le_of_ble_eq_true hn0
 simp only [peval, hx, hl]
 have hok : okBox (pre ++ (E.row nn f ++ post)) = true := okBox_row E h3 (by omega)
 rw [if_pos hok, part_at E agg ho hm hn (by omega), hp]
theorem row_upd (h : m < nn) (z : α) : E.row nn (upd f m z) = ((E.cells (((List.range nn).map f).take m)).map PV.d) ++ ((E.enc z).map .d ++ (E.cells (((List.range nn).map f).drop (m + 1))).map .d) := by
 have e : (List.range nn).map (upd f m z) = ((List.range nn).map f).set m z := by
  apply List.ext_getElem?
  intro j
  by_cases hj : j < nn
  ·by_cases hjm : m = j
   ·subst hjm; simp [hj, upd]
   ·rw [List.getElem?_set_ne hjm]; simp [hj, upd, Ne.symm hjm]
  ·rw [List.getElem?_eq_none (by simp; omega), List.getElem?_eq_none (by simp; omega)]
 unfold Enc.row
 rw [e, E.cells_set (row_get (f := f) h)]
 simp
theorem ev_storeA {n o : Nat} {pre post new : List PV} {ds : List PD} {z' : α} (hx : ρ x = .r (.ptr b g o)) (hl : look H b g = some (.box (pre ++ (E.row nn f ++ post)))) (ho : o = pre.length + m * E.k + fo) (hm : m < nn)
  (hy : (ρ y).cells? = some new) (hd : new = ds.map .d) (hz : splice (E.enc (f m)) fo ds = E.enc z') (hn : Nat.beq ds.length n = true) (hn1 : Nat.ble (fo + n) E.k = true) (hn0 : Nat.ble 1 n = true) (h3 : Nat.ble 3 nn = true := by kernel_rfl) : peval γ H d ρ (.store n x y) = some (.un, [(b, ⟨g, some (.box (pre ++ (E.row nn (upd f m z') ++ post)))⟩)]) := by
 have hn := Nat.eq_of_beq_eq_true hn
 have hn1 := Nat.le_of_ble_eq_true hn1
 have hn0 := Nat.le_of_ble_eq_true hn0
 have hrow : (E.row nn f).length = nn * E.k := by unfold Enc.row; rw [List.length_map, E.cells_len, List.length_map, List.length_range]
 have hmk : (m + 1) * E.k ≤ nn * E.k := Nat.mul_le_mul_right _ (by omega)
 rw [Nat.succ_mul] at hmk
 have hml : ((E.cells (((List.range nn).map f).take m)).map PV.d).length = m * E.k := by
  rw [List.length_map, E.cells_len, List.length_take, List.length_map, List.length_range, Nat.min_eq_left (by omega)]
 have key : splice (pre ++ (E.row nn f ++ post)) o new = pre ++ (E.row nn (upd f m z') ++ post) := by
  rw [row_upd E hm]
  have e : E.row nn f = ((E.cells (((List.range nn).map f).take m)).map PV.d) ++ ((E.enc (f m)).map .d ++ (E.cells (((List.range nn).map f).drop (m + 1))).map .d) := by
   unfold Enc.row; rw [E.cells_get (row_get (f := f) hm)]; simp
  rw [e]
  have hs : splice ((E.enc (f m)).map PV.d) fo new = (E.enc z').map .d := by
   rw [← hz, hd]; simp [splice, List.map_take, List.map_drop]
  have := splice_at (pre ++ (E.cells (((List.range nn).map f).take m)).map PV.d) ((E.enc (f m)).map .d) ((E.cells (((List.range nn).map f).drop (m + 1))).map .d ++ post) new fo (by rw [List.length_map, E.len, hd, List.length_map]; omega)
  rw [hs, List.length_append, hml, ← ho] at this
  simp only [List.append_assoc] at this ⊢
  rw [this]
 simp only [peval, hx, hy, hl]
 rw [if_pos ⟨by rw [hd, List.length_map]; exact hn, by simp only [List.length_append, hrow]; omega, by rw [hd]; simp [isCell], okBox_row E h3 (by omega), by rw [key]; exact okBox_row E h3 (by omega)⟩, key]
end
theorem boolC (b : Bool) {P : Prop} (h1 : b = true → P) (h2 : b = false → P) : P := by cases b; exact h2 rfl; exact h1 rfl
def bI (i : Int) : Option Nat := if 0 ≤ i then some i.toNat else none
theorem bnd_n (n : Nat) : bnd ρ n none = bI (n : Int) := by simp [bnd, bI]
theorem bnd_s (n : Nat) (h : ρ x = .d (.int kk j)) : bnd ρ n (some x) = bI j := by simp [bnd, bI, h, PV.int?]
theorem ev_slStr {lo hi : Option Operand} {s t : List UInt8} {a c : Int} (hx : ρ x = .d (.str s)) (h1 : bnd ρ 0 lo = bI a) (h2 : bnd ρ s.length hi = bI c) (h : sub? s a c = some t) : peval γ H d ρ (.slStr x lo hi) = some (.d (.str t), []) := by
 obtain ⟨p1, p2, p3, rfl⟩ := sub_some h
 simp only [peval, hx, PV.str?, h1, h2, bI]
 rw [if_pos p1, if_pos (by omega)]
 simp only
 rw [if_pos (by omega)]
section
variable {α : Type} (E : Enc α) {xs ys : List α}
theorem ev_slS {lo hi : Option Operand} {a c : Int} (hx : ρ x = .d (.sl xs.length (E.cells xs))) (hk : E.k = k) (h1 : bnd ρ 0 lo = bI a) (h2 : bnd ρ xs.length hi = bI c) (h : sub? xs a c = some ys) : peval γ H d ρ (.slS e k x lo hi) = some (.d (.sl ys.length (E.cells ys)), []) := by
 obtain ⟨p1, p2, p3, rfl⟩ := sub_some h
 subst hk
 simp only [peval, hx, h1, h2, bI]
 rw [if_pos p1, if_pos (by omega)]
 simp only
 rw [if_pos (by omega), E.cells_take, E.cells_drop]
 simp; omega
end
theorem ev_slM {lo hi : Option Operand} {a c : Int} {cs : List PD} {l' n' : Nat} (hx : ρ x = .r (.msl b g l n)) (hl : look H b g = some (.own e k cs)) (h1 : bnd ρ 0 lo = bI a) (h2 : bnd ρ n hi = bI c) (h : chk (decide (0 ≤ a) && decide (a ≤ c) && decide (c ≤ (n : Int))) = some ()) (hl' : l + a.toNat = l') (hn' : c.toNat - a.toNat = n') : peval γ H d ρ (.slS e k x lo hi) = some (.r (.msl b g l' n'), []) := by
 have h := chk_t h
 simp only [Bool.and_eq_true, decide_eq_true_eq] at h
 simp only [peval, hx, h1, h2, bI, hl]
 rw [if_pos h.1.1, if_pos (by omega)]
 simp only
 rw [if_pos (by omega), if_pos trivial, hl', hn']
def Enc.rowD {α : Type} (E : Enc α) (n : Nat) (f : Nat → α) : List PD := E.cells ((List.range n).map f)
theorem Enc.rowD_len {α : Type} (E : Enc α) (n : Nat) (f : Nat → α) : (E.rowD n f).length = n * E.k := by
 unfold Enc.rowD
 rw [E.cells_len, List.length_map, List.length_range]
theorem ev_ixR {γ : Orc} {H : Nat → Cel} {d : Nat} {ρ : Operand → PV} {x i : Operand} {kk : IntKind} {j : Int} {nn k m : Nat} {cs : List PD} (hx : ρ x = .rptr cs) (hi : ρ i = .d (.int kk j)) (h : inR j nn = some m) : peval γ H d ρ (.ixA nn k x i) = some (.rptr (cs.drop (m * k)), []) := by
 obtain ⟨h1, h2, h3⟩ := inR_some h
 simp only [peval, hx, hi, PV.int?]
 rw [if_pos ⟨h1, h2⟩, h3]
theorem ev_loadR {α : Type} (E : Enc α) {γ : Orc} {H : Nat → Cel} {d : Nat} {ρ : Operand → PV} {x : Operand} {f : Nat → α} {nn m : Nat} {post : List PD} {q : PD} (hx : ρ x = .rptr ((E.rowD nn f ++ post).drop (m * E.k))) (hm : m < nn) (hq : partD false (E.enc (f m)) 0 1 = some (.d q)) (hk : Nat.ble 1 E.k = true) : peval γ H d ρ (.load false 1 x) = some (.d q, []) := by
 have hk := Nat.le_of_ble_eq_true hk
 have e := part_at E false (pre := []) (post := post.map .d) (f := f) (o := m * E.k) (n := 1) (fo := 0) (m := m) (nn := nn) (by simp) hm (by omega) (by omega)
 rw [List.nil_append, hq] at e
 have e2 : E.row nn f ++ post.map PV.d = (E.rowD nn f ++ post).map PV.d := by unfold Enc.row Enc.rowD; rw [List.map_append]
 rw [e2] at e
 simp only [part, Bool.false_eq_true, if_false, List.getElem?_map] at e
 simp only [peval, hx, partD, Bool.false_eq_true, if_false, List.getElem?_drop, Nat.add_zero]
 rw [e]
theorem cells_rep {α : Type} (E : Enc α) (z : α) : ∀ n : Nat, E.cells (List.replicate n z) = (List.replicate n (E.enc z)).flatten
 | 0 => rfl
 | n + 1 => by
  rw [List.replicate_succ, List.replicate_succ, List.flatten_cons]
  show E.enc z ++ E.cells (List.replicate n z) = _
  rw [cells_rep E z n]
def cpyL {α : Type} (xs : List α) (l n : Nat) (ys : List α) : List α := xs.take l ++ ys.take (min ys.length n) ++ xs.drop (l + min ys.length n)
theorem cpyL_len {α : Type} {xs ys : List α} {l n : Nat} (h : l + n ≤ xs.length) : (cpyL xs l n ys).length = xs.length := by
 unfold cpyL
 simp; omega
theorem ev_cpy {α : Type} (E : Enc α) {xs ys : List α} (hx : ρ x = .r (.msl b g l n)) (hl : look H b g = some (.own e k (E.cells xs))) (hk : E.k = k) (hy : asL H (ρ y) = some (ys.length, E.cells ys)) (h : chk (decide (l + n ≤ xs.length)) = some ()) :
  peval γ H d ρ (.cpy k x y) = some (.d (.int .i64 ((min ys.length n : Nat) : Int)), [(b, ⟨g, some (.own e k (E.cells (cpyL xs l n ys)))⟩)]) := by
 have h := of_decide_eq_true (chk_t h)
 subst hk
 simp only [peval, hx, hy, hl]
 rw [if_pos ⟨trivial, E.cells_len ys⟩]
 have e1 : splice (E.cells xs) (l * E.k) ((E.cells ys).take (min ys.length n * E.k)) = E.cells (cpyL xs l n ys) := by
  unfold splice cpyL
  rw [E.cells_app, E.cells_app, E.cells_take, E.cells_take, E.cells_len, List.length_take, ← Nat.add_mul, E.cells_drop, show min (min ys.length n) ys.length = min ys.length n by omega]
 rw [e1]
def mk? {α : Type} (bytes : Nat) (a c : Int) (z : α) : Option (List α) := if 0 ≤ a ∧ a ≤ c ∧ c.toNat * bytes ≤ 140737488355328 then some (List.replicate a.toNat z) else none
theorem ev_mks {α : Type} (E : Enc α) {z0 : α} {zz : List (Nat × Value)} {bytes : Nat} {a c : Int} {kl kc : IntKind} {ys : List α} {cp : Operand} (hz : allD (unrle zz) = some (E.enc z0)) (hx : ρ x = .d (.int kl a)) (hc : ρ cp = .d (.int kc c)) (hk : E.k = k) (h : mk? bytes a c z0 = some ys) :
  peval γ H d ρ (.mks e k bytes zz x cp) = some (.r (.msl (bid d 0) ((H (bid d 0)).g + 1) 0 ys.length), [nw H (bid d 0) (.own e k (E.cells ys))]) := by
 unfold mk? at h
 split at h
 ·rename_i hh
  cases h
  simp only [peval, hx, hc, PV.int?, hz]
  rw [if_pos hh, cells_rep, List.length_replicate]
 ·cases h
theorem ev_cvBS {s : List UInt8} {n : Nat} (hx : asL H (ρ x) = some (n, eU8.cells s)) (hn : s.length = n) : peval γ H d ρ (.cvBS x) = some (.d (.str s), []) := by
 have key : ∀ s : List UInt8, peval.allB (eU8.cells s) = some s := by
  intro s
  induction s with
  | nil => rfl
  | cons a s ih =>
   have h1 : (0 : Int) ≤ (a.toNat : Int) ∧ (a.toNat : Int) < 256 := by have := a.toNat_lt; omega
   show peval.allB (PD.int .u8 (a.toNat : Int) :: eU8.cells s) = _
   simp only [peval.allB]
   rw [if_pos h1, ih]
   simp
 subst hn
 simp only [peval, hx, key]
 rw [if_pos trivial]
theorem ev_cvSO {e : Nat} {s : List UInt8} (hx : ρ x = .d (.str s)) (h : chk (decide (s.length ≤ 140737488355328)) = some ()) : peval γ H d ρ (.cvSO e x) = some (.r (.msl (bid d 0) ((H (bid d 0)).g + 1) 0 s.length), [nw H (bid d 0) (.own e 1 (eU8.cells s))]) := by
 have h := of_decide_eq_true (chk_t h)
 simp only [peval, hx, PV.str?]
 rw [if_pos h, u8_cells]
theorem cat_some {a c s : List UInt8} (h : cat? a c = some s) : ((a.length + c.length : Nat) : Int) ≤ IntKind.i64.max ∧ s = a ++ c := by
 unfold cat? at h
 split at h
 ·cases h; exact ⟨‹_›, rfl⟩
 ·cases h
theorem ev_cat {a c s : List UInt8} (hx : ρ x = .d (.str a)) (hy : ρ y = .d (.str c)) (h : cat? a c = some s) : peval γ H d ρ (.strO .add x y) = some (.d (.str s), []) := by
 obtain ⟨h1, rfl⟩ := cat_some h
 simp only [peval, hx, hy, PV.str?]
 rw [if_pos h1]
-- calls
theorem dpt {k n d : Nat} (h : n ≤ d) (e : Nat.ble (k + 1) n = true) : k ≤ d - 1 := by have := Nat.le_of_ble_eq_true e; omega
theorem ev_call {f : Nat} {xs : List Operand} {args l : List PV} {r v : PV} {ups : Ups} (ha : xs.map ρ = args) (hl : lendL H args = some l) (hc : γ f l [] = some (r, []))
  (hf : ((refsL args).isEmpty || freeV r) = true) (hr : (distinct ((owns r).map (·.1)) && (owns r).all (fun x => decide (x.1 < 8))) = true) (hv : (adV H d r, (owns r).map fun x => nw H (bid d x.1) x.2) = (v, ups)) :
  peval γ H d ρ (.call f xs) = some (v, ups) := by
 simp only [peval, ha, doCall, hl, val1, hc]
 rw [if_pos (by rw [Bool.and_assoc, hf, hr]; rfl), hv]
theorem ev_callF {f : Nat} {xs : List Operand} {args args' l : List PV} {refs : List Nat} {r v : PV} {ups ups' : Ups} (ha : xs.map ρ = args) (hr : refsL args = refs) (hall : (refs.all fun i => Nat.ble 8 i && (List.range 8).all fun j => !Nat.beq i (bid d j)) = true)
  (hz : frzL (inL refs) H args = args') (hl : lendL (setH' H (dropUps H refs)) args' = some l) (hc : γ f l [] = some (r, [])) (he : (refsL args').isEmpty = true) (hd : (distinct ((owns r).map (·.1)) && (owns r).all (fun x => decide (x.1 < 8))) = true)
  (hv : (adV (setH' H (dropUps H refs)) d r, (owns r).map fun x => nw (setH' H (dropUps H refs)) (bid d x.1) x.2) = (v, ups')) (hu : dropUps H refs ++ ups' = ups) :
  peval γ H d ρ (.callf f xs) = some (v, ups) := by
 simp only [peval, doCallF, ha, hr, hall, hz, doCall, hl, val1, hc]
 rw [if_pos trivial, if_pos (by rw [Bool.and_assoc, he, hd]; rfl)]
 have e1 := congrArg Prod.fst hv
 have e2 := congrArg Prod.snd hv
 simp only at e1 e2
 rw [e1, e2]
 simp only
 rw [hu]
theorem fz_nil {D : Nat → Bool} : frzL D H [] = [] := rfl
theorem fz_cons {D : Nat → Bool} {p q : PV} {ps qs : List PV} (h1 : frzV D H p = q) (h2 : frzL D H ps = qs) : frzL D H (p :: ps) = q :: qs := by simp only [frzL, h1, h2]
theorem fz_agg {D : Nat → Bool} {ps qs : List PV} (h : frzL D H ps = qs) : frzV D H (.agg ps) = .agg qs := by simp only [frzV, h]
theorem fz_app {D : Nat → Bool} {ps qs ps' qs' : List PV} (h1 : frzL D H ps = qs) (h2 : frzL D H ps' = qs') : frzL D H (ps ++ ps') = qs ++ qs' := by
 subst h1 h2
 induction ps with
 | nil => rfl
 | cons p ps ih => simp only [List.cons_append, frzL, ih]
theorem ev_callv {f : Nat} {cs : List PV} {xs : List Operand} {args l : List PV} {r v : PV} {ups : Ups} (hx : ρ x = .fn f cs) (ha : xs.map ρ ++ cs = args) (hl : lendL H args = some l) (hc : γ f l [] = some (r, []))
  (hf : ((refsL args).isEmpty || freeV r) = true) (hr : (distinct ((owns r).map (·.1)) && (owns r).all (fun x => decide (x.1 < 8))) = true) (hv : (adV H d r, (owns r).map fun x => nw H (bid d x.1) x.2) = (v, ups)) :
  peval γ H d ρ (.callv x xs) = some (v, ups) := by
 simp only [peval, hx, ha, doCall, hl, val1, hc]
 rw [if_pos (by rw [Bool.and_assoc, hf, hr]; rfl), hv]
theorem ev_callr {f : Nat} {xs : List Operand} {args l : List PV} {ids : List Nat} {bs bt bs' : List Blk} {r v : PV} {ups : Ups} (ha : (xs.map ρ).map nzA = args) (hi : idsOf H args = ids) (hb : blksOf H ids = some bs) (hl : trL ids H args = l) (ht : bs.map (trB ids H) = bt) (hc : γ f l bt = some (r, bs'))
  (hr : (decide (bs'.length = ids.length) && decide (ids.length ≤ 8) && distinct ((ownsAll r bs').map (·.1)) && (ownsAll r bs').all (fun x => decide (x.1 < 8) && !ids.any (Nat.beq (bid d x.1)))) = true)
  (hv : (bkV false ids H d r, upsP false H ids d ids bs' ++ (ownsAll r bs').map fun x => nw H (bid d x.1) x.2) = (v, ups)) :
  peval γ H d ρ (.callr f xs) = some (v, ups) := by
 have hlen : bs'.length = ids.length := by simp only [Bool.and_eq_true, decide_eq_true_eq] at hr; exact hr.1.1.1
 have hfx : fxOf ids bs' = false := by
  unfold fxOf
  rw [hlen]
  cases h : Nat.beq ids.length (ids.length + 1) with
  | false => rfl
  | true => have := Nat.eq_of_beq_eq_true h; omega
 have hok : okL H ids bs' = decide (bs'.length = ids.length) := by unfold okL; rw [hfx, if_neg (by simp)]
 simp only [peval, ha, doCallR, hi, hb, hl, ht, hc, hfx, hok]
 rw [if_pos hr, hv]
theorem ev_callrX {f : Nat} {xs : List Operand} {args l : List PV} {ids : List Nat} {bs bt bs' : List Blk} {r v : PV} {ups : Ups} (ha : (xs.map ρ).map nzA = args) (hi : idsOf H args = ids) (hb : blksOf H ids = some bs) (hl : trL ids H args = l) (ht : bs.map (trB ids H) = bt) (hc : γ f l bt = some (r, bs'))
  (hfx : fxOf ids bs' = true) (hs : sameL H ids bs' = true)
  (hr : (decide (ids.length ≤ 8) && distinct ((ownsAll r bs').map (·.1)) && (ownsAll r bs').all (fun x => decide (x.1 < 8) && !ids.any (Nat.beq (bid d x.1)))) = true)
  (hv : (bkV true ids H d r, upsP true H ids d ids bs' ++ (ownsAll r bs').map fun x => nw H (bid d x.1) x.2) = (v, ups)) :
  peval γ H d ρ (.callr f xs) = some (v, ups) := by
 have hok : okL H ids bs' = true := by unfold okL; rw [if_pos hfx, hs]
 simp only [peval, ha, doCallR, hi, hb, hl, ht, hc, hfx, hok, Bool.true_and]
 rw [if_pos hr, hv]
theorem ev_callA {f : Nat} {xs : List Operand} {l : List PV} {r : PV} (hl : lendL H (xs.map ρ) = some l) (hc : γ f l [] = some (r, [])) (hf : ((refsL (xs.map ρ)).isEmpty || freeV r) = true) (hr : (distinct ((owns r).map (·.1)) && (owns r).all (fun x => decide (x.1 < 8))) = true) :
  peval γ H d ρ (.call f xs) = some (adV H d r, (owns r).map fun x => nw H (bid d x.1) x.2) := ev_call rfl hl hc hf hr rfl
theorem ev_callB {f : Nat} {xs : List Operand} {args l : List PV} {r : PV} (ha : xs.map ρ = args) (hl : lendL H args = some l) (hc : γ f l [] = some (r, [])) (hf : ((refsL args).isEmpty || freeV r) = true) (hr : (distinct ((owns r).map (·.1)) && (owns r).all (fun x => decide (x.1 < 8))) = true) :
  peval γ H d ρ (.call f xs) = some (adV H d r, (owns r).map fun x => nw H (bid d x.1) x.2) := ev_call ha hl hc hf hr rfl
theorem ev_callrA {f : Nat} {xs : List Operand} {l : List PV} {ids : List Nat} {bt bs' : List Blk} {r : PV} (hi : idsOf H ((xs.map ρ).map nzA) = ids) (hb : (blksOf H ids).map (List.map (trB ids H)) = some bt) (hl : trL ids H ((xs.map ρ).map nzA) = l) (hc : γ f l bt = some (r, bs'))
  (hr : (decide (bs'.length = ids.length) && decide (ids.length ≤ 8) && distinct ((ownsAll r bs').map (·.1)) && (ownsAll r bs').all (fun x => decide (x.1 < 8) && !ids.any (Nat.beq (bid d x.1)))) = true) :
  peval γ H d ρ (.callr f xs) = some (bkV false ids H d r, upsP false H ids d ids bs' ++ (ownsAll r bs').map fun x => nw H (bid d x.1) x.2) := by
 cases hbs : blksOf H ids with
 | none => rw [hbs] at hb; cases hb
 | some bs =>
  rw [hbs] at hb
  exact ev_callr rfl hi hbs hl (Option.some.inj hb) hc hr rfl
theorem ev_callrXA {f : Nat} {xs : List Operand} {l : List PV} {ids : List Nat} {bs bt bs' : List Blk} {r : PV} (hi : idsOf H ((xs.map ρ).map nzA) = ids) (hb : blksOf H ids = some bs) (hl : trL ids H ((xs.map ρ).map nzA) = l) (ht : bs.map (trB ids H) = bt) (hc : γ f l bt = some (r, bs'))
  (hfx : fxOf ids bs' = true) (hs : sameL H ids bs' = true)
  (hr : (decide (ids.length ≤ 8) && distinct ((ownsAll r bs').map (·.1)) && (ownsAll r bs').all (fun x => decide (x.1 < 8) && !ids.any (Nat.beq (bid d x.1)))) = true) :
  peval γ H d ρ (.callr f xs) = some (bkV true ids H d r, upsP true H ids d ids bs' ++ (ownsAll r bs').map fun x => nw H (bid d x.1) x.2) := ev_callrX rfl hi hb hl ht hc hfx hs hr rfl
theorem sm_nil {bs' : List Blk} : sameL H [] bs' = true := rfl
theorem sm_box {i : Nat} {is : List Nat} {cs cs' : List PV} {bs' : List Blk} (hb : (H i).b = some (.box cs)) (h : sameL H is bs' = true) : sameL H (i :: is) (.box cs' :: bs') = true := by
 simp only [sameL, hb, h]; rfl
theorem sm_own {α : Type} (E : Enc α) {i : Nat} {is : List Nat} {e1 k1 e2 k2 : Nat} {xs ys : List α} {bs' : List Blk} (hb : (H i).b = some (.own e1 k1 (E.cells xs))) (hl : chk (decide (ys.length = xs.length)) = some ()) (h : sameL H is bs' = true) : sameL H (i :: is) (.own e2 k2 (E.cells ys) :: bs') = true := by
 have hl := of_decide_eq_true (chk_t hl)
 simp only [sameL, hb, h, E.cells_len, hl, decide_true, Bool.and_self]
theorem cells_free {α : Type} (E : Enc α) (hE : ∀ x, (E.enc x).all (fun | .sl _ ds => ds.isEmpty | _ => true) = true) : ∀ xs : List α, (E.cells xs).all (fun | .sl _ ds => ds.isEmpty | _ => true) = true
 | [] => rfl
 | x :: xs => by simp only [Enc.cells, List.all_append, hE x, cells_free E hE xs, Bool.and_self]
theorem free_own {α : Type} (E : Enc α) (hE : ∀ x, (E.enc x).all (fun | .sl _ ds => ds.isEmpty | _ => true) = true) (j e' k' n' : Nat) (xs : List α) : freeV (.r (.own j e' k' n' (E.cells xs))) = true := by
 unfold freeV
 exact cells_free E hE xs
theorem free_tup (cs : List PV) : freeV (.tup cs) = freeL cs := rfl
theorem free_agg (cs : List PV) : freeV (.agg cs) = freeL cs := rfl
theorem free_nl : freeL [] = true := rfl
theorem free_cs (p : PV) (ps : List PV) : freeL (p :: ps) = (freeV p && freeL ps) := rfl
theorem free_int (k' : IntKind) (n' : Int) : freeV (.d (.int k' n')) = true := rfl
theorem free_bool (b' : Bool) : freeV (.d (.bool b')) = true := rfl
theorem free_str (s : List UInt8) : freeV (.d (.str s)) = true := rfl
theorem free_un : freeV .un = true := rfl
theorem free_ni : freeV .nil = true := rfl
theorem free_s0 (n' : Nat) : freeV (.d (.sl n' [])) = true := rfl
-- bytes
theorem u8w (n : Int) : IntKind.u8.wrap n = n % 256 := by
 simp [IntKind.wrap, IntKind.signed, IntKind.bits]
def u8 (n : Int) : UInt8 := UInt8.ofNat (n % 256).toNat
theorem u8_u8 (n : Int) : ((u8 n).toNat : Int) = n % 256 := by
 unfold u8
 have : (n % 256).toNat < 256 := by omega
 have e : (UInt8.ofNat (n % 256).toNat).toNat = (n % 256).toNat := by simp; omega
 rw [e]; omega
theorem u8_wrap (n : Int) : IntKind.u8.wrap n = ((u8 n).toNat : Int) := by rw [u8w, u8_u8]
theorem ev_sh {op : BinOp} {a c r : Int} {k2 : IntKind} (hx : ρ x = .d (.int kk a)) (hy : ρ y = .d (.int k2 c)) (h : shI op kk a c = some r) : peval γ H d ρ (.sh op x y) = some (.d (.int kk r), []) := by
 simp only [peval, hx, hy, PV.int?, h]
theorem ev_cv {k2 : IntKind} {a r : Int} (hx : ρ x = .d (.int kk a)) (h : k2.wrap a = r) : peval γ H d ρ (.cvI k2 x) = some (.d (.int k2 r), []) := by
 simp only [peval, hx, PV.int?, h]
theorem cv_i64 (a : UInt8) : IntKind.i64.wrap (a.toNat : Int) = a.toNat := IntWalk.i64_in _ (by have := a.toNat_lt; omega)
theorem chk_sh {c : Int} (h : chk (decide (0 ≤ c)) = some ()) : 0 ≤ c := of_decide_eq_true (chk_t h)
theorem sh_l {k : IntKind} {a c : Int} (h : chk (decide (0 ≤ c)) = some ()) : shI .shl k a c = some (k.wrap (a * 2 ^ (min c.toNat k.bits))) := by simp only [shI]; rw [if_pos (chk_sh h)]
def part? {α : Type} (xs : List α) (l n : Nat) : Option (List α) := if l + n ≤ xs.length then some ((xs.drop l).take n) else none
theorem part_some {α : Type} {xs ys : List α} {l n : Nat} (h : part? xs l n = some ys) : l + n ≤ xs.length ∧ ys = (xs.drop l).take n ∧ ys.length = n := by
 unfold part? at h
 split at h
 ·cases h; exact ⟨‹_›, rfl, by simp; omega⟩
 ·cases h
theorem as_part {α : Type} (E : Enc α) {xs ys : List α} (hl : look H b g = some (.own e k (E.cells xs))) (hk : E.k = k) (h : part? xs l n = some ys) : asL H (.r (.msl b g l n)) = some (ys.length, E.cells ys) := by
 obtain ⟨h1, h2, h3⟩ := part_some h
 subst hk
 simp only [asL, hl]
 rw [E.cells_drop, E.cells_take, ← h2, h3]
theorem l_part {α : Type} (E : Enc α) {xs ys : List α} (hl : look H b g = some (.own e k (E.cells xs))) (hk : E.k = k) (h : part? xs l n = some ys) : lendV H (.r (.msl b g l n)) = some (.d (.sl ys.length (E.cells ys))) := by
 obtain ⟨h1, h2, h3⟩ := part_some h
 subst hk
 simp only [lendV, hl]
 rw [E.cells_drop, E.cells_take, ← h2, h3]
-- equality of values that hold arrays
-- what is handed out, what is lent
section
variable {α : Type} (E : Enc α) {xs : List α} {m : Nat} {ids ids' ids'' : List Nat}
theorem Enc.frz (xs : List α) : ((E.cells xs).drop (0 * E.k)).take (xs.length * E.k) = E.cells xs := by
 rw [Nat.zero_mul, List.drop_zero, List.take_of_length_le (by rw [E.cells_len]; exact Nat.le_refl _)]
theorem o_own {n : Nat} (hl : look H b g = some (.own e k (E.cells xs))) (hk : E.k = k) (hn : xs.length = n) (hm : Nat.blt b m = false) (hi : ids.any (Nat.beq b) = false) : outV H m (.r (.msl b g 0 n)) ids = some (.r (.own ids.length e k n (E.cells xs)), ids ++ [b]) := by
 subst hk hn
 simp only [outV, hl]
 rw [if_neg (by intro h; have := Nat.ble_eq_true_of_le h; simp only [Nat.blt] at hm; rw [this] at hm; cases hm), if_pos ⟨trivial, E.cells_len xs, hi⟩]
theorem o_nil : outL H m [] ids = some ([], ids) := rfl
theorem o_cons {p q : PV} {ps qs : List PV} (h1 : outV H m p ids = some (q, ids')) (h2 : outL H m ps ids' = some (qs, ids'')) : outL H m (p :: ps) ids = some (q :: qs, ids'') := by simp only [outL, h1, h2]
theorem o_agg {ps qs : List PV} (h : outL H m ps ids = some (qs, ids')) : outV H m (.agg ps) ids = some (.agg qs, ids') := by simp only [outV, h]
theorem o_tup {ps qs : List PV} (h : outL H m ps ids = some (qs, ids')) : outV H m (.tup ps) ids = some (.tup qs, ids') := by simp only [outV, h]
theorem o_app {ps qs ps' qs' : List PV} (h1 : outL H m ps ids = some (qs, ids')) (h2 : outL H m ps' ids' = some (qs', ids'')) : outL H m (ps ++ ps') ids = some (qs ++ qs', ids'') := by
 induction ps generalizing ids qs with
 | nil => cases h1; exact h2
 | cons p ps ih =>
  simp only [outL] at h1
  split at h1
  ·rename_i x i hx
   split at h1
   ·rename_i l j hl
    cases h1
    have := ih hl
    simp only [List.cons_append, outL, hx, this]
   ·cases h1
  ·cases h1
theorem o_row {n : Nat} {f : Nat → α} : outL H m (E.row n f) ids = some (E.row n f, ids) := outL_d _ _ fun p hp => by
 simp only [Enc.row, List.mem_map] at hp
 obtain ⟨x, _, rfl⟩ := hp; exact ⟨x, rfl⟩
theorem out_of {st : St} {rs : List PR} {bs : List Blk} {l : List PV} {x : PV} (h1 : outBs st.h m (List.range m) [] = some (bs, ids)) (h2 : resV st rs = some l) (h3 : outV st.h m (resP l) ids = some (x, ids')) : outR st m rs = some (x, bs) := by
 simp only [outR, h1, h2, h3]
theorem l_cons {p q : PV} {ps qs : List PV} (h1 : lendV H p = some q) (h2 : lendL H ps = some qs) : lendL H (p :: ps) = some (q :: qs) := by simp only [lendL, h1, h2]
theorem l_nil : lendL H [] = some [] := rfl
theorem l_agg {ps qs : List PV} (h : lendL H ps = some qs) : lendV H (.agg ps) = some (.agg qs) := by simp only [lendV, h]; rfl
theorem l_own {n : Nat} (hl : look H b g = some (.own e k (E.cells xs))) (hk : E.k = k) (hn : xs.length = n) : lendV H (.r (.msl b g 0 n)) = some (.d (.sl n (E.cells xs))) := by
 subst hk hn
 simp only [lendV, hl]
 rw [Nat.zero_mul, List.drop_zero, List.take_of_length_le (by rw [E.cells_len]; exact Nat.le_refl _)]
theorem fz_own {n : Nat} {D : Nat → Bool} (hD : D b = true) (hl : look H b g = some (.own e k (E.cells xs))) (hk : E.k = k) (hn : xs.length = n) : frzV D H (.r (.msl b g 0 n)) = .d (.sl n (E.cells xs)) := by
 subst hk hn
 simp only [frzV, hD, if_true, hl]
 rw [Nat.zero_mul, List.drop_zero, List.take_of_length_le (by rw [E.cells_len]; exact Nat.le_refl _)]
theorem fz_row {n : Nat} {f : Nat → α} {D : Nat → Bool} : frzL D H (E.row n f) = E.row n f := by
 unfold Enc.row
 induction E.cells ((List.range n).map f) with
 | nil => rfl
 | cons a l ih => simp only [List.map_cons, frzL, frzV, ih]
end
end
end Go.Proofs.YtobkkblijfhpoaaGreatDoor.Pm
