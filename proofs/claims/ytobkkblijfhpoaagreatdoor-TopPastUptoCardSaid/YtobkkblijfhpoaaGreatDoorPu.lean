/- The small machine: its operations are the language's: literals, append, calls. No program is named here. -/
import Derived.Test.YtobkkblijfhpoaaGreatDoorPt
import Derived.Test.YtobkkblijfhpoaaGreatDoorPh
namespace Go.Proofs.YtobkkblijfhpoaaGreatDoor.Pm
open Go.RowKit

section
variable {P : Program} {E : Nat → Prop} {m : List Blk} {φ0 φ : Nat → Phys} {H : Nat → Cel} {w0 w : World}
variable {ρ : Operand → PV} {ev : Operand → Value} {γ : Orc} {d : Nat}

theorem foldl_cells : ∀ (news : List Value) (k : Nat) (cells : Array Value) (off : Nat), off + k + news.length ≤ cells.size →
  ((news.zipIdx k).foldl (fun cs (x : Value × Nat) => cs.setIfInBounds (off + x.2) x.1) cells).toList = cells.toList.take (off + k) ++ news ++ cells.toList.drop (off + k + news.length)
 | [], k, cells, off, _ => by simp
 | v :: r, k, cells, off, h => by
  simp only [List.zipIdx_cons, List.foldl_cons]
  rw [foldl_cells r (k + 1) _ off (by simp at h ⊢; omega)]
  have e := list_seg_step cells.toList (off + k) v r (by simp at h ⊢; omega)
  simpa [Array.toList_setIfInBounds, Nat.add_assoc] using e
theorem fill_rep {X : Nat → Prop} {R : Ref → Value → Prop} {ρ : Operand → PV} {ev : Operand → Value} (hρ : ∀ x, RepV X w R (ρ x) (ev x)) (hcells : ∀ {p : PV} {cs : List PV} {v : Value}, p.cells? = some cs → RepV X w R p v → RepL X w R cs v.cells.toList)
  (pl : Nat → Option (Nat × Nat)) : ∀ (ps : List (Nat × Operand)) (q : List (Nat × Nat × Operand)) (cs cs' : List PV) (cells : Array Value), partsAt pl ps = some q → fillP ρ cs q = some cs' → RepL X w R cs cells.toList →
  ∃ out, Instr.fill pl cells (ps.map fun x => (x.1, ev x.2)) = some out ∧ RepL X w R cs' out.toList
 | [], q, cs, cs', cells, hp, hf, hr => by
  simp only [partsAt, Option.some.injEq] at hp; subst hp
  simp only [fillP, Option.some.injEq] at hf; subst hf
  exact ⟨cells, rfl, hr⟩
 | (i, x) :: ps, q, cs, cs', cells, hp, hf, hr => by
  simp only [partsAt] at hp
  split at hp
  ·rename_i o n r h1 h2; cases hp
   simp only [fillP] at hf
   split at hf
   ·rename_i new hn
    split at hf
    ·rename_i hh
     have hrn := hcells hn (hρ x)
     have hl := hrn.len
     have hlc := hr.len
     simp only [Array.length_toList] at hl hlc
     have hr2 : RepL X w R (splice cs o new) ((ev x).cells.toList.zipIdx.foldl (fun cs (y : Value × Nat) => cs.setIfInBounds (o + y.2) y.1) cells).toList := by
      rw [foldl_cells _ 0 cells o (by simp; omega)]
      have := hr.splice hrn o
      simpa using this
     obtain ⟨out, h3, h4⟩ := fill_rep hρ hcells pl ps r _ cs' _ h2 hf hr2
     refine ⟨out, ?_, h4⟩
     simp only [List.map_cons, Instr.fill, h1]
     rw [if_neg (by simp; omega), ← h3]
     congr 1
     rw [← Array.foldl_toList]
     congr 1
     simp
    ·cases hf
   ·cases hf
  ·cases hp
theorem cells_ref {φ : Nat → Phys} {H : Nat → Cel} {X : Nat → Prop} : ∀ {p : PV} {cs : List PV} {v : Value}, p.cells? = some cs → RepV X w (RefAt φ H) p v → RepL X w (RefAt φ H) cs v.cells.toList :=
 fun h q => (cells_of h q).1
theorem does_buildS {t : TypeId} {fs : Array Field} {ps : Array (Nat × Operand)} {pl : List (Nat × Nat)} {z : List Value} {n : Nat} {q : List (Nat × Nat × Operand)} {p : PV} {ups : Ups} (hm : Mem E m φ0 w0 φ H w) (hρ : Reps E φ H w ρ ev) (hu : P.underlying t = some (.struct fs))
  (hpl : places P fs.toList = some pl) (hz : zeroOf P t n = some z) (hq : partsAt (fun i => pl[i]?) ps.toList = some q)
  (he : peval γ H d ρ (.build (rle z) q) = some (p, ups)) : Does P E m φ0 w0 φ H w p ups (do pure (.value (← Instr.build t (ps.map fun (i, x) => (i, ev x))))) := by
 simp only [peval] at he
 split at he
 ·rename_i cs hcs; cases he
  obtain ⟨i, v, hi, hv, hvz, _⟩ := zero_info hz
  have hr : RepL (Xof E φ) w (RefAt φ H) (unrle (rle z)) v.cells.toList := by rw [unrle_rle, hvz]; exact RepL.consts z
  obtain ⟨out, h1, h2⟩ := fill_rep hρ cells_ref _ _ _ _ _ v.cells hq hcs hr
  refine doesV hm (v := .agg out) (run_build w t _ out ?_) ⟨_, rfl, h2⟩
  unfold Program.built
  simp only [hi, hu, hv]
  unfold places at hpl
  simp only [hpl]
  rw [← h1]
  simp
 ·cases he
theorem does_buildA {t e : TypeId} {len k n : Nat} {ps : Array (Nat × Operand)} {z : List Value} {q : List (Nat × Nat × Operand)} {p : PV} {ups : Ups} (hm : Mem E m φ0 w0 φ H w) (hρ : Reps E φ H w ρ ev) (hu : P.underlying t = some (.array len e))
  (hk : sz? P e = some k) (hz : zeroOf P t n = some z) (hq : partsAt (fun i => some (i * k, k)) ps.toList = some q)
  (he : peval γ H d ρ (.build (rle z) q) = some (p, ups)) : Does P E m φ0 w0 φ H w p ups (do pure (.value (← Instr.build t (ps.map fun (i, x) => (i, ev x))))) := by
 simp only [peval] at he
 split at he
 ·rename_i cs hcs; cases he
  obtain ⟨i, v, hi, hv, hvz, _⟩ := zero_info hz
  obtain ⟨ie, hie, hies⟩ := sz_info hk
  have hr : RepL (Xof E φ) w (RefAt φ H) (unrle (rle z)) v.cells.toList := by rw [unrle_rle, hvz]; exact RepL.consts z
  obtain ⟨out, h1, h2⟩ := fill_rep hρ cells_ref _ _ _ _ _ v.cells hq hcs hr
  refine doesV hm (v := .agg out) (run_build w t _ out ?_) ⟨_, rfl, h2⟩
  unfold Program.built
  simp only [hi, hu, hv, hie, hies]
  rw [← h1]
  simp
 ·cases he
theorem does_bsl {t e : TypeId} {k n : Nat} {ps : Array (Nat × Operand)} {z : List Value} {q : List (Nat × Nat × Operand)} {p : PV} {ups : Ups} (hm : Mem E m φ0 w0 φ H w) (hρ : Reps E φ H w ρ ev) (hu : P.underlying t = some (.slice e))
  (hk : sz? P e = some k) (hk0 : 0 < k) (hnk : n * k ≤ 65536) (hz : zeroOf P e k = some z) (hq : partsAt (fun i => some (i * k, k)) ps.toList = some q)
  (he : peval γ H d ρ (.bsl e k n (rle ((List.range n).flatMap fun _ => z)) q) = some (p, ups)) : Does P E m φ0 w0 φ H w p ups (do pure (.value (← Instr.buildSlice t n (ps.map fun (i, x) => (i, ev x))))) := by
 simp only [peval] at he
 split at he
 ·rename_i cs hcs
  split at he
  rotate_left
  ·cases he
  rename_i hall
  split at he
  ·rename_i ds hds
   split at he
   ·rename_i hdl; cases he
    obtain ⟨i, v, hi, hv, hvz, hzl⟩ := zero_info hz
    have hzs : v.cells.size = k := by rw [← hzl, ← hvz]; simp
    have hcell : ((Array.range (n * k)).map (fun j => v.cells[j % v.cells.size]!)).toList = (List.range n).flatMap fun _ => z := by
     rw [← hvz, hzs]
     clear hcs hq hnk hdl
     induction n with
     | zero => simp
     | succ n ih =>
      rw [List.range_succ, List.flatMap_append, ← ih]
      simp only [Array.toList_map, Array.toList_range, List.flatMap_cons, List.flatMap_nil, List.append_nil]
      rw [Nat.succ_mul, List.range_add, List.map_append]
      congr 1
      apply List.ext_getElem?
      intro j
      by_cases hj : j < k
      ·simp only [List.map_map, List.getElem?_map, List.getElem?_range hj, Option.map_some, Function.comp]
       have e1 : (n * k + j) % k = j := by rw [Nat.mul_add_mod_self_right]; exact Nat.mod_eq_of_lt hj
       rw [e1]
       have : j < v.cells.size := by omega
       simp [this]
      ·rw [List.getElem?_eq_none (by simp; omega), List.getElem?_eq_none (by simp; omega)]
    have hr : RepL (Xof E φ) w (RefAt φ H) (unrle (rle ((List.range n).flatMap fun _ => z))) ((Array.range (n * k)).map (fun j => v.cells[j % v.cells.size]!)).toList := by
     rw [unrle_rle, hcell]; exact RepL.consts _
    obtain ⟨out, h1, h2⟩ := fill_rep hρ cells_ref _ _ _ _ _ _ hq hcs hr
    have hnb : inL (refsL cs) (bid d 0) = false := by
     cases hq : inL (refsL cs) (bid d 0) with
     | false => rfl
     | true =>
      simp only [inL, List.any_eq_true] at hq
      obtain ⟨x, hx, he⟩ := hq
      have := List.all_eq_true.1 hall x hx
      have e : bid d 0 = x := Nat.eq_of_beq_eq_true he
      subst e
      simp at this
    obtain ⟨φ1, m0, t0, fr⟩ := hm.freeze (inL (refsL cs)) false (fun i hi => by
     simp only [inL, List.any_eq_true] at hi
     obtain ⟨x, hx, he⟩ := hi
     have e : i = x := Nat.eq_of_beq_eq_true he
     subst e
     have := List.all_eq_true.1 hall i hx
     simp at this
     exact .inr this.1) (H' := setH H ((refsL cs).map fun j => (j, ⟨(H j).g + 1, none⟩))) (fun i => by rw [setH_drop H]; simp)
    have hg0 : setH H ((refsL cs).map fun j => (j, ⟨(H j).g + 1, none⟩)) (bid d 0) = H (bid d 0) := by rw [setH_drop H, if_neg (by rw [hnb]; simp)]
    have h2 : RepL (Xof E φ1) w (RefAt φ1 (setH H ((refsL cs).map fun j => (j, ⟨(H j).g + 1, none⟩)))) (frzL (inL (refsL cs)) H cs) out.toList := by
     have := fr (.agg cs) (.agg out) ⟨out, rfl, h2⟩
     unfold frzV at this
     obtain ⟨vs, e, q⟩ := this
     cases e; exact q
    obtain ⟨h3, h4, _⟩ := allD_rep hds h2
    have hlen0 : (frzL (inL (refsL cs)) H cs).length = cs.length := by
     have : ∀ (D : Nat → Bool) (l : List PV), (frzL D H l).length = l.length := fun D l => by
      induction l with
      | nil => rfl
      | cons a l ih => simp [frzL, ih]
     exact this _ _
    have h5 := h3.len
    simp only [List.length_map, Array.length_toList] at h5
    have hrun : (Instr.buildSlice t n (ps.map fun (i, x) => (i, ev x))).run P w = .ok (.slice (some ⟨w.heap.size, 0, none⟩) n n) (w.alloc (.cells out e)) := by
     unfold Instr.buildSlice
     have hbig : ¬ (n * k > 2 ^ 24) := by omega
     have h1' : Instr.fill (fun i => some (i * k, k)) ((Array.range (n * k)).map (fun j => v.cells[j % v.cells.size]!)) (ps.map fun (i, x) => (i, ev x)).toList = some out := by
      rw [← h1]; congr 1; simp
     by_cases h0 : n * k = 0
     ·have hn : n = 0 := by
       rcases Nat.mul_eq_zero.1 h0 with h | h
       ·exact h
       ·omega
      subst hn
      have e0 : (Array.range (0 * k)).map (fun j => v.cells[j % v.cells.size]!) = #[] := Array.eq_empty_of_size_eq_zero (by simp)
      have e1 : (Array.range (0 * k)).map (fun j => (#[] : Array Value)[j % (#[] : Array Value).size]!) = #[] := Array.eq_empty_of_size_eq_zero (by simp)
      rw [e0] at h1'
      simp only [Sem.run_bind, run_underlying hu, Result.andThen_ok, run_sizeT hk, if_neg hbig, if_pos h0, Sem.run_pure, e1, h1', newRow, run_newObj, World.alloc_eq]
     ·simp only [Sem.run_bind, run_underlying hu, Result.andThen_ok, run_sizeT hk, if_neg hbig, if_neg h0, zeroValue, typeInfo, run_program, hi, hv, Sem.run_pure, h1', newRow, run_newObj, World.alloc_eq]
    obtain ⟨φ', p1, p2, m1, t1⟩ := m0.new (bid d 0) (by unfold bid; omega) (.own e k ds) out e n (.inr ⟨k, ds, rfl, hk0, by omega, by
     unfold maxLen
     have : n ≤ n * k := Nat.le_mul_of_pos_right _ hk0
     omega, ⟨n, hdl⟩, by omega, by rw [List.take_of_length_le (by simp; omega)]; exact h3⟩)
    rw [hg0] at m1 t1
    have eH : setH H ((refsL cs).map (fun i => (i, (⟨(H i).g + 1, none⟩ : Cel))) ++ [nw H (bid d 0) (.own e k ds)]) = up (setH H ((refsL cs).map fun j => (j, ⟨(H j).g + 1, none⟩))) (bid d 0) ⟨(H (bid d 0)).g + 1, some (.own e k ds)⟩ := by rw [setHapp]; rfl
    refine .inl ⟨_, _, run_v hrun, φ', by rw [eH]; exact m1, by rw [eH]; exact t0.trans t1, ?_⟩
    rw [eH]
    have := ref_own (φ := φ') (H := up (setH H ((refsL cs).map fun j => (j, ⟨(H j).g + 1, none⟩))) (bid d 0) ⟨(H (bid d 0)).g + 1, some (.own e k ds)⟩) (i := bid d 0) (k := k) (e := e) (n := n) p1 (by rw [up_same]) hk0 hdl (Nat.le_refl _)
    rw [up_same] at this
    exact this
   ·cases he
  ·cases he
 ·cases he
theorem does_slA {t e : TypeId} {len k : Nat} {x : Operand} {lo hi : Option Operand} {p : PV} {ups : Ups} (hm : Mem E m φ0 w0 φ H w) (hρ : Reps E φ H w ρ ev) (hu : P.underlying t = some (.array len e)) (hk : sz? P e = some k)
  (he : peval γ H d ρ (.slA len k x lo hi) = some (p, ups)) : Does P E m φ0 w0 φ H w p ups (do pure (.value (← Instr.sliceAt t (ev x) (lo.map ev) (hi.map ev) none))) := by
 have hx := hρ x
 simp only [peval] at he
 split at he
 ·rename_i i g e1
  rw [e1] at hx
  split at he
  ·rename_i cs hl
   split at he
   ·rename_i ds l h hds hlo hhi
    split at he
    ·rename_i hh
     obtain ⟨h8, hk0, hdl, hlen, h1, h2⟩ := hh
     cases he
     obtain ⟨hg, hb⟩ := hm.blk_at hl
     obtain ⟨b, c, hp, hv, us, r1, r2⟩ := hm.cells (fun cs' h => by cases h; exact okBox_allD hds) hl hx
     obtain ⟨r3, r4, _⟩ := allD_rep hds r1
     have hrun : (Instr.sliceAt t (ev x) (lo.map ev) (hi.map ev) none).run P w = .ok (.slice (some (if len = l then ⟨b, 0, none⟩ else (⟨b, 0, none⟩ : Addr).add (l * k))) (h - l) (len - l)) w := by
      rw [hv]
      unfold Instr.sliceAt
      simp only [Sem.run_bind, run_underlying hu, Result.andThen_ok, Instr.sureAddr, Sem.run_pure, run_bounds hρ hlo hhi h1 h2 (Nat.le_refl _), run_sizeT hk]
     have hup := hm.upd (φ' := up φ i (.nil none)) (H' := up H i ⟨g + 1, none⟩) (w' := w) (fun j => j = i) (fun j hj => ⟨up_ne _ _ _ _ hj, up_ne _ _ _ _ hj⟩) (fun j hj => by subst hj; rw [up_same, hg]; exact .inl (Nat.lt_succ_self _)) (fun _ _ _ => rfl)
      (fun j b' c' hj hp => by subst hj; rw [up_same] at hp; cases hp) (fun a a' _ _ _ h1 h2 _ _ => h1.trans h2.symm) (fun j hj hjm => by have := hm.m8; omega) (Nat.le_refl _) ⟨rfl, rfl, rfl⟩ (fun _ j b' hj hb' => by subst hj; rw [up_same] at hb'; cases hb')
     have hX : ¬ Xof E (up φ i (.nil none)) b := by
      rintro (hx | ⟨j, c', hx⟩)
      ·have := hm.ext _ hx
       rcases (hm.lt i b c hp).2 with h | ⟨h, _⟩
       ·omega
       ·have := hm.m8; omega
      ·by_cases hji : j = i
       ·subst hji; rw [up_same] at hx; cases hx
       ·rw [up_ne _ _ _ _ hji] at hx
        exact hji (hm.inj _ _ _ _ _ hx hp)
     refine .inl ⟨_, w, run_v hrun, _, hup.1, hup.2, ⟨_, _, rfl, by omega, by unfold maxLen; omega, (fun h => by cases h), ?_⟩⟩
     by_cases hll : len = l
     ·have : h = l := by omega
      subst this
      exact .inl (List.drop_eq_nil_of_le (by simp; omega))
     ·rw [if_neg hll]
      refine .inr ⟨b, l * k, by simp [add_off], hX, (hm.lt i b c hp).1, ?_⟩
      have hc : RepC (Xof E (up φ i (.nil none))) w ds b 0 := RepC.of fun j y hy => by
       obtain ⟨u, hu1, hu2⟩ := r3.d_get j y hy
       exact ⟨u, by rw [Nat.zero_add]; exact r2 j u hu1, RepD.keep hup.2.ch y u hu2⟩
      have := (hc.take (h * k)).drop (l * k)
      simpa using this
    ·cases he
   ·cases he
  ·cases he
 ·cases he
theorem does_mks {t e : TypeId} {it : TypeInfo} {z : List Value} {x y : Operand} {p : PV} {ups : Ups} (hm : Mem E m φ0 w0 φ H w) (hρ : Reps E φ H w ρ ev) (hu : P.underlying t = some (.slice e)) (hi : P.info? e = some it) (hz : zeroOf P e it.size = some z) (h0 : 0 < it.size) (h1 : 1 ≤ it.bytes)
  (he : peval γ H d ρ (.mks e it.size it.bytes (rle z) x y) = some (p, ups)) : Does P E m φ0 w0 φ H w p ups (do pure (.value (← Instr.makeSlice t (ev x) (ev y)))) := by
 simp only [peval] at he
 split at he
 ·rename_i k1 a k2 b ds h2 h3 hds
  split at he
  ·rename_i hh
   obtain ⟨ha, hab, hby⟩ := hh
   cases he
   rw [int_of h2 (hρ x), int_of h3 (hρ y)]
   obtain ⟨i2, v, hi2, hv, hvz, hzl⟩ := zero_info hz
   rw [hi] at hi2; cases hi2
   have hzs : v.cells.size = it.size := by rw [← hzl, ← hvz]; simp
   have hbig : b.toNat ≤ 140737488355328 := Nat.le_trans (by have := Nat.mul_le_mul_left b.toNat h1; simpa using this) hby
   have hr := run_make (P := P) w t e it v hu hi hv k1 k2 a b ha hab (by
    have h : ((it.bytes * b.toNat : Nat) : Int) ≤ 281474976710656 := by rw [Nat.mul_comm]; omega
    rw [Int.natCast_mul, Int.toNat_of_nonneg (by omega)] at h
    exact h) (by omega)
   have hcons : RepL (Xof E φ) w (RefAt φ H) (z.map ofConst) z := RepL.consts z
   rw [unrle_rle] at hds
   obtain ⟨r1, r2, _⟩ := allD_rep hds hcons
   have hdl : ds.length = it.size := by rw [r2, List.length_map, hzl]
   have hrep : ∀ n : Nat, RepL (Xof E φ) w (RefAt φ H) (((List.replicate n ds).flatten).map .d) ((List.replicate n z).flatten) := by
    intro n
    induction n with
    | zero => exact rfl
    | succ n ih => rw [List.replicate_succ, List.replicate_succ, List.flatten_cons, List.flatten_cons, List.map_append]; exact r1.app ih
   have hfl : ∀ n : Nat, ((List.replicate n ds).flatten).length = n * it.size := by
    intro n
    induction n with
    | zero => simp
    | succ n ih => rw [List.replicate_succ, List.flatten_cons, List.length_append, ih, hdl, Nat.succ_mul, Nat.add_comm]
   have hcell : ∀ n : Nat, (madeCells v.cells (n * it.size)).toList = (List.replicate n z).flatten := by
    intro n
    rw [← hvz]
    unfold madeCells
    rw [← hzs]
    have hp : 0 < v.cells.size := by omega
    induction n with
    | zero => simp
    | succ n ih =>
     rw [List.replicate_succ', List.flatten_append, ← ih]
     simp only [Array.toList_map, Array.toList_range, List.flatten_cons, List.flatten_nil, List.append_nil]
     rw [Nat.succ_mul, List.range_add, List.map_append]
     congr 1
     apply List.ext_getElem?
     intro j
     by_cases hj : j < v.cells.size
     ·simp only [List.map_map, List.getElem?_map, List.getElem?_range hj, Option.map_some, Function.comp]
      have e1 : (n * v.cells.size + j) % v.cells.size = j := by rw [Nat.mul_add_mod_self_right]; exact Nat.mod_eq_of_lt hj
      rw [e1]
      simp [hj]
     ·rw [List.getElem?_eq_none (by simp; omega), List.getElem?_eq_none (by simp; omega)]
   have hle : a.toNat ≤ b.toNat := by omega
   obtain ⟨φ', p1, p2, m1, t1⟩ := hm.new (bid d 0) (by unfold bid; omega) (.own e it.size ((List.replicate a.toNat ds).flatten)) (madeCells v.cells (b.toNat * it.size)) e b.toNat (.inr ⟨it.size, _, rfl, h0, by
     rw [← Array.length_toList, hcell]
     clear hr hab ha hby hle hbig
     generalize b.toNat = n
     induction n with
     | zero => simp
     | succ n ih => rw [List.replicate_succ, List.flatten_cons, List.length_append, ih, hzl, Nat.succ_mul, Nat.add_comm], by unfold maxLen; omega, ⟨a.toNat, hfl _⟩, by rw [hfl]; exact Nat.mul_le_mul_right _ hle, by
     rw [hfl, hcell]
     have e1 : (List.replicate b.toNat z).flatten = (List.replicate a.toNat z).flatten ++ (List.replicate (b.toNat - a.toNat) z).flatten := by
      rw [← List.flatten_append, List.replicate_append_replicate]
      congr 2; omega
     have hzf : ((List.replicate a.toNat z).flatten).length = a.toNat * it.size := by
      have := (hrep a.toNat).len
      rw [List.length_map, hfl] at this
      exact this.symm
     rw [e1, List.take_left' hzf]
     exact hrep a.toNat⟩)
   refine .inl ⟨_, _, run_v hr, φ', m1, t1, ?_⟩
   have := ref_own (φ := φ') (H := up H (bid d 0) ⟨(H (bid d 0)).g + 1, some (.own e it.size ((List.replicate a.toNat ds).flatten))⟩) (i := bid d 0) (k := it.size) (e := e) (n := a.toNat) p1 (by rw [up_same]) h0 (hfl _) hle
   rw [up_same] at this
   exact this
  ·cases he
 ·cases he
theorem run_copyS {t t2 ty e : TypeId} {k : Nat} (hu : P.underlying t = some (.slice e)) (hk : sz? P e = some k) (a : Option Addr) (n c : Nat) (x : Option Addr) (m cx : Nat) (us : List Value) (hl : us.length = min m n * k) (hx : x = none → us = []) (hc : ∀ ad, x = some ad → ∀ j u, us[j]? = some u → w.cell? (ad.add j) = some u) {w' : World} (hs : ∀ ad, a = some ad → (storeCells ad us).run P w = .ok () w') (hn : a = none → w' = w) :
  (Builtin.copy_ #[t, t2] ty #[.slice a n c, .slice x m cx]).run P w = .ok (.int .i64 (min m n : Nat)) w' := by
 have hf : (Builtin.firstCells k (Nat.min m n) (.slice x m cx)).run P w = .ok us.toArray w := by
  cases x with
  | none =>
   have := hx rfl
   subst this
   exact run_firstCells_none w _ _ _ _
  | some ad => exact run_firstCells_some w _ _ ad m cx us hl (hc ad rfl)
 cases a with
 | none =>
  have := hn rfl
  subst this
  simp [Builtin.copy_, run_underlying hu, Builtin.lenOf, run_sizeT hk, hf, goInt]
 | some ad =>
  simp [Builtin.copy_, run_underlying hu, Builtin.lenOf, run_sizeT hk, hf, hs ad rfl, goInt]
theorem does_cpy {t t2 ty e : TypeId} {k : Nat} {x y : Operand} {p : PV} {ups : Ups} (hm : Mem E m φ0 w0 φ H w) (hρ : Reps E φ H w ρ ev) (hu : P.underlying t = some (.slice e)) (hk : sz? P e = some k) (hk0 : 0 < k)
  (he : peval γ H d ρ (.cpy k x y) = some (p, ups)) : Does P E m φ0 w0 φ H w p ups (do pure (.value (← Builtin.copy_ #[t, t2] ty #[ev x, ev y]))) := by
 have hx := hρ x
 simp only [peval] at he
 split at he
 ·rename_i i g l n q ys e1 hq
  rw [e1] at hx
  split at he
  ·rename_i e' k' cs hl
   split at he
   ·rename_i hh
    obtain ⟨rfl, hys⟩ := hh
    cases he
    obtain ⟨hg, hb⟩ := hm.blk_at hl
    obtain ⟨ax, cx, us, hv, hqc, _, hnx, hus, hxa⟩ := hm.list_at hq (hρ y)
    obtain ⟨hsl, hge, hx2⟩ := hx
    obtain ⟨_, hlen, hp⟩ := hx2 hg e' k' cs hb
    have husl := hus.len
    simp only [List.length_map] at husl
    have hmin : min q n * k' ≤ q * k' := Nat.mul_le_mul_right _ (Nat.min_le_left _ _)
    have hl1 : (us.take (min q n * k')).length = min q n * k' := by rw [List.length_take, ← husl, hys]; omega
    have hnone : ax = none → us.take (min q n * k') = [] := by
     intro h
     have h0 := hnx h
     have : q = 0 := by omega
     subst this
     simp
    have hcells : ∀ ad, ax = some ad → ∀ j u, (us.take (min q n * k'))[j]? = some u → w.cell? (ad.add j) = some u := by
     intro ad had j u hu
     rw [List.getElem?_take] at hu
     split at hu
     ·rcases hxa with h0 | ⟨b, o, e2, _, hc⟩
      ·subst h0
       have : us = [] := List.eq_nil_of_length_eq_zero (by simpa using husl.symm)
       rw [this] at hu; simp at hu
      ·rw [had] at e2; cases e2
       rw [add_off]; exact hc j u hu
     ·cases hu
    rw [hv]
    have hnk : n * k' ≤ cs.length - l * k' := by rw [Nat.add_mul] at hlen; omega
    by_cases hz : min q n * k' = 0
    ·have he0 : ys.take (min q n * k') = [] := by rw [hz]; simp
     have hu0 : us.take (min q n * k') = [] := by rw [hz]; simp
     have hsp : splice cs (l * k') (ys.take (min q n * k')) = cs := by rw [he0]; simp [splice]
     obtain ⟨a, n', c, hxv⟩ := hsl
     have hn' : n' = n := by
      cases hφ : φ i with
      | nil a' => rw [hφ] at hp; obtain ⟨hv', _, rfl⟩ := hp; rw [hxv] at hv'; cases hv'; rfl
      | blk b c' => rw [hφ] at hp; obtain ⟨a', c2, hv', _⟩ := hp; rw [hxv] at hv'; cases hv'; rfl
     subst hn'
     rw [hxv]
     have hr := run_copyS (P := P) (w := w) (t2 := t2) (ty := ty) hu hk a n' c ax q cx _ hl1 hnone hcells (w' := w) (fun ad _ => by rw [hu0]; rfl) (fun _ => rfl)
     have hup := hm.upd (φ' := φ) (H' := up H i ⟨g, some (.own e' k' cs)⟩) (w' := w) (fun j => j = i) (fun j hj => ⟨rfl, up_ne _ _ _ _ hj⟩) (fun j hj => by subst hj; rw [up_same]; exact .inr ⟨rfl, hg, by rw [hb]; exact ⟨rfl, rfl, rfl⟩⟩) (fun _ _ _ => rfl)
      (fun j b' c' hj hp => ⟨(hm.lt j b' c' hp).1, .inr ⟨c', hp⟩⟩) (fun a a' _ _ _ h1 h2 _ _ => h1.trans h2.symm) (fun j hj _ => by subst hj; rw [up_same, hb]; exact ⟨fun b0 hk => by cases b0 <;> exact hk, .inl rfl⟩) (Nat.le_refl _) ⟨rfl, rfl, rfl⟩ (fun tr j b' hj hb' => by
       subst hj
       rw [up_same] at hb'
       simp only [Option.some.injEq] at hb'
       subst hb'
       have q := hm.rep j _ hb
       generalize φ j = pj at *
       cases pj with
       | nil a => exact q
       | blk b c =>
        obtain ⟨q0, cur, xs, r1, r2, r3, r4, r5, r6, r7⟩ := q
        exact ⟨q0, cur, xs, r1, r2, r3, r4, r5, r6, tr.l r7⟩)
     rw [hsp]
     exact .inl ⟨_, w, run_v hr, φ, hup.1, hup.2, rfl⟩
    ·have hyl : (ys.take (min q n * k')).length = min q n * k' := by rw [List.length_take, hys]; omega
     have hnew : RepL (Xof E φ) w (RefAt φ H) ((ys.take (min q n * k')).map .d) (us.take (min q n * k')) := by rw [List.map_take]; exact hus.take _
     have h1 : ∀ u ∈ us.take (min q n * k'), u.oneCell' = true := by
      intro u hu
      obtain ⟨j, hj, rfl⟩ := List.getElem_of_mem (List.mem_of_mem_take hu)
      obtain ⟨u', r1, r2⟩ := hus.d_get j ys[j] (by simp [husl, hj])
      rw [List.getElem?_eq_getElem hj] at r1; cases r1
      exact RepD.one r2
     have hmn : min q n * k' ≤ n * k' := Nat.mul_le_mul_right _ (Nat.min_le_right _ _)
     obtain ⟨b, c, hφ, w', hst, m1, t1⟩ := hm.set_ hb hnew h1 (by rw [List.length_map, hyl]; omega) (l * k') (.inr ⟨e', k', cs, ys.take (min q n * k'), rfl, rfl, rfl, by rw [List.length_map, hyl]; rw [Nat.add_mul] at hlen; omega⟩) P
     rw [hφ] at hp
     obtain ⟨a, c', hxv, _, _, h3, _, _⟩ := hp
     have hn0 : 0 < n := by
      rcases Nat.eq_zero_or_pos n with h | h
      ·subst h; simp at hz
      ·exact h
     rw [hxv, h3 hn0]
     have hr := run_copyS (P := P) (w := w) (t2 := t2) (ty := ty) hu hk (some ⟨b, l * k', none⟩) n c' ax q cx _ hl1 hnone hcells (w' := w') (fun ad had => by cases had; exact hst) (fun h => by cases h)
     refine .inl ⟨_, w', run_v hr, φ, ?_, ?_, rfl⟩
     ·show Mem _ _ _ _ _ (up H i _) _; rw [hg]; exact m1
     ·show Tr _ _ _ _ _ (up H i _) _; rw [hg]; exact t1
   ·cases he
  ·cases he
 ·cases he
theorem run_clear {t ty e : TypeId} {it : TypeInfo} {v : Value} (hu : P.underlying t = some (.slice e)) (hi : P.info? e = some it) (hz : it.zero = some v) (ad : Addr) (n c : Nat) (hn : 0 < n) {w' : World} (hs : (storeCells ad (Builtin.zeroCells v.cells n).toList).run P w = .ok () w') :
  (Builtin.clear_ #[t] ty #[.slice (some ad) n c]).run P w = .ok (.tuple #[]) w' := by
 obtain ⟨n, rfl⟩ : ∃ m, n = m + 1 := ⟨n - 1, by omega⟩
 simp [Builtin.clear_, run_underlying hu, zeroValue, typeInfo, hi, hz, hs]
theorem run_clear0 {t ty e : TypeId} (hu : P.underlying t = some (.slice e)) (a : Option Addr) (c : Nat) : (Builtin.clear_ #[t] ty #[.slice a 0 c]).run P w = .ok (.tuple #[]) w := by
 cases a <;> simp [Builtin.clear_, run_underlying hu]
theorem zero_cells {v : Value} {z : List Value} {k : Nat} (hvz : v.cells.toList = z) (hk : v.cells.size = k) (h0 : 0 < k) : ∀ n : Nat, (Builtin.zeroCells v.cells n).toList = (List.replicate n z).flatten := by
 intro n
 rw [← hvz]
 unfold Builtin.zeroCells
 induction n with
 | zero => simp
 | succ n ih =>
  rw [List.replicate_succ', List.flatten_append, ← ih]
  simp only [Array.toList_map, Array.toList_range, List.flatten_cons, List.flatten_nil, List.append_nil]
  rw [Nat.succ_mul, List.range_add, List.map_append]
  congr 1
  apply List.ext_getElem?
  intro j
  by_cases hj : j < v.cells.size
  ·simp only [List.map_map, List.getElem?_map, List.getElem?_range hj, Option.map_some, Function.comp]
   have e1 : (n * v.cells.size + j) % v.cells.size = j := by rw [Nat.mul_add_mod_self_right]; exact Nat.mod_eq_of_lt hj
   rw [e1]
   simp [hj]
  ·rw [List.getElem?_eq_none (by simp; omega), List.getElem?_eq_none (by simp; omega)]
theorem does_clr {t ty e : TypeId} {it : TypeInfo} {z : List Value} {x : Operand} {p : PV} {ups : Ups} (hm : Mem E m φ0 w0 φ H w) (hρ : Reps E φ H w ρ ev) (hu : P.underlying t = some (.slice e)) (hi : P.info? e = some it) (hz : zeroOf P e it.size = some z) (h0 : 0 < it.size)
  (he : peval γ H d ρ (.clr it.size (rle z) x) = some (p, ups)) : Does P E m φ0 w0 φ H w p ups (do pure (.value (← Builtin.clear_ #[t] ty #[ev x]))) := by
 have hx := hρ x
 simp only [peval] at he
 split at he
 ·rename_i ds i g l n hds e1
  rw [e1] at hx
  split at he
  ·rename_i e' k' cs hl
   split at he
   ·rename_i hk
    subst hk
    cases he
    obtain ⟨i2, v, hi2, hv, hvz, hzl⟩ := zero_info hz
    rw [hi] at hi2; cases hi2
    have hzs : v.cells.size = it.size := by rw [← hzl, ← hvz]; simp
    have hcons : RepL (Xof E φ) w (RefAt φ H) (z.map ofConst) z := RepL.consts z
    rw [unrle_rle] at hds
    obtain ⟨r1, r2, _⟩ := allD_rep hds hcons
    have hdl : ds.length = it.size := by rw [r2, List.length_map, hzl]
    have hrep : ∀ n : Nat, RepL (Xof E φ) w (RefAt φ H) (((List.replicate n ds).flatten).map .d) ((List.replicate n z).flatten) := by
     intro n
     induction n with
     | zero => exact rfl
     | succ n ih => rw [List.replicate_succ, List.replicate_succ, List.flatten_cons, List.flatten_cons, List.map_append]; exact r1.app ih
    have hfl : ∀ n : Nat, ((List.replicate n ds).flatten).length = n * it.size := by
     intro n
     induction n with
     | zero => simp
     | succ n ih => rw [List.replicate_succ, List.flatten_cons, List.length_append, ih, hdl, Nat.succ_mul, Nat.add_comm]
    obtain ⟨hg, hb⟩ := hm.blk_at hl
    obtain ⟨hsl, hge, hx2⟩ := hx
    obtain ⟨_, hlen, hp⟩ := hx2 hg e' it.size cs hb
    by_cases hn : n = 0
    ·subst hn
     have hsp : splice cs (l * it.size) ((List.replicate 0 ds).flatten) = cs := by simp [splice]
     obtain ⟨a, n', c, hxv⟩ := hsl
     have hn' : n' = 0 := by
      cases hφ : φ i with
      | nil a' => rw [hφ] at hp; obtain ⟨hv', _, _⟩ := hp; rw [hxv] at hv'; cases hv'; rfl
      | blk b c' => rw [hφ] at hp; obtain ⟨a', c2, hv', _⟩ := hp; rw [hxv] at hv'; cases hv'; rfl
     subst hn'
     rw [hxv]
     have hup := hm.upd (φ' := φ) (H' := up H i ⟨g, some (.own e' it.size cs)⟩) (w' := w) (fun j => j = i) (fun j hj => ⟨rfl, up_ne _ _ _ _ hj⟩) (fun j hj => by subst hj; rw [up_same]; exact .inr ⟨rfl, hg, by rw [hb]; exact ⟨rfl, rfl, rfl⟩⟩) (fun _ _ _ => rfl)
      (fun j b' c' hj hp => ⟨(hm.lt j b' c' hp).1, .inr ⟨c', hp⟩⟩) (fun a a' _ _ _ h1 h2 _ _ => h1.trans h2.symm) (fun j hj _ => by subst hj; rw [up_same, hb]; exact ⟨fun b0 hk => by cases b0 <;> exact hk, .inl rfl⟩) (Nat.le_refl _) ⟨rfl, rfl, rfl⟩ (fun tr j b' hj hb' => by
       subst hj
       rw [up_same] at hb'
       simp only [Option.some.injEq] at hb'
       subst hb'
       have q := hm.rep j _ hb
       generalize φ j = pj at *
       cases pj with
       | nil a => exact q
       | blk b c =>
        obtain ⟨q0, cur, xs, r1, r2, r3, r4, r5, r6, r7⟩ := q
        exact ⟨q0, cur, xs, r1, r2, r3, r4, r5, r6, tr.l r7⟩)
     rw [hsp]
     exact .inl ⟨_, w, run_v (run_clear0 hu a c), φ, hup.1, hup.2, ⟨#[], rfl, rfl⟩⟩
    ·have hn0 : 0 < n := by omega
     have h1 : ∀ u ∈ (List.replicate n z).flatten, u.oneCell' = true := by
      intro u hu
      obtain ⟨j, hj, rfl⟩ := List.getElem_of_mem hu
      have hz2 := (hrep n).len
      rw [List.length_map] at hz2
      obtain ⟨u', r1, r2⟩ := (hrep n).d_get j ((List.replicate n ds).flatten[j]'(by omega)) (by rw [List.getElem?_eq_getElem])
      rw [List.getElem?_eq_getElem hj] at r1; cases r1
      exact RepD.one r2
     obtain ⟨b, c, hφ, w', hst, m1, t1⟩ := hm.set_ hb (hrep n) h1 (by rw [List.length_map, hfl]; exact Nat.mul_pos hn0 h0) (l * it.size) (.inr ⟨e', it.size, cs, (List.replicate n ds).flatten, rfl, rfl, rfl, by rw [List.length_map, hfl]; rw [Nat.add_mul] at hlen; omega⟩) P
     rw [hφ] at hp
     obtain ⟨a, c', hxv, _, _, h3, _, _⟩ := hp
     rw [hxv, h3 hn0]
     have hr := run_clear (P := P) (w := w) (ty := ty) hu hi hv ⟨b, l * it.size, none⟩ n c' hn0 (w' := w') (by rw [zero_cells hvz hzs h0]; exact hst)
     refine .inl ⟨_, w', run_v hr, φ, ?_, ?_, ⟨#[], rfl, rfl⟩⟩
     ·show Mem _ _ _ _ _ (up H i _) _; rw [hg]; exact m1
     ·show Tr _ _ _ _ _ (up H i _) _; rw [hg]; exact t1
   ·cases he
  ·cases he
 ·cases he
theorem does_app {t tx ty e : TypeId} {it : TypeInfo} {z : Value} {x y : Operand} {p : PV} {ups : Ups} (hm : Mem E m φ0 w0 φ H w) (hρ : Reps E φ H w ρ ev) (hu : P.underlying t = some (.slice e)) (hi : P.info? e = some it) (hz : it.zero = some z)
  (hzs : z.cells.size = it.size) (h0 : 0 < it.size) (h1 : 1 ≤ it.bytes) (hk : (∃ e', P.underlying tx = some (.slice e')) ∨ P.underlying tx = some .string)
  (he : peval γ H d ρ (.app e it.size it.bytes x y) = some (p, ups)) : Does P E m φ0 w0 φ H w p ups (do pure (.value (← Builtin.append_ #[t, tx] ty #[ev x, ev y]))) := by
 have hx := hρ x
 have hy := hρ y
 simp only [peval] at he
 split at he
 ·cases he
 ·rename_i q ys hq
  split at he
  ·rename_i hys
   split at he
   ·rename_i i g n e1
    rw [e1] at hx
    split at he
    ·rename_i e' k' cs hl
     split at he
     ·rename_i hh
      obtain ⟨rfl, rfl, hcs, hb⟩ := hh
      cases he
      obtain ⟨hg, hbk⟩ := hm.blk_at hl
      subst hg
      obtain ⟨v', w', φ', hr, m1, t1, r1⟩ := hm.app P (ty := ty) hbk hcs hys hb h1 hu hi hz rfl rfl hzs hx (hm.src_at hk h0 hq hys hy)
      exact .inl ⟨v', w', run_v hr, φ', m1, t1, r1⟩
     ·cases he
    ·cases he
   ·rename_i e1
    rw [e1] at hx
    obtain ⟨a, hv⟩ := hx
    split at he
    ·rename_i hb; cases he
     obtain ⟨φ1, p1, m1, t1⟩ := hm.newNil (bid d 0) (by unfold bid; omega) e it.size h0 a
     have hr1 := ref_nil (φ := φ1) (H := up H (bid d 0) ⟨(H (bid d 0)).g + 1, some (.own e it.size [])⟩) (i := bid d 0) (k := it.size) (e := e) p1 (by rw [up_same]) h0
     obtain ⟨us, hus, hsrc⟩ := hm.src_at hk h0 hq hys hy
     have hq1 : ∃ us, RepL (Xof E φ1) w (RefAt φ1 (up H (bid d 0) ⟨(H (bid d 0)).g + 1, some (.own e it.size [])⟩)) (ys.map .d) us ∧ Src P it.size tx (ev y) q us w := ⟨us, t1.l hus, hsrc⟩
     obtain ⟨v', w', φ', hr, m2, t2, r2⟩ := m1.app P (ty := ty) (n := 0) (cs := []) (by rw [up_same]) (by simp) hys (by rw [Nat.zero_add]; exact hb) h1 hu hi hz rfl rfl hzs hr1 hq1
     simp only [up_same, up_up, List.nil_append, Nat.zero_add] at m2 t2 r2
     rw [hv]
     exact .inl ⟨v', w', run_v hr, φ', m2, t1.trans t2, r2⟩
    ·cases he
   ·cases he
  ·cases he

theorem RepD.free {X Y : Nat → Prop} {w : World} {x : PD} {v : Value} (h : freeV (.d x) = true) (q : RepD X w x v) : RepD Y w x v := by
 cases x with
 | sl n cs =>
  obtain ⟨a, c, h1, h2, h3, h4, h5⟩ := q
  simp [freeV] at h
  exact ⟨a, c, h1, h2, h3, h4, .inl h⟩
 | _ => exact q
theorem RepD.sub {X Y : Nat → Prop} {w : World} (h : ∀ b, b < w.heap.size → ¬ X b → ¬ Y b) {x : PD} {v : Value} (q : RepD X w x v) : RepD Y w x v :=
 RepD.keep ⟨Nat.le_refl _, fun b hb hx => ⟨rfl, h b hb hx⟩⟩ x v q
theorem RepC.sub {X Y : Nat → Prop} {w : World} (h : ∀ b, b < w.heap.size → ¬ X b → ¬ Y b) {cs : List PD} {b o : Nat} (hx : ¬ X b) (hl : b < w.heap.size) (q : RepC X w cs b o) : RepC Y w cs b o :=
 RepC.keep ⟨Nat.le_refl _, fun b hb hx => ⟨rfl, h b hb hx⟩⟩ cs b o hx hl q
def Lent (E : Nat → Prop) (φ : Nat → Phys) (ids : List Nat) (b : Nat) : Prop := Xof E φ b ∧ ∀ i ∈ ids, ∀ c, φ i ≠ .blk b c
theorem RepC.of_list {X Y : Nat → Prop} {R : Ref → Value → Prop} (hXY : ∀ b, b < w.heap.size → ¬ X b → ¬ Y b) {cs : List PD} {us : List Value} {b o0 : Nat} (hr : RepL X w R (cs.map .d) us) (hc : ∀ j u, us[j]? = some u → w.cell? ⟨b, o0 + j, none⟩ = some u) : RepC Y w cs b o0 :=
 RepC.of fun j x hx => by
  obtain ⟨u, h1, h2⟩ := hr.d_get j x hx
  exact ⟨u, hc j u h1, h2.sub hXY⟩
theorem okBox_okU {cs : List PV} (h : cs.all okU = true) : okBox cs = true := by
 unfold okBox
 split
 ·simp [okU] at h
 ·simp [okU] at h
 ·simp [okU] at h
 ·simp [okU] at h
 ·rfl
theorem repU : ∀ (cs : List PV) (us : List Value), cs.all okU = true → RepL (Xof E φ) w (RefAt φ H) cs us → RepL (Xof E φ) w (RefAt φ H) ((cs.map fun p => (toD p).getD .un).map .d) us
 | [], _, _, h => h
 | p :: ps, us, hk, ⟨v, r, e, q1, q2⟩ => by
  simp only [List.all_cons, Bool.and_eq_true] at hk
  refine ⟨v, r, e, ?_, repU ps r hk.2 q2⟩
  show RepD (Xof E φ) w ((toD p).getD .un) v
  cases hp : toD p with
  | some x => exact toD_rep hp q1
  | none =>
   show v.oneCell' = true
   cases p with
   | un => simp [okU] at hk
   | tup _ => simp [okU] at hk
   | d x => simp [toD] at hp
   | nil => simp [toD] at hp
   | slz => simp [toD] at hp
   | agg _ => simp [okU] at hk
   | rptr _ => obtain ⟨_, _, e, _⟩ := q1; subst e; rfl
   | fn => obtain ⟨_, e, _⟩ := q1; subst e; rfl
   | r x => cases x with
    | own => exact q1.elim
    | ptr => obtain ⟨⟨_, e⟩, _⟩ := q1; subst e; rfl
    | msl => obtain ⟨⟨_, _, _, e⟩, _⟩ := q1; subst e; rfl
mutual
theorem lendV_rep (hm : Mem E m φ0 w0 φ H w) (ids : List Nat) : ∀ (p p' : PV) (v : Value), lendV H p = some p' → (∀ i ∈ refsV p, i ∈ ids) → RepV (Xof E φ) w (RefAt φ H) p v → RepV (Lent E φ ids) w (fun _ _ => False) p' v
 | .d x, p', v, h, _, q => by
  simp only [lendV, Option.some.injEq] at h; subst h
  exact RepD.sub (fun b _ hx hy => hx hy.1) q
 | .agg cs, p', v, h, hi, q => by
  simp only [lendV, Option.map_eq_some_iff] at h
  obtain ⟨l, h1, rfl⟩ := h
  obtain ⟨vs, hv, q⟩ := q
  exact ⟨vs, hv, lendL_rep hm ids cs l _ h1 hi q⟩
 | .fn f cs, p', v, h, hi, q => by
  simp only [lendV, Option.map_eq_some_iff] at h
  obtain ⟨l, h1, rfl⟩ := h
  obtain ⟨vs, hv, q⟩ := q
  exact ⟨vs, hv, lendL_rep hm ids cs l _ h1 hi q⟩
 | .rptr cs, p', v, h, _, q => by
  simp only [lendV, Option.some.injEq] at h; subst h
  obtain ⟨b, o, hv, h1, h2, h3⟩ := q
  exact ⟨b, o, hv, fun hy => h1 hy.1, h2, h3.sub (fun b _ hx hy => hx hy.1) h1 h2⟩
 | .nil, p', v, h, _, q => by
  simp only [lendV, Option.some.injEq] at h; subst h
  obtain ⟨a, rfl⟩ := q
  exact ⟨a, 0, rfl, Nat.le_refl _, by simp, fun _ => rfl, .inl rfl⟩
 | .slz z n cs, p', v, h, _, q => by
  simp only [lendV, Option.some.injEq] at h; subst h
  exact RepD.sub (fun b _ hx hy => hx hy.1) q.1
 | .un, p', v, h, _, q => by
  simp only [lendV, Option.some.injEq] at h; subst h
  trivial
 | .tup _, _, _, h, _, _ => by simp [lendV] at h
 | .r (.own ..), _, _, h, _, _ => by simp [lendV] at h
 | .r (.ptr i g o), p', v, h, hi, q => by
  simp only [lendV] at h
  split at h
  ·rename_i b hl
   simp only [Option.map_eq_some_iff] at h
   obtain ⟨cs, hcs, rfl⟩ := h
   obtain ⟨x, c, hp, hv, us, r1, r2⟩ := hm.cells (fun cs' h => by
    subst h
    simp only [blkU] at hcs
    split at hcs
    ·rename_i hk; exact okBox_okU hk
    ·cases hcs) hl q
   have hx : ¬ Lent E φ ids x := fun hy => hy.2 i (hi i (by simp [refsV])) c hp
   have hr : RepL (Xof E φ) w (RefAt φ H) (cs.map .d) us := by
    cases b with
    | box l =>
     simp only [blkU] at hcs
     split at hcs
     ·rename_i hk; cases hcs; exact repU l us hk r1
     ·cases hcs
    | own e k l => simp only [blkU, Option.some.injEq] at hcs; subst hcs; exact r1
   refine ⟨x, o, hv, hx, (hm.lt i x c hp).1, ?_⟩
   have := RepC.of_list (o0 := 0) (Y := Lent E φ ids) (fun b _ hx hy => hx hy.1) hr (fun j u hu => by rw [Nat.zero_add]; exact r2 j u hu)
   simpa using this.drop o
  ·cases h
 | .r (.msl i g l n), p', v, h, hi, q => by
  simp only [lendV] at h
  split at h
  ·rename_i e k cs hl
   simp only [Option.some.injEq] at h; subst h
   obtain ⟨hg, hb⟩ := hm.blk_at hl
   have ha : asL H (.r (.msl i g l n)) = some (n, (cs.drop (l * k)).take (n * k)) := by simp only [asL, hl]
   obtain ⟨a, c, us, hv, h1, h2, h3, h4, h5⟩ := hm.list_at ha q
   refine ⟨a, c, hv, h1, h2, h3, ?_⟩
   rcases h5 with h5 | ⟨b, o, ea, hbs, hc⟩
   ·exact .inl h5
   ·by_cases hne : (cs.drop (l * k)).take (n * k) = []
    ·exact .inl hne
    ·refine .inr ⟨b, o, ea, ?_, hbs, RepC.of_list (fun b _ hx hy => hx hy.1) h4 hc⟩
     obtain ⟨_, _, q2⟩ := q
     obtain ⟨hk, hle, hp⟩ := q2 hg e k cs hb
     intro hy
     cases hφ : φ i with
     | nil a' => rw [hφ] at hp; obtain ⟨_, _, rfl⟩ := hp; exact hne (by simp)
     | blk b1 c1 =>
      rw [hφ] at hp
      obtain ⟨a', c', hv', _, _, h6, _, _⟩ := hp
      have h6 := h6 (by
       rcases Nat.eq_zero_or_pos n with h0 | h0
       ·subst h0; exact absurd (by simp) hne
       ·exact h0)
      rw [hv] at hv'; cases hv'
      rw [h6] at ea; cases ea
      exact hy.2 i (hi i (by simp [refsV])) c1 hφ
  ·cases h
theorem lendL_rep (hm : Mem E m φ0 w0 φ H w) (ids : List Nat) : ∀ (ps ps' : List PV) (vs : List Value), lendL H ps = some ps' → (∀ i ∈ refsL ps, i ∈ ids) → RepL (Xof E φ) w (RefAt φ H) ps vs → RepL (Lent E φ ids) w (fun _ _ => False) ps' vs
 | [], ps', vs, h, _, q => by
  simp only [lendL, Option.some.injEq] at h; subst h; exact q
 | p :: ps, ps', vs, h, hi, ⟨v, r, e, q1, q2⟩ => by
  simp only [lendL] at h
  split at h
  ·rename_i x xs h1 h2
   simp only [Option.some.injEq] at h; subst h
   exact ⟨v, r, e, lendV_rep hm ids p x v h1 (fun i hx => hi i (by simp [refsL, hx])) q1, lendL_rep hm ids ps xs r h2 (fun i hx => hi i (by simp [refsL, hx])) q2⟩
  ·cases h
end
theorem setH_one : ∀ (l : List (Nat × Cel)) (H : Nat → Cel) (i : Nat), (∀ x ∈ l, x.1 ≠ i) → setH H l i = H i
 | [], _, _, _ => rfl
 | x :: l, H, i, h => by
  simp only [setH]
  rw [setH_one l _ i (fun y hy => h y (by simp [hy])), up_ne _ _ _ _ (fun e => h x (by simp) e.symm)]
theorem setH_at : ∀ (l : List (Nat × Blk)) (f : Nat → Nat) (c : Nat × Blk → Cel) (H : Nat → Cel) (x : Nat × Blk), (∀ y ∈ l, ∀ z ∈ l, f y.1 = f z.1 → y.1 = z.1) → distinct (l.map (·.1)) = true → x ∈ l → setH H (l.map fun y => (f y.1, c y)) (f x.1) = c x
 | [], _, _, _, x, _, _, h => by cases h
 | y :: l, f, c, H, x, hf, hd, h => by
  simp only [List.map_cons, distinct, Bool.and_eq_true, List.all_eq_true] at hd
  have hne : ∀ z ∈ l, y.1 ≠ z.1 := fun z hz e => by
   have := hd.1 z.1 (List.mem_map_of_mem hz)
   simp [e] at this
  simp only [List.map_cons, setH]
  rcases List.mem_cons.1 h with rfl | h
  ·rw [setH_one _ _ _ (fun z hz e => by
    obtain ⟨u, hu, rfl⟩ := List.mem_map.1 hz
    exact hne u hu (hf x (by simp) u (by simp [hu]) e.symm)), up_same]
  ·exact setH_at l f c _ x (fun a ha b hb => hf a (by simp [ha]) b (by simp [hb])) hd.2 h
mutual
theorem adV_rep {Y X' : Nat → Prop} {w' : World} {φ1 : Nat → Phys} {bs : List Blk} {β φ' : Nat → Phys} {H' : Nat → Cel} (h2 : ∀ j e k n cs v, RefOut φ1 bs β (.own j e k n cs) v → H' (bid d j) = ⟨(H (bid d j)).g + 1, some (.own e k cs)⟩ → φ' (bid d j) = β j → RefAt φ' H' (.msl (bid d j) ((H (bid d j)).g + 1) 0 n) v) :
  ∀ (p : PV) (v : Value), ((∀ b, b < w'.heap.size → ¬ Y b → ¬ X' b) ∨ freeV p = true) → (∀ x ∈ owns p, H' (bid d x.1) = ⟨(H (bid d x.1)).g + 1, some x.2⟩ ∧ φ' (bid d x.1) = β x.1) → RepV Y w' (RefOut φ1 bs β) p v → RepV X' w' (RefAt φ' H') (adV H d p) v
 | .d x, v, hc, _, q => by
  rcases hc with hc | hc
  ·exact RepD.sub hc q
  ·exact RepD.free hc q
 | .agg cs, v, hc, ho, ⟨vs, e, q⟩ => ⟨vs, e, adL_rep h2 cs _ hc ho q⟩
 | .tup cs, v, hc, ho, ⟨vs, e, q⟩ => ⟨vs, e, adL_rep h2 cs _ hc ho q⟩
 | .fn f cs, v, hc, ho, ⟨vs, e, q⟩ => ⟨vs, e, adL_rep h2 cs _ hc ho q⟩
 | .rptr cs, v, hc, _, ⟨b, o, e, h3, h4, h5⟩ => by
  rcases hc with hc | hc
  ·exact ⟨b, o, e, hc b h4 h3, h4, h5.sub hc h3 h4⟩
  ·simp [freeV] at hc
 | .nil, v, _, _, q => q
 | .slz z n cs, v, hc, _, q => by
  rcases hc with hc | hc
  ·exact ⟨RepD.sub hc q.1, q.2⟩
  ·exact ⟨RepD.free hc q.1, q.2⟩
 | .un, v, _, _, q => trivial
 | .r (.ptr ..), v, _, _, q => trivial
 | .r (.msl ..), v, _, _, q => trivial
 | .r (.own j e k n cs), v, _, ho, q => by
  obtain ⟨h3, h4⟩ := ho (j, .own e k cs) (by simp [owns])
  exact h2 j e k n cs v q h3 h4
theorem adL_rep {Y X' : Nat → Prop} {w' : World} {φ1 : Nat → Phys} {bs : List Blk} {β φ' : Nat → Phys} {H' : Nat → Cel} (h2 : ∀ j e k n cs v, RefOut φ1 bs β (.own j e k n cs) v → H' (bid d j) = ⟨(H (bid d j)).g + 1, some (.own e k cs)⟩ → φ' (bid d j) = β j → RefAt φ' H' (.msl (bid d j) ((H (bid d j)).g + 1) 0 n) v) :
  ∀ (ps : List PV) (vs : List Value), ((∀ b, b < w'.heap.size → ¬ Y b → ¬ X' b) ∨ freeL ps = true) → (∀ x ∈ ownsL ps, H' (bid d x.1) = ⟨(H (bid d x.1)).g + 1, some x.2⟩ ∧ φ' (bid d x.1) = β x.1) → RepL Y w' (RefOut φ1 bs β) ps vs → RepL X' w' (RefAt φ' H') (adL H d ps) vs
 | [], vs, _, _, q => q
 | p :: ps, vs, hc, ho, ⟨v, r, e, q1, q2⟩ => by
  refine ⟨v, r, e, adV_rep h2 p v (hc.imp id fun h => ?_) (fun x hx => ho x (by simp [ownsL, hx])) q1, adL_rep h2 ps r (hc.imp id fun h => ?_) (fun x hx => ho x (by simp [ownsL, hx])) q2⟩
  ·simp only [freeL, Bool.and_eq_true] at h; exact h.1
  ·simp only [freeL, Bool.and_eq_true] at h; exact h.2
end
mutual
theorem free_owns : ∀ (p : PV), freeV p = true → ∀ x ∈ owns p, ∀ e k cs, x.2 = .own e k cs → ∀ c ∈ cs, freeV (.d c) = true
 | .agg cs, h, x, hx => free_ownsL cs h x hx
 | .tup cs, h, x, hx => free_ownsL cs h x hx
 | .fn _ cs, h, x, hx => free_ownsL cs h x hx
 | .d _, _, x, hx => by simp [owns] at hx
 | .rptr _, _, x, hx => by simp [owns] at hx
 | .nil, _, x, hx => by simp [owns] at hx
 | .slz .., _, x, hx => by simp [owns] at hx
 | .un, _, x, hx => by simp [owns] at hx
 | .r (.ptr ..), _, x, hx => by simp [owns] at hx
 | .r (.msl ..), _, x, hx => by simp [owns] at hx
 | .r (.own j e k n cs), h, x, hx => by
  simp only [owns, List.mem_singleton] at hx
  subst hx
  intro e' k' cs' he c hc
  cases he
  simp only [freeV, List.all_eq_true] at h
  have := h c hc
  cases c <;> first | rfl | exact this
theorem free_ownsL : ∀ (ps : List PV), freeL ps = true → ∀ x ∈ ownsL ps, ∀ e k cs, x.2 = .own e k cs → ∀ c ∈ cs, freeV (.d c) = true
 | [], _, x, hx => by simp [ownsL] at hx
 | p :: ps, h, x, hx => by
  simp only [freeL, Bool.and_eq_true] at h
  simp only [ownsL, List.mem_append] at hx
  rcases hx with hx | hx
  ·exact free_owns p h.1 x hx
  ·exact free_ownsL ps h.2 x hx
end
mutual
theorem owns_own : ∀ (p : PV), ∀ x ∈ owns p, ∃ e k cs, x.2 = .own e k cs
 | .agg cs, x, hx => ownsL_own cs x hx
 | .tup cs, x, hx => ownsL_own cs x hx
 | .fn _ cs, x, hx => ownsL_own cs x hx
 | .d _, x, hx => by simp [owns] at hx
 | .rptr _, x, hx => by simp [owns] at hx
 | .nil, x, hx => by simp [owns] at hx
 | .slz .., x, hx => by simp [owns] at hx
 | .un, x, hx => by simp [owns] at hx
 | .r (.ptr ..), x, hx => by simp [owns] at hx
 | .r (.msl ..), x, hx => by simp [owns] at hx
 | .r (.own j e k n cs), x, hx => by simp only [owns, List.mem_singleton] at hx; subst hx; exact ⟨e, k, cs, rfl⟩
theorem ownsL_own : ∀ (ps : List PV), ∀ x ∈ ownsL ps, ∃ e k cs, x.2 = .own e k cs
 | [], x, hx => by simp [ownsL] at hx
 | p :: ps, x, hx => by
  simp only [ownsL, List.mem_append] at hx
  rcases hx with hx | hx
  ·exact owns_own p x hx
  ·exact ownsL_own ps x hx
end
theorem RepL.free_d {X Y : Nat → Prop} {R R' : Ref → Value → Prop} {w : World} : ∀ {cs : List PD} {vs : List Value}, (∀ c ∈ cs, freeV (.d c) = true) → RepL X w R (cs.map .d) vs → RepL Y w R' (cs.map .d) vs
 | [], _, _, q => q
 | c :: cs, _, h, ⟨v, r, e, q1, q2⟩ => ⟨v, r, e, RepD.free (h c (by simp)) q1, RepL.free_d (fun c hc => h c (by simp [hc])) q2⟩
theorem RepL.sub_d {X Y : Nat → Prop} {R R' : Ref → Value → Prop} {w : World} (h : ∀ b, b < w.heap.size → ¬ X b → ¬ Y b) : ∀ {cs : List PD} {vs : List Value}, RepL X w R (cs.map .d) vs → RepL Y w R' (cs.map .d) vs
 | [], _, q => q
 | c :: cs, _, ⟨v, r, e, q1, q2⟩ => ⟨v, r, e, RepD.sub h q1, RepL.sub_d h q2⟩
theorem bid_sub (d j : Nat) : bid d j - 8 * d - 8 = j := by unfold bid; omega
theorem does_call (hm : Mem E m φ0 w0 φ H w) (hγ : Snd P γ w0 φ0) {f : Nat} {args : List PV} {vs : List Value} {p : PV} {ups : Ups} (hargs : RepL (Xof E φ) w (RefAt φ H) args vs) (he : doCall γ H d f args = some (p, ups)) {x : Sem Next}
  (hx : x.run P w = (callFunc f vs.toArray).run P w) : Does P E m φ0 w0 φ H w p ups x := by
 unfold doCall at he
 split at he
 ·cases he
 ·rename_i l hl
  split at he
  ·cases he
  ·rename_i r hr
   split at he
   ·rename_i hcond
    simp only [Option.some.injEq, Prod.mk.injEq] at he
    obtain ⟨rfl, rfl⟩ := he
    simp only [Bool.and_eq_true, Bool.or_eq_true, List.isEmpty_iff, List.all_eq_true, decide_eq_true_eq] at hcond
    obtain ⟨⟨hfree, hdist⟩, hj8⟩ := hcond
    obtain ⟨hcan, hcall⟩ := hγ f l [] r [] (val1_of hr)
    have hE : ∀ b, Lent E φ (refsL args) b → b < w.heap.size := by
     intro b hb
     rcases hb.1 with h | ⟨i, c, h⟩
     ·exact Nat.lt_of_lt_of_le (hm.ext b h) hm.sz
     ·exact (hm.lt i b c h).1
    have hpas : Passed (Lent E φ (refsL args)) w (fun _ => .nil none) [] := ⟨by simp, (fun i b c h => by cases h), (fun i j b c c' h => by cases h), (fun i b h => by simp at h)⟩
    have hc := hcall (Lent E φ (refsL args)) w (fun _ => .nil none) vs (hm.later.sub fun _ _ _ h => by cases h) hE hpas (RepL.keep (Ch.refl _ _) (fun _ _ h => h.elim) _ _ (lendL_rep hm _ args l vs hl (fun _ h => h) hargs))
    refine .inr (.inr ⟨f, vs.toArray, by rw [hx]; exact hcan _ _, hc.mono ?_⟩)
    rintro e w' ⟨v, φ1, β, rfl, hb, ho⟩
    refine ⟨v, rfl, ?_⟩
    have hφ1n : ∀ i b c, φ1 i ≠ .blk b c := fun i b c h => by have := (ho.dom i b c h).1; simp at this
    -- the new blocks
    let I : Nat → Prop := fun i => ∃ y ∈ owns r, i = bid d y.1
    have hbinj : ∀ a b, bid d a = bid d b → a = b := fun a b h => by unfold bid at h; omega
    have hH : ∀ y ∈ owns r, setH H ((owns r).map fun x => nw H (bid d x.1) x.2) (bid d y.1) = ⟨(H (bid d y.1)).g + 1, some y.2⟩ :=
     fun y hy => setH_at (owns r) (bid d) (fun y => ⟨(H (bid d y.1)).g + 1, some y.2⟩) H y (fun _ _ _ _ h => hbinj _ _ h) hdist hy
    have hH2 : ∀ i, ¬ I i → setH H ((owns r).map fun x => nw H (bid d x.1) x.2) i = H i :=
     fun i hi => setH_one _ _ _ (fun y hy e => by
      obtain ⟨z, hz, rfl⟩ := List.mem_map.1 hy
      exact hi ⟨z, hz, e.symm⟩)
    let φ' : Nat → Phys := fun i => if (owns r).any (fun y => Nat.beq i (bid d y.1)) then β (i - 8 * d - 8) else φ i
    have hφ1 : ∀ y ∈ owns r, φ' (bid d y.1) = β y.1 := fun y hy => by
     show (if _ then _ else _) = _
     rw [if_pos (List.any_eq_true.2 ⟨y, hy, by simp⟩), bid_sub]
    have hφ2 : ∀ i, ¬ I i → φ' i = φ i := fun i hi => by
     show (if _ then _ else _) = _
     rw [if_neg]
     intro h
     obtain ⟨y, hy, e⟩ := List.any_eq_true.1 h
     exact hi ⟨y, hy, by simpa using e⟩
    have hXY : refsL args = [] → ∀ b, b < w'.heap.size → ¬ Yo (Lent E φ (refsL args)) φ1 β b → ¬ Xof E φ' b := by
     intro h0 b _ hn hx'
     rw [h0] at hn
     rcases hx' with h | ⟨i, c, h⟩
     ·exact hn (.inl ⟨.inl h, by simp⟩)
     ·by_cases hI : I i
      ·obtain ⟨y, hy, rfl⟩ := hI
       rw [hφ1 y hy] at h
       exact hn (.inr (.inr ⟨_, _, h⟩))
      ·rw [hφ2 i hI] at h
       exact hn (.inl ⟨.inr ⟨i, c, h⟩, by simp⟩)
    have hup := hm.upd (φ' := φ') (w' := w') (H' := setH H ((owns r).map fun x => nw H (bid d x.1) x.2)) I (fun j hj => ⟨hφ2 j hj, hH2 j hj⟩)
     (fun j hj => by obtain ⟨y, hy, rfl⟩ := hj; rw [hH y hy]; exact .inl (Nat.lt_succ_self _))
     (fun b hb' _ => hb.blk b hb' (fun i c h => by cases h))
     (fun j b c hj hp => by obtain ⟨y, hy, rfl⟩ := hj; rw [hφ1 y hy] at hp; have := ho.new _ _ _ hp; exact ⟨this.2, .inl this.1⟩)
     (fun i j b c c' hi hj h1 h2 => by
      obtain ⟨y, hy, rfl⟩ := hi
      obtain ⟨z, hz, rfl⟩ := hj
      rw [hφ1 y hy] at h1
      rw [hφ1 z hz] at h2
      rw [ho.inj _ _ _ _ _ h1 h2])
     (fun j hj hjm => by obtain ⟨y, hy, rfl⟩ := hj; have := hm.m8; unfold bid at hjm; omega)
     hb.size ⟨hb.os, hb.tape, hb.out⟩ (by
      intro tr j b hj hb'
      obtain ⟨y, hy, rfl⟩ := hj
      rw [hH y hy] at hb'
      simp only [Option.some.injEq] at hb'
      subst hb'
      rw [hφ1 y hy]
      have q := ho.own y (by simp only [ownsAll, List.flatMap_nil, List.append_nil]; exact hy)
      obtain ⟨e, k, cs, hown⟩ := owns_own r y hy
      rw [hown] at q ⊢
      cases hβ : β y.1 with
      | nil a => rw [hβ] at q; exact q
      | blk b1 c1 =>
       rw [hβ] at q
       obtain ⟨q0, cur, xs, r1, r2, r3, r4, r5, r6, r7⟩ := q
       refine ⟨q0, cur, xs, r1, r2, r3, r4, r5, r6, ?_⟩
       rcases hfree with h0 | h0
       ·exact RepL.sub_d (hXY h0) r7
       ·exact RepL.free_d (free_owns r h0 y hy e k cs hown) r7)
    refine ⟨φ', hup.1, hup.2, ?_⟩
    refine adV_rep (β := β) ?_ r v (hfree.imp hXY id) (fun y hy => ⟨hH y hy, hφ1 y hy⟩) ho.rep
    intro j e k n cs v' hr' hHj hφj
    obtain ⟨hk, hlen, hv'⟩ := hr'
    cases hβ : β j with
    | nil a =>
     rw [hβ] at hv' hφj
     obtain ⟨rfl, rfl⟩ := hv'
     have hn : n = 0 := by
      rw [List.length_nil] at hlen
      rcases Nat.mul_eq_zero.1 hlen.symm with h | h
      ·exact h
      ·omega
     subst hn
     have := ref_nil (H := setH H ((owns r).map fun x => nw H (bid d x.1) x.2)) (i := bid d j) (e := e) hφj (by rw [hHj]) hk
     rw [hHj] at this
     exact this
    | blk b c =>
     rw [hβ] at hv' hφj
     obtain ⟨rfl, hn⟩ := hv'
     have := ref_own (H := setH H ((owns r).map fun x => nw H (bid d x.1) x.2)) (i := bid d j) (e := e) (cs := cs) hφj (by rw [hHj]) hk hlen hn
     rw [hHj] at this
     exact this
   ·cases he
theorem setH_eq : ∀ (l : Ups) (H : Nat → Cel), setH' H l = setH H l
 | [], _ => rfl
 | x :: l, H => setH_eq l (up H x.1 x.2)
theorem does_callF (hm : Mem E m φ0 w0 φ H w) (hγ : Snd P γ w0 φ0) {f : Nat} {args : List PV} {vs : List Value} {p : PV} {ups : Ups} (hargs : RepL (Xof E φ) w (RefAt φ H) args vs) (he : doCallF γ H d f args = some (p, ups)) {x : Sem Next}
  (hx : x.run P w = (callFunc f vs.toArray).run P w) : Does P E m φ0 w0 φ H w p ups x := by
 unfold doCallF at he
 split at he
 rotate_left
 ·cases he
 rename_i hall
 split at he
 rotate_left
 ·cases he
 rename_i p' ups' hc
 cases he
 rw [setH_eq] at hc
 obtain ⟨φ1, m0, t0, fr⟩ := hm.freeze (inL (refsL args)) false (fun i hi => by
  simp only [inL, List.any_eq_true] at hi
  obtain ⟨x, hx, he⟩ := hi
  have e : i = x := Nat.eq_of_beq_eq_true he
  subst e
  have := List.all_eq_true.1 hall i hx
  simp at this
  exact .inr this.1) (H' := setH H (dropUps H (refsL args))) (fun i => by unfold dropUps; rw [setH_drop H]; simp)
 have hargs' : RepL (Xof E φ1) w (RefAt φ1 (setH H (dropUps H (refsL args)))) (frzL (inL (refsL args)) H args) vs := by
  have := fr (.agg args) (.agg vs.toArray) ⟨_, rfl, by simpa using hargs⟩
  unfold frzV at this
  obtain ⟨vs', e, q⟩ := this
  cases e; simpa using q
 have hd := does_call (x := x) m0 hγ hargs' hc hx
 have conv : ∀ v w', Post E m φ0 w0 φ1 (setH H (dropUps H (refsL args))) w p ups' v w' → Post E m φ0 w0 φ H w p (dropUps H (refsL args) ++ ups') v w' := by
  rintro v w' ⟨φ', m1, t1, r1⟩
  refine ⟨φ', ?_, ?_, ?_⟩ <;> rw [setHapp]
  ·exact m1
  ·exact t0.trans t1
  ·exact r1
 rcases hd with ⟨v, w', hr, hp⟩ | ⟨w', hr, hp⟩ | ⟨f', a', hr, hcl⟩
 ·exact .inl ⟨v, w', hr, conv _ _ hp⟩
 ·exact .inr (.inl ⟨w', hr, conv _ _ hp⟩)
 ·exact .inr (.inr ⟨f', a', hr, hcl.mono (by rintro e w' ⟨v, rfl, hp⟩; exact ⟨v, rfl, conv _ _ hp⟩)⟩)
end
end Go.Proofs.YtobkkblijfhpoaaGreatDoor.Pm
