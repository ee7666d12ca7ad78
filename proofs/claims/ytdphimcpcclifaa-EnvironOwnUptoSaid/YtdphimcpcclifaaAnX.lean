/- environ.Answer, walked: the function itself. -/
import Derived.Test.YtdphimcpcclifaaAnL
namespace Go.Proofs.Ytdphimcpcclifaa.An
open Go Go.Proofs Go.RowKit Go.Shelf
attribute [local go_sem] Oper.semAt_some
set_option linter.unusedVariables false
set_option maxRecDepth 100000 in
set_option maxHeartbeats 4000000 in
theorem answer (w : World) (pa : Option Addr) (pc : Nat) (hv lv ol : List V) (hol1 : lv = [] → ol = hv) (hol2 : lv ≠ [] → ol = outF hv lv) (err : Int) (data so : ByteArray) (eo : Int) (hl : hv.length ≤ 2000000) (hlv : lv.length ≤ 10000) (hds : data.size ≤ 10000000)
    (hp1 : hv.length ≤ pc) (hp2 : pc ≤ maxLen) (hp3 : pa = none → pc = 0)
    (hh : Vs w w.heap.size pa hv) (hs0 : 0 < data.size) (he0 : data.toList.isEmpty = false) (hb0 : (((data[0]'hs0).toNat : Int) != 1) = false)
    (hso : so.size ≤ 1000000000)
    (kW : Calls Go.Proofs.Try.prog 12 #[.string (data.extract 1 data.size)] w fun e W => ∃ la lc, e = .returned (.tuple #[.slice la lv.length lc, .int .i64 err]) ∧ Below w.heap.size w W ∧ Vs W W.heap.size la lv)
    (kO : err = 0 → ∀ (W : World) (a : Option Addr) (c : Nat), Below w.heap.size w W → Vs W W.heap.size a ol → ol.length ≤ c → c ≤ maxLen → (a = none → c = 0) →
      Calls Go.Proofs.Try.prog 10 #[.slice a ol.length c] W fun e W' => e = .returned (.tuple #[.string so, .int .i64 eo]) ∧ Below W.heap.size W W') :
    CallsIn Fence.wide 12 Go.Proofs.Try.prog 6 #[.slice pa hv.length pc, .string data] w fun e W =>
      e = .returned (if err = 0 then (if eo = 0 then .tuple #[.string (⟨#[0]⟩ ++ so), .int .i64 0] else .tuple #[.string ⟨#[]⟩, .int .i64 eo]) else .tuple #[.string ⟨#[]⟩, .int .i64 err]) ∧ Below w.heap.size w W := by
  refine callsIn_of_wp_marks Go.Proofs.Try.func6 rfl trivial ?_ rfl
  simp only [Go.Proofs.Try.ntmps6, List.size_toArray, List.length_cons, List.length_nil, Nat.reduceAdd, Nat.reduceSub, Array.replicate_succ, Array.replicate_zero, List.push_toArray, List.append_toArray, List.nil_append, List.cons_append]
  gi_wp2_with fail
  refine ⟨trivial, (callsIn_wide.2 kW).mono ?_⟩
  rintro e w1 ⟨la, lc, rfl, hB1, hV1⟩
  by_cases herr : err = 0
  · subst herr
    replace kO := kO rfl
    by_cases hlen : lv = []
    · subst hlen
      have hol : hv = ol := (hol1 rfl).symm
      subst hol
      gi_wp2_with fail
      gi_loopw [8, 39] (fun o i wr => o = .slice pa hv.length pc ∧ i = .int .i64 0 ∧ Below w.heap.size w wr) (fun _ _ _ => 0)
      case atStart => exact ⟨rfl, rfl, hB1⟩
      case round =>
        obtain ⟨rfl, rfl, hbr⟩ := hrel
        gi_wp2_with fail
        have kO' := kO wr pa pc hbr (fun j x hj => by obtain ⟨b, o, e, hb, hc⟩ := (hh.keep hbr) j x hj; exact ⟨b, o, e, Nat.lt_of_lt_of_le hb hbr.size, hc⟩) hp1 hp2 hp3
        refine ⟨trivial, (callsIn_wide.2 kO').mono ?_⟩
        rintro e w2 ⟨rfl, hB2⟩
        have hbe : Below w.heap.size w w2 := hbr.trans (hB2.mono hbr.size)
        by_cases heo : eo = 0
        · subst heo
          gi_wp2
          exact ⟨_, results_tmp2 rfl _ _ _, rfl, hbe⟩
        · have heo2 : (eo != 0) = true := by simp [heo]
          gi_wp2
          refine ⟨_, results_tmp2 rfl _ _ _, ?_, hbe⟩
          simp [heo]
    · obtain ⟨L, hL⟩ : ∃ L, lv.length = L := ⟨_, rfl⟩
      have hL0 : ((L : Int) == 0) = false := by
        have : lv.length ≠ 0 := fun h => hlen (List.eq_nil_of_length_eq_zero h)
        rw [beq_eq_false_iff_ne]; omega
      rw [hL]
      gi_wp2_with fail
      refine wpIn_loop (Inv pa pc data la lc hv lv L w1) (fun a _ => L - (intOf (a.tmps.getD 39 undef)).toNat) ?h0 ?round
      case h0 => exact Inv.in 0 (.slice none 0 0) rfl (Nat.zero_le _) (World.ownsRow_nil ..) ⟨fun d hd => by simp at hd, List.nodup_nil⟩ (Below.refl _ _)
      case round =>
        rintro a W ⟨k, ds, out, f, rfl, hk, hrow, hmk, hbr⟩
        unfold ARR
        by_cases hlt : k < L
        · obtain ⟨lb, lo, rfl, hlb, hlc⟩ := hV1 k _ (List.getElem?_eq_getElem (by omega))
          generalize hx : lv[k]'(by omega) = x at hlc
          have x0 := (hbr.cell (p := ⟨lb, lo + k * 4 + 0, none⟩) hlb).trans (hlc 0 _ rfl)
          have x1 := (hbr.cell (p := ⟨lb, lo + k * 4 + 1, none⟩) hlb).trans (hlc 1 _ rfl)
          have x2 := (hbr.cell (p := ⟨lb, lo + k * 4 + 2, none⟩) hlb).trans (hlc 2 _ rfl)
          have x3 := (hbr.cell (p := ⟨lb, lo + k * 4 + 3, none⟩) hlb).trans (hlc 3 _ rfl)
          rw [Nat.add_zero] at x0
          clear hlc
          gi_wp2_with fail
          refine ⟨trivial, (callsIn_wide.2 (backward pa hv.length pc _)).mono ?_⟩
          rintro e w2 ⟨rfl, hw2⟩
          gi_wp2_with fail
          obtain ⟨s, hs⟩ : ∃ s, W.heap.size = s := ⟨_, rfl⟩
          obtain ⟨w3, hw3⟩ : ∃ w3, ((W.alloc (.cells #[.string x.n, .string x.v, .bool x.u, .bool x.s] 25)).alloc (.cells #[.string x.n, .string x.v, .bool x.u, .bool x.s] 25)).alloc (.cells #[.slice pa hv.length pc] 22) = w3 := ⟨_, rfl⟩
          have z3 : w3.heap.size = s + 3 := by subst hw3; simp [hs]
          have hwW : Below w.heap.size w W := hB1.trans (hbr.mono hB1.size)
          have zW : w.heap.size ≤ s := by rw [← hs]; exact hwW.size
          have hb3 : Below s W w3 := by subst hw3; exact (((Below.refl _ _).alloc (by omega) _).alloc (by simp; omega) _).alloc (by simp; omega) _
          have hbk : Vs w3 w.heap.size pa hv := hh.keep (hwW.trans (hb3.mono zW))
          have hf0 : w3.heap[s]? = some (.cells #[.string x.n, .string x.v, .bool x.u, .bool x.s] 25 (0, 0)) := by
            subst hw3; subst hs
            rw [Below.heap_alloc _ _ _ (by simp; omega), Below.heap_alloc _ _ _ (by simp)]; exact World.alloc_heap_new W _
          have hf1 : w3.heap[s + 1]? = some (.cells #[.string x.n, .string x.v, .bool x.u, .bool x.s] 25 (0, 0)) := by
            subst hw3; subst hs
            rw [Below.heap_alloc _ _ _ (by simp)]
            have := World.alloc_heap_new (W.alloc (.cells #[.string x.n, .string x.v, .bool x.u, .bool x.s] 25)) (.cells #[.string x.n, .string x.v, .bool x.u, .bool x.s] 25)
            rwa [World.size_alloc] at this
          have hf2 : w3.cell? ⟨s + 2, 0, none⟩ = some (.slice pa hv.length pc) := by
            have h := World.alloc_heap_new ((W.alloc (.cells #[.string x.n, .string x.v, .bool x.u, .bool x.s] 25)).alloc (.cells #[.string x.n, .string x.v, .bool x.u, .bool x.s] 25)) (.cells #[.slice pa hv.length pc] 22)
            rw [hw3, World.size_alloc, World.size_alloc, hs] at h
            rw [cell_of_row _ _ _ _ _ _ h]; rfl
          rw [hw3, hs]
          refine wpIn_rangeFunc_ownH (α := Nat) rfl (by decide) (gf := 20) (lb := #[.pointer (some ⟨s + 2, 0, none⟩)]) rfl trivial (enters_of Go.Proofs.Try.func20 (by kernel_rfl) rfl) (backIter w3 (s + 2) (by omega) pa pc hv hl w.heap.size (by omega) hbk hf2) KpB.trans ?hKb (Below.refl _ _) (fun _ => rfl)
            (IB hv x s W) (fun _ _ _ => False) ?hI (fun _ _ _ _ _ h _ _ => h) ⟨hf0, hf1, hb3, by omega⟩ (AxB hv s) ?hAx ?hassign ?hbody ?hdone (fun _ _ _ _ _ _ h _ => h.elim)
          case hKb =>
            intro W' l o o' hl' hg hc _
            refine ⟨(Below.refl _ W').grown (grownBy_putObj' W' l o') (by have := (Array.getElem?_eq_some_iff.1 hg).1; omega) (fun k e => by cases e; omega), World.putObj_heap_other (by omega)⟩
          case hI =>
            rintro pre A B row ⟨i0, i1, i2, i3⟩ hg hr
            have q : ∀ b, b < s + 3 → b < A.heap.size → B.heap[b]? = A.heap[b]? := fun b hb hbA => hg.block b hbA (fun e => by have := (hr b e.symm).1; omega)
            refine ⟨(q s (by omega) (Array.getElem?_eq_some_iff.1 i0).1).trans i0, (q (s + 1) (by omega) (Array.getElem?_eq_some_iff.1 i1).1).trans i1, i2.grown hg (by have := (Array.getElem?_eq_some_iff.1 i0).1; omega) (fun k e => by have := (hr k e).1; omega), Nat.le_trans i3 hg.size⟩
          case hAx =>
            rintro i a' _ A B row ⟨vb, f', rfl, h1, h2⟩ hg hr
            refine ⟨vb, f', rfl, h1, (hg.block vb (Array.getElem?_eq_some_iff.1 h2).1 (fun e => ?_)).trans h2⟩
            obtain ⟨_, o, ho, hc⟩ := hr vb e.symm
            rw [h2] at ho; cases ho; cases hc
          case hassign =>
            rintro l pre i W' K ⟨i0, i1, i2, i3⟩ hk
            simp only [encs, V.agg]
            gi_wp2
            refine hk _ _ ⟨by simp, fun k o _ hk _ => (Below.heap_alloc _ _ _ (Array.getElem?_eq_some_iff.1 hk).1).trans hk⟩ ⟨(Below.refl _ _).alloc (by omega) _, Below.heap_alloc _ _ _ (by omega)⟩ ⟨(Below.heap_alloc _ _ _ (by omega)).trans i0, (Below.heap_alloc _ _ _ (by omega)).trans i1, i2.alloc (by omega) _, by simp; omega⟩ (AxB.in W'.heap.size rfl i3 (World.alloc_heap_new _ _))
          case hbody =>
            rintro l pre i a' W' hl' hr' ⟨i0, i1, i2, i3⟩ ⟨vb, f', rfl, h1, h2⟩ hN
            unfold ARB
            generalize hy : hv.getD i V0 = y at h2
            generalize hz : fnd hv x pre = z at i1
            have c0 : W'.cell? ⟨s, 0, none⟩ = some (.string x.n) := by rw [cell_of_row _ _ _ _ _ _ i0]; rfl
            have c2 : W'.cell? ⟨s, 2, none⟩ = some (.bool x.u) := by rw [cell_of_row _ _ _ _ _ _ i0]; rfl
            have y0 : W'.cell? ⟨vb, 0, none⟩ = some (.string y.n) := by rw [cell_of_row _ _ _ _ _ _ h2]; rfl
            have y1 : W'.cell? ⟨vb, 1, none⟩ = some (.string y.v) := by rw [cell_of_row _ _ _ _ _ _ h2]; rfl
            have y2 : W'.cell? ⟨vb, 2, none⟩ = some (.bool y.u) := by rw [cell_of_row _ _ _ _ _ _ h2]; rfl
            have y3 : W'.cell? ⟨vb, 3, none⟩ = some (.bool y.s) := by rw [cell_of_row _ _ _ _ _ _ h2]; rfl
            have z0 : W'.cell? ⟨s + 1, 0, none⟩ = some (.string z.n) := by rw [cell_of_row _ _ _ _ _ _ i1]; rfl
            have z1 : W'.cell? ⟨s + 1, 1, none⟩ = some (.string z.v) := by rw [cell_of_row _ _ _ _ _ _ i1]; rfl
            have z2 : W'.cell? ⟨s + 1, 2, none⟩ = some (.bool z.u) := by rw [cell_of_row _ _ _ _ _ _ i1]; rfl
            have z4 : W'.cell? ⟨s + 1, 3, none⟩ = some (.bool z.s) := by rw [cell_of_row _ _ _ _ _ _ i1]; rfl
            have e0 : W'.frozen? ⟨s + 1, 0, none⟩ = false := frozen_of_row _ _ _ _ _ i1
            have e1 : W'.frozen? ⟨s + 1, 1, none⟩ = false := frozen_of_row _ _ _ _ _ i1
            have e2 : W'.frozen? ⟨s + 1, 2, none⟩ = false := frozen_of_row _ _ _ _ _ i1
            have e3 : W'.frozen? ⟨s + 1, 3, none⟩ = false := frozen_of_row _ _ _ _ _ i1
            by_cases hu : y.u = x.u
            · have hu2 : (y.u == x.u) = true := by simp [hu]
              by_cases hn : y.n = x.n
              · have hn2 : (y.n.toList == x.n.toList) = true := by simp [hn]
                have hn' := hn
                clear hn
                gi_wp2
                obtain ⟨W4, hW4, q1, q2, q3, q4⟩ := store4 y i1
                rw [hn', hu] at hW4
                rw [hW4]
                have j0 : IB hv x s W (pre ++ [i]) W4 := ⟨(q2 s (by omega)).trans i0, by rw [fnd_app, hy, if_pos ⟨hu, hn'⟩]; exact q1, q3 _ _ (by omega) i2, by omega⟩
                have j1 : KpB w.heap.size (s + 2) W' W4 := ⟨q3 _ _ (by omega) (Below.refl _ _), q2 _ (by omega)⟩
                exact ⟨⟨Nat.le_of_eq q4.symm, fun k o hk hg _ => (q2 k (by omega)).trans hg⟩, j1, j0⟩
              · have hn2 : (y.n.toList == x.n.toList) = false := beq_eq_false_iff_ne.2 (fun q => hn (by rw [ByteArray.toList_eq, ByteArray.toList_eq] at q; exact ByteArray.ext (Array.toList_inj.1 q)))
                gi_wp2
                exact ⟨.refl _ _, .refl _ _ _, i0, by rw [fnd_app, hy, if_neg (fun h => hn h.2), hz]; exact i1, i2, i3⟩
            · have hu2 : (y.u == x.u) = false := by simp [hu]
              gi_wp2
              exact ⟨.refl _ _, .refl _ _ _, i0, by rw [fnd_app, hy, if_neg (fun h => hu h.1), hz]; exact i1, i2, i3⟩
          case hdone =>
            rintro D xs W' hD hS ⟨i0, i1, i2, i3⟩ hK
            generalize hz : fnd hv x xs = z at i1
            have c0 : W'.cell? ⟨s, 0, none⟩ = some (.string x.n) := by rw [cell_of_row _ _ _ _ _ _ i0]; rfl
            have c2 : W'.cell? ⟨s, 2, none⟩ = some (.bool x.u) := by rw [cell_of_row _ _ _ _ _ _ i0]; rfl
            have z0 : W'.cell? ⟨s + 1, 0, none⟩ = some (.string z.n) := by rw [cell_of_row _ _ _ _ _ _ i1]; rfl
            have z1 : W'.cell? ⟨s + 1, 1, none⟩ = some (.string z.v) := by rw [cell_of_row _ _ _ _ _ _ i1]; rfl
            have z2 : W'.cell? ⟨s + 1, 2, none⟩ = some (.bool z.u) := by rw [cell_of_row _ _ _ _ _ _ i1]; rfl
            have z4 : W'.cell? ⟨s + 1, 3, none⟩ = some (.bool z.s) := by rw [cell_of_row _ _ _ _ _ _ i1]; rfl
            have hrow' : W'.ownsRow w1.heap.size 25 4 out (outF hv (lv.take k)).length (flat (outF hv (lv.take k))) := ownsRow_below hrow (hs ▸ i2)
            have hle : w1.heap.size ≤ W'.heap.size := by have := hbr.size; omega
            have hbW : Below w1.heap.size w1 W' := hbr.trans (i2.mono (by have := hbr.size; omega))
            have hmk' : Marks w1.heap.size ({ target := .collected D, args := #[] } :: ds) W' ∧ List.Nodup ({ target := .collected D, args := #[] } :: ds : List Deferred) := Marks.cons 0 ⟨hmk.1.keep fun D' h => (i2.block _ (by have := (Array.getElem?_eq_some_iff.1 h).1; omega)).trans h, hmk.2⟩ (by have := hbr.size; omega) hK (fun d hd D' e => by
              obtain ⟨D2, e2, _, h2⟩ := hmk.1 d hd
              have := (Array.getElem?_eq_some_iff.1 h2).1
              rw [e] at e2; cases e2; omega)
            have hzF : foundF hv x = z := by rw [← hz, hS, fnd_all]
            have htk : lv.take (k + 1) = lv.take k ++ [x] := by rw [List.take_add_one, List.getElem?_eq_getElem (by omega), hx]; rfl
            have hob : (outF hv (lv.take k)).length ≤ 20010000000 := by
              have h1 := outF_len hv (lv.take k)
              have h2 : (lv.take k).length ≤ 10000 := by rw [List.length_take]; omega
              have h3 : (lv.take k).length * (hv.length + 1) ≤ 10000 * 2000001 := Nat.mul_le_mul h2 (by omega)
              omega
            obtain ⟨io, hio, hz0, hz1, hz2⟩ := info_parts infoV
            by_cases hxe : x.n.toList = []
            · have hxe2 : x.n.toList.isEmpty = true := by simp [hxe]
              have h0 : IN hv x (outF hv (lv.take k)) w1.heap.size w1 ({ target := .collected D, args := #[] } :: ds) s 0 out W' := by
                refine ⟨⟨?_, fun e => ?_⟩, hmk', hbW, i0, hle⟩
                · rw [List.take_zero, List.filter_nil, List.append_nil]; exact hrow'
                · have := (hrow.lt s e).2; omega
              obtain ⟨pre, hpre⟩ : ∃ p, outF hv (lv.take k) = p := ⟨_, rfl⟩
              rw [hpre] at h0
              gi_wp2_with fail
              gi_loopw [8, 68] (fun o i wr => ∃ m : Nat, m ≤ hv.length ∧ i = .int .i64 (m : Int) ∧ IN hv x pre w1.heap.size w1 ({ target := .collected D, args := #[] } :: ds) s m o wr) (fun _ i _ => hv.length - (intOf i).toNat)
              case atStart => exact ⟨0, Nat.zero_le _, rfl, h0⟩
              case round =>
                obtain ⟨m, hm, rfl, hI⟩ := hrel
                by_cases hmt : m < hv.length
                · have hwr : Below w.heap.size w wr := hB1.trans (hI.2.2.1.mono hB1.size)
                  obtain ⟨pb, po, rfl, hpb, hcs⟩ := hh m _ (List.getElem?_eq_getElem hmt)
                  have hy : hv[m]? = some hv[m] := List.getElem?_eq_getElem hmt
                  generalize hv[m] = y at hcs hy
                  obtain ⟨yn, yv, yu, ys⟩ := y
                  have y0 : wr.cell? ⟨pb, po + m * 4, none⟩ = some (.string yn) := (hwr.cell (p := ⟨pb, po + m * 4 + 0, none⟩) hpb).trans (hcs 0 _ rfl)
                  have y1 : wr.cell? ⟨pb, po + m * 4 + 1, none⟩ = some (.string yv) := (hwr.cell (p := ⟨pb, po + m * 4 + 1, none⟩) hpb).trans (hcs 1 _ rfl)
                  have y2 : wr.cell? ⟨pb, po + m * 4 + 2, none⟩ = some (.bool yu) := (hwr.cell (p := ⟨pb, po + m * 4 + 2, none⟩) hpb).trans (hcs 2 _ rfl)
                  have y3 : wr.cell? ⟨pb, po + m * 4 + 3, none⟩ = some (.bool ys) := (hwr.cell (p := ⟨pb, po + m * 4 + 3, none⟩) hpb).trans (hcs 3 _ rfl)
                  clear hcs
                  have hst : s < wr.heap.size := (Array.getElem?_eq_some_iff.1 hI.2.2.2.1).1
                  have d2 : wr.cell? ⟨s, 2, none⟩ = some (.bool x.u) := by rw [cell_of_row _ _ _ _ _ _ hI.2.2.2.1]; rfl
                  by_cases hu : yu = x.u
                  · subst hu
                    have hu2 : (x.u == x.u) = true := by simp
                    have hA := (hI.alloc (.cells #[.string yn, .string yv, .bool x.u, .bool ys] 25)).alloc (.cells #[.string yn, .string yv, .bool x.u, .bool ys] 25)
                    have hAr := hA.1.1
                    have hAl := hA.2.2.2.2
                    have hcn : ∀ j u, (V.cs ⟨yn, yv, x.u, ys⟩)[j]? = some u → ((wr.alloc (.cells #[.string yn, .string yv, .bool x.u, .bool ys] 25)).alloc (.cells #[.string yn, .string yv, .bool x.u, .bool ys] 25)).cell? ((⟨wr.heap.size + 1, 0, none⟩ : Addr).add j) = some u := by
                      have := cells_new (wr.alloc (.cells #[.string yn, .string yv, .bool x.u, .bool ys] 25)) ⟨yn, yv, x.u, ys⟩ 25
                      rwa [World.size_alloc] at this
                    have hcl : (V.cs ⟨yn, yv, x.u, ys⟩).length = 1 * 4 := rfl
                    have hfl := List.length_filter_le (fun v : V => v.u == x.u) (hv.take m)
                    have hml := List.length_take_le m hv
                    have hpl : (pre ++ (hv.take m).filter (fun v => v.u == x.u)).length ≤ 20020000000 := by
                      rw [List.length_append, ← hpre]; omega
                    gi_wp2_with (gi_at_builtin; refine wpListIn_append_own_at _ rfl _ _ 22 rfl w1.heap.size 25 io _ 4 40 Go.Proofs.Try.underlying22 hio hz0 hz1 hz2 rfl (by decide) _ _ _ rfl hAr ⟨wr.heap.size + 1, 0, none⟩ 1 1 (V.cs ⟨yn, yv, x.u, ys⟩) rfl hcl hcn (one_cs _) (by unfold maxLen; omega) (by omega) hAl ?_; intro v' w6 hown' hgrow hat)
                    exact ⟨⟨m + 1, hmt, rfl, hA.app hy hu2 hown' hgrow hat⟩, by simp [intOf]; omega⟩
                  · have hu2 : (yu == x.u) = false := by simp [hu]
                    have hA := hI.alloc (.cells #[.string yn, .string yv, .bool yu, .bool ys] 25)
                    gi_wp2_with fail
                    exact ⟨⟨m + 1, hmt, rfl, hA.skip hy hu2⟩, by simp [intOf]; omega⟩
                · have hme : m = hv.length := by omega
                  subst hme
                  obtain ⟨⟨h1, _⟩, hmk6, hb6, _, _⟩ := hI
                  rw [List.take_of_length_le (Nat.le_refl _)] at h1
                  have hpk : pickF hv x = hv.filter (fun v => v.u == x.u) := by unfold pickF; rw [if_neg (fun h => h hxe)]
                  gi_wp2_with fail
                  refine ⟨Inv.in (k + 1) _ rfl hlt ?_ hmk6 hb6, ?_⟩
                  · rw [htk, outF_snoc, hpk, hpre]; exact h1
                  · show L - ((k : Int) + 1).toNat < L - (k : Int).toNat
                    omega
            · have hxe2 : x.n.toList.isEmpty = false := by simp [hxe]
              have hcn : ∀ j u, z.cs[j]? = some u → (W'.alloc (.cells #[.string z.n, .string z.v, .bool z.u, .bool z.s] 25)).cell? ((⟨W'.heap.size, 0, none⟩ : Addr).add j) = some u := cells_new W' z 25
              have hrw : (W'.alloc (.cells #[.string z.n, .string z.v, .bool z.u, .bool z.s] 25)).ownsRow w1.heap.size 25 4 out (outF hv (lv.take k)).length (flat (outF hv (lv.take k))) := hrow'.alloc _
              have hcl : z.cs.length = 1 * 4 := rfl
              gi_wp2_with (gi_at_builtin; refine wpListIn_append_own_at _ rfl _ _ 22 rfl w1.heap.size 25 io _ 4 40 Go.Proofs.Try.underlying22 hio hz0 hz1 hz2 rfl (by decide) _ _ _ rfl hrw ⟨W'.heap.size, 0, none⟩ 1 1 z.cs rfl hcl hcn (one_cs z) (by unfold maxLen; omega) (by omega) (by rw [World.size_alloc]; omega) ?_; intro v' w6 hown' hgrow _)
              have qg : W'.grownBy w6 out.ownBlock := (World.grownBy_alloc W' _ _).trans hgrow
              have hpk : pickF hv x = [z] := by unfold pickF; rw [if_pos hxe, hzF]
              refine ⟨Inv.in (k + 1) v' rfl hlt ?_ ⟨hmk'.1.keep fun D' hD' => (qg.block D' (Array.getElem?_eq_some_iff.1 hD').1 (row_not hrow' hD')).trans hD', hmk'.2⟩ (hbW.grown qg hle (fun k e => (hrow'.lt k e).1)), ?_⟩
              · rw [htk, outF_snoc, hpk, flat_app, List.length_append]
                rw [show flat [z] = z.cs from by simp [flat]]; exact hown'
              · show L - ((k : Int) + 1).toNat < L - (k : Int).toNat
                omega
        · have hkL : k = L := by omega
          subst hkL
          have hol : outF hv lv = ol := (hol2 hlen).symm
          subst hol
          rw [List.take_of_length_le (by omega : lv.length ≤ k)] at hrow
          obtain ⟨oa, oc, rfl, hVo, ho1, ho2, ho3⟩ := vs_of_row hrow
          have hwW : Below w.heap.size w W := hB1.trans (hbr.mono hB1.size)
          have kO' := kO W oa oc hwW hVo ho1 ho2 ho3
          obtain ⟨ol, hol⟩ : ∃ n, (outF hv lv).length = n := ⟨_, rfl⟩
          rw [hol] at kO' ⊢
          gi_wp2_with fail
          refine ⟨trivial, (callsIn_wide.2 kO').mono ?_⟩
          rintro e w2 ⟨rfl, hB2⟩
          have hmk2 : Marks w1.heap.size ds w2 ∧ ds.Nodup := ⟨hmk.1.keep fun D' h => (hB2.block _ (Array.getElem?_eq_some_iff.1 h).1).trans h, hmk.2⟩
          have hs2 : w1.heap.size ≤ w2.heap.size := Nat.le_trans hbr.size hB2.size
          have hbe : Below w.heap.size w w2 := hwW.trans (hB2.mono hwW.size)
          by_cases heo : eo = 0
          · subst heo
            gi_wp2
            refine leaves_marks ds w2 hmk2 hs2 fun W' hW' => ?_
            exact ⟨_, results_tmp2 rfl _ _ _, rfl, hbe.trans (hW'.mono hB1.size)⟩
          · have heo2 : (eo != 0) = true := by simp [heo]
            gi_wp2
            refine leaves_marks ds w2 hmk2 hs2 fun W' hW' => ?_
            refine ⟨_, results_tmp2 rfl _ _ _, ?_, hbe.trans (hW'.mono hB1.size)⟩
            simp [heo]
  · have herr2 : (err != 0) = true := by simp [herr]
    gi_wp2
    exact ⟨_, results_tmp2 rfl _ _ _, rfl, hB1⟩
end Go.Proofs.Ytdphimcpcclifaa.An
