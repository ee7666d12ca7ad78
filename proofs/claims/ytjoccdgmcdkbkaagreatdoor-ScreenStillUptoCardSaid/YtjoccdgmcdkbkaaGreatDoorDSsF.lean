/- Typed functions, and that the codes are these. Printed by dec.py. -/
import Derived.Test.YtjoccdgmcdkbkaaGreatDoorDSsE
namespace Go.Proofs.YtjoccdgmcdkbkaaGreatDoor.Pm
set_option maxRecDepth 1000000
set_option maxHeartbeats 20000000
set_option linter.unusedVariables false
/- (*farwriter/screen.terminal).cursor -/
def f102_fin (p28 : Gterminal) (p29 : Bool) : St := ⟨(up (up u0 2000000 .un) 6 (dB p29)), (gh_Gterminal h0 p28 0 1 2 3)⟩
theorem f102_out (p28 : Gterminal) (p29 : Bool) : outR (f102_fin p28 p29) 4 c102.res = some ((dB p29), (gb_Gterminal p28 1 2 3)) := by
  kernel_rfl
def f102_Q (r : Gterminal × Bool) (e : PX) (st : St) : Prop := DoneF c102 4 ((dB r.2), [(gx_Gterminal r.1 1 2 3), (go0_Gterminal r.1), (go1_Gterminal r.1), (go2_Gterminal r.1), .box []]) e st
def f102_j1_J (a1 : GAct) (a2 : Int) (a3 : Gterminal) (p35 : Bool) : St := ⟨(up (up (up (up (up u0 79 (dB p35)) 12 (dI a1.Code)) 4 (pt 40)) 2 (dI a2)) 0 (pt 0)), (gh_Gterminal (up h0 40 ⟨0, some (.box (bx_GAct a1 (.d (.sl a1.Args.length ((eInt .i64).cells a1.Args)))))⟩) a3 0 1 2 3)⟩
noncomputable def f102_j1 (a1 : GAct) (a2 : Int) (a3 : Gterminal) (p35 : Bool) : Option (Gterminal × Bool) := (bif p35 then ((f100 a1.Args 1).bind fun z104 => ((f118 (IntKind.i64.wrap (a2 - 1)) (IntKind.i64.wrap (z104 - 1)) a3).bind fun z105 => ((chk (decide (z105.Screen.Past.length = a3.Screen.Past.length))).bind fun z106 => ((chk (decide (z105.Screen.Other.Cells.length = a3.Screen.Other.Cells.length))).bind fun z107 => ((chk (decide (z105.Screen.Grid.Cells.length = a3.Screen.Grid.Cells.length))).bind fun z108 => (some (z105, true))))))) else (bif (decide (a1.Code = 73)) then ((f92 a3.Screen.Stops a3.Screen.Col a2 a3.Screen.Grid.Wide).bind fun z109 => ((f86 z109.1 a3).bind fun z110 => ((chk (decide (z110.Screen.Past.length = a3.Screen.Past.length))).bind fun z111 => ((chk (decide (z110.Screen.Other.Cells.length = a3.Screen.Other.Cells.length))).bind fun z112 => ((chk (decide (z110.Screen.Grid.Cells.length = a3.Screen.Grid.Cells.length))).bind fun z113 => (some (z110, true))))))) else (bif (decide (a1.Code = 90)) then ((f119 a3.Screen.Stops a3.Screen.Col a2).bind fun z114 => ((f86 z114.1 a3).bind fun z115 => ((chk (decide (z115.Screen.Past.length = a3.Screen.Past.length))).bind fun z116 => ((chk (decide (z115.Screen.Other.Cells.length = a3.Screen.Other.Cells.length))).bind fun z117 => ((chk (decide (z115.Screen.Grid.Cells.length = a3.Screen.Grid.Cells.length))).bind fun z118 => (some (z115, true))))))) else (bif (decide (a1.Code = 115)) then ((f95 a3).bind fun z119 => ((chk (decide (z119.Screen.Past.length = a3.Screen.Past.length))).bind fun z120 => ((chk (decide (z119.Screen.Other.Cells.length = a3.Screen.Other.Cells.length))).bind fun z121 => ((chk (decide (z119.Screen.Grid.Cells.length = a3.Screen.Grid.Cells.length))).bind fun z122 => (some (z119, true)))))) else (bif (decide (a1.Code = 117)) then ((f96 a3).bind fun z123 => ((chk (decide (z123.Screen.Past.length = a3.Screen.Past.length))).bind fun z124 => ((chk (decide (z123.Screen.Other.Cells.length = a3.Screen.Other.Cells.length))).bind fun z125 => ((chk (decide (z123.Screen.Grid.Cells.length = a3.Screen.Grid.Cells.length))).bind fun z126 => (some (z123, true)))))) else (some (a3, false)))))))
theorem f102_j1_ok {d : Nat} (hd : 4 ≤ d) (a1 : GAct) (a2 : Int) (a3 : Gterminal) {r : Gterminal × Bool} {Q : PX → St → Prop} (hQ : ∀ e st', f102_Q r e st' → Q e st') (p35 : Bool) (hS : f102_j1 a1 a2 a3 p35 = some r) {st : St} (he : keepSt [0, 2, 4, 12, 79] [(0, .id 0), (1, .id 1), (2, .id 2), (3, .id 3), (40, .id 40)] [] st = f102_j1_J a1 a2 a3 p35) : ZR (lev codes baseL (d - 1)) Q c102_1 [.blk 0, .seq c102_2] st := by
  refine zrKeep he ?_
  unfold f102_j1 at hS
  refine zrSplit 79 p35 (by kernel_rfl) (fun hc => ?_) (fun hc => ?_)
  · replace hS := cond_t hc hS
    refine zT (zrReg (zL 5 5 ?_))
    refine bindE hS (fun z104 hz104 hS => ?_)
    refine zO (some 87) 6 (.call 100 [(tm 86), (ki 1)]) (ev_callA (by kernel_rfl) (f100_ok (d - 1) (dpt hd rfl) a1.Args 1 z104 hz104) (by kernel_rfl) (by kernel_rfl)) ?_
    refine zL 1 7 ?_
    refine bindE hS (fun z105 hz105 hS => ?_)
    refine bindE hS (fun z106 hz106 hS => ?_)
    refine bindE hS (fun z107 hz107 hS => ?_)
    refine bindE hS (fun z108 hz108 hS => ?_)
    refine zO (some 89) 8 (.callr 118 [(tm 82), (tm 84), (tm 88)]) (ev_callrXA (ids := [0, 1, 2, 3]) (bs := (gb_Gterminal a3 1 2 3)) (by kernel_rfl) (by kernel_rfl) (by kernel_rfl) (by kernel_rfl) (f118_ok (d - 1) (dpt hd rfl) (IntKind.i64.wrap (a2 - 1)) (IntKind.i64.wrap (z104 - 1)) a3 z105 hz105) (by kernel_rfl) (sm_box (cs := (bm_Gterminal a3 1 0 2 0 3 0)) (by kernel_rfl) (sm_own e_GCell (e1 := 58) (k1 := 4) (xs := a3.Screen.Grid.Cells) (ys := z105.Screen.Grid.Cells) (by kernel_rfl) hz108 (sm_own e_GCell (e1 := 58) (k1 := 4) (xs := a3.Screen.Other.Cells) (ys := z105.Screen.Other.Cells) (by kernel_rfl) hz107 (sm_own e_GLine (e1 := 87) (k1 := 1) (xs := a3.Screen.Past) (ys := z105.Screen.Past) (by kernel_rfl) hz106 sm_nil)))) (by kernel_rfl)) ?_
    have lz106 : a3.Screen.Past.length = z105.Screen.Past.length := (of_decide_eq_true (chk_t hz106)).symm
    try delta f102_j1_J
    try rw [lz106]
    have lz107 : a3.Screen.Other.Cells.length = z105.Screen.Other.Cells.length := (of_decide_eq_true (chk_t hz107)).symm
    try delta f102_j1_J
    try rw [lz107]
    have lz108 : a3.Screen.Grid.Cells.length = z105.Screen.Grid.Cells.length := (of_decide_eq_true (chk_t hz108)).symm
    try delta f102_j1_J
    try rw [lz108]
    refine zE ?_
    refine zkBlk ?_
    refine zkSeq (zrSeq (zrReg (zL 1 1 (zE (zkSeq ?_)))))
    refine zrRet ?_
    refine zkNil ?_
    exact endQ hS hQ (fRetX (by kernel_rfl) (by kernel_rfl : finSt c102.fin _ = f102_fin z105 true) (by kernel_rfl) (f102_out z105 true))
  · replace hS := cond_f hc hS
    refine zF (zrSeq (zrReg ?_))
    refine zB 91 1 (.cmpI .eql (tm 12) (ki 73)) (decide (a1.Code = 73)) (fun hc => ?_) (fun hc => ?_)
    · replace hS := cond_t hc hS
      refine zL 1 2 (zE (zkSeq (zT (zrSeq ?_))))
      refine zrRegD ?_
      refine zdRun (n := 17) (j := 17) (ts := [[], [], [], [], [(0, false)], [], [], [], [], [(0, false)], [], [], [], [], [], [], [(0, false)]]) (acc' := [[], [], [], [], [(0, false)], [], [], [], [], [(0, false)], [], [], [], [], [], [], [(0, false)]]) rfl (by kernel_rfl) (by kernel_rfl) (by kernel_rfl) ?_
      refine bindE hS (fun z109 hz109 hS => ?_)
      refine zdOp (d := some 110) (op := (.call 92 [(tm 97), (tm 102), (tm 103), (tm 109)])) (g := none) (j := 18) (t1 := [(888, true), (889, true), (890, true), (891, true), (892, true), (893, true), (894, true), (895, true)]) (acc' := [[], [], [], [], [(0, false)], [], [], [], [], [(0, false)], [], [], [], [], [], [], [(0, false)], [(888, true), (889, true), (890, true), (891, true), (892, true), (893, true), (894, true), (895, true)]]) (by kernel_rfl) (by kernel_rfl) rfl (by kernel_rfl) (by kernel_rfl) (ev_callA (by kernel_rfl) (f92_ok (d - 1) (dpt hd rfl) a3.Screen.Stops a3.Screen.Col a2 a3.Screen.Grid.Wide z109 hz109) (by kernel_rfl) (by kernel_rfl)) ?_
      refine zdRun (n := 5) (j := 23) (ts := [[], [], [], [], []]) (acc' := [[], [], [], [], [(0, false)], [], [], [], [], [(0, false)], [], [], [], [], [], [], [(0, false)], [(888, true), (889, true), (890, true), (891, true), (892, true), (893, true), (894, true), (895, true)], [], [], [], [], []]) rfl (by kernel_rfl) (by kernel_rfl) (by kernel_rfl) ?_
      refine zdEnd (by kernel_rfl) (by kernel_rfl) ?_
      refine zkSeq (zrReg (zL 2 2 ?_))
      refine bindE hS (fun z110 hz110 hS => ?_)
      refine bindE hS (fun z111 hz111 hS => ?_)
      refine bindE hS (fun z112 hz112 hS => ?_)
      refine bindE hS (fun z113 hz113 hS => ?_)
      refine zO (some 115) 3 (.callr 86 [(tm 113), (tm 114)]) (ev_callrXA (ids := [0, 1, 2, 3]) (bs := (gb_Gterminal a3 1 2 3)) (by kernel_rfl) (by kernel_rfl) (by kernel_rfl) (by kernel_rfl) (f86_ok (d - 1) (dpt hd rfl) z109.1 a3 z110 hz110) (by kernel_rfl) (sm_box (cs := (bm_Gterminal a3 1 0 2 0 3 0)) (by kernel_rfl) (sm_own e_GCell (e1 := 58) (k1 := 4) (xs := a3.Screen.Grid.Cells) (ys := z110.Screen.Grid.Cells) (by kernel_rfl) hz113 (sm_own e_GCell (e1 := 58) (k1 := 4) (xs := a3.Screen.Other.Cells) (ys := z110.Screen.Other.Cells) (by kernel_rfl) hz112 (sm_own e_GLine (e1 := 87) (k1 := 1) (xs := a3.Screen.Past) (ys := z110.Screen.Past) (by kernel_rfl) hz111 sm_nil)))) (by kernel_rfl)) ?_
      have lz111 : a3.Screen.Past.length = z110.Screen.Past.length := (of_decide_eq_true (chk_t hz111)).symm
      try delta f102_j1_J
      try rw [lz111]
      have lz112 : a3.Screen.Other.Cells.length = z110.Screen.Other.Cells.length := (of_decide_eq_true (chk_t hz112)).symm
      try delta f102_j1_J
      try rw [lz112]
      have lz113 : a3.Screen.Grid.Cells.length = z110.Screen.Grid.Cells.length := (of_decide_eq_true (chk_t hz113)).symm
      try delta f102_j1_J
      try rw [lz113]
      refine zE ?_
      refine zkBlk ?_
      refine zkSeq (zrSeq (zrReg (zL 1 1 (zE (zkSeq ?_)))))
      refine zrRet ?_
      refine zkNil ?_
      exact endQ hS hQ (fRetX (by kernel_rfl) (by kernel_rfl : finSt c102.fin _ = f102_fin z110 true) (by kernel_rfl) (f102_out z110 true))
    · replace hS := cond_f hc hS
      refine zL 1 2 (zE (zkSeq (zF (zrSeq (zrReg ?_)))))
      refine zB 117 1 (.cmpI .eql (tm 12) (ki 90)) (decide (a1.Code = 90)) (fun hc => ?_) (fun hc => ?_)
      · replace hS := cond_t hc hS
        refine zL 1 2 (zE (zkSeq (zT (zrSeq ?_))))
        refine zrRegD ?_
        refine zdRun (n := 11) (j := 11) (ts := [[], [], [], [], [(0, false)], [], [], [], [], [(0, false)], []]) (acc' := [[], [], [], [], [(0, false)], [], [], [], [], [(0, false)], []]) rfl (by kernel_rfl) (by kernel_rfl) (by kernel_rfl) ?_
        refine bindE hS (fun z114 hz114 hS => ?_)
        refine zdOp (d := some 130) (op := (.call 119 [(tm 123), (tm 128), (tm 129)])) (g := none) (j := 12) (t1 := [(1048, true), (1049, true), (1050, true), (1051, true), (1052, true), (1053, true), (1054, true), (1055, true)]) (acc' := [[], [], [], [], [(0, false)], [], [], [], [], [(0, false)], [], [(1048, true), (1049, true), (1050, true), (1051, true), (1052, true), (1053, true), (1054, true), (1055, true)]]) (by kernel_rfl) (by kernel_rfl) rfl (by kernel_rfl) (by kernel_rfl) (ev_callA (by kernel_rfl) (f119_ok (d - 1) (dpt hd rfl) a3.Screen.Stops a3.Screen.Col a2 z114 hz114) (by kernel_rfl) (by kernel_rfl)) ?_
        refine zdRun (n := 5) (j := 17) (ts := [[], [], [], [], []]) (acc' := [[], [], [], [], [(0, false)], [], [], [], [], [(0, false)], [], [(1048, true), (1049, true), (1050, true), (1051, true), (1052, true), (1053, true), (1054, true), (1055, true)], [], [], [], [], []]) rfl (by kernel_rfl) (by kernel_rfl) (by kernel_rfl) ?_
        refine zdEnd (by kernel_rfl) (by kernel_rfl) ?_
        refine zkSeq (zrReg (zL 2 2 ?_))
        refine bindE hS (fun z115 hz115 hS => ?_)
        refine bindE hS (fun z116 hz116 hS => ?_)
        refine bindE hS (fun z117 hz117 hS => ?_)
        refine bindE hS (fun z118 hz118 hS => ?_)
        refine zO (some 135) 3 (.callr 86 [(tm 133), (tm 134)]) (ev_callrXA (ids := [0, 1, 2, 3]) (bs := (gb_Gterminal a3 1 2 3)) (by kernel_rfl) (by kernel_rfl) (by kernel_rfl) (by kernel_rfl) (f86_ok (d - 1) (dpt hd rfl) z114.1 a3 z115 hz115) (by kernel_rfl) (sm_box (cs := (bm_Gterminal a3 1 0 2 0 3 0)) (by kernel_rfl) (sm_own e_GCell (e1 := 58) (k1 := 4) (xs := a3.Screen.Grid.Cells) (ys := z115.Screen.Grid.Cells) (by kernel_rfl) hz118 (sm_own e_GCell (e1 := 58) (k1 := 4) (xs := a3.Screen.Other.Cells) (ys := z115.Screen.Other.Cells) (by kernel_rfl) hz117 (sm_own e_GLine (e1 := 87) (k1 := 1) (xs := a3.Screen.Past) (ys := z115.Screen.Past) (by kernel_rfl) hz116 sm_nil)))) (by kernel_rfl)) ?_
        have lz116 : a3.Screen.Past.length = z115.Screen.Past.length := (of_decide_eq_true (chk_t hz116)).symm
        try delta f102_j1_J
        try rw [lz116]
        have lz117 : a3.Screen.Other.Cells.length = z115.Screen.Other.Cells.length := (of_decide_eq_true (chk_t hz117)).symm
        try delta f102_j1_J
        try rw [lz117]
        have lz118 : a3.Screen.Grid.Cells.length = z115.Screen.Grid.Cells.length := (of_decide_eq_true (chk_t hz118)).symm
        try delta f102_j1_J
        try rw [lz118]
        refine zE ?_
        refine zkBlk ?_
        refine zkSeq (zrSeq (zrReg (zL 1 1 (zE (zkSeq ?_)))))
        refine zrRet ?_
        refine zkNil ?_
        exact endQ hS hQ (fRetX (by kernel_rfl) (by kernel_rfl : finSt c102.fin _ = f102_fin z115 true) (by kernel_rfl) (f102_out z115 true))
      · replace hS := cond_f hc hS
        refine zL 1 2 (zE (zkSeq (zF (zrSeq (zrReg ?_)))))
        refine zB 137 1 (.cmpI .eql (tm 12) (ki 115)) (decide (a1.Code = 115)) (fun hc => ?_) (fun hc => ?_)
        · replace hS := cond_t hc hS
          refine zL 1 2 (zE (zkSeq (zT (zrReg (zL 1 1 ?_)))))
          refine bindE hS (fun z119 hz119 hS => ?_)
          refine bindE hS (fun z120 hz120 hS => ?_)
          refine bindE hS (fun z121 hz121 hS => ?_)
          refine bindE hS (fun z122 hz122 hS => ?_)
          refine zO (some 139) 2 (.callr 95 [(tm 138)]) (ev_callrXA (ids := [0, 1, 2, 3]) (bs := (gb_Gterminal a3 1 2 3)) (by kernel_rfl) (by kernel_rfl) (by kernel_rfl) (by kernel_rfl) (f95_ok (d - 1) (dpt hd rfl) a3 z119 hz119) (by kernel_rfl) (sm_box (cs := (bm_Gterminal a3 1 0 2 0 3 0)) (by kernel_rfl) (sm_own e_GCell (e1 := 58) (k1 := 4) (xs := a3.Screen.Grid.Cells) (ys := z119.Screen.Grid.Cells) (by kernel_rfl) hz122 (sm_own e_GCell (e1 := 58) (k1 := 4) (xs := a3.Screen.Other.Cells) (ys := z119.Screen.Other.Cells) (by kernel_rfl) hz121 (sm_own e_GLine (e1 := 87) (k1 := 1) (xs := a3.Screen.Past) (ys := z119.Screen.Past) (by kernel_rfl) hz120 sm_nil)))) (by kernel_rfl)) ?_
          have lz120 : a3.Screen.Past.length = z119.Screen.Past.length := (of_decide_eq_true (chk_t hz120)).symm
          try delta f102_j1_J
          try rw [lz120]
          have lz121 : a3.Screen.Other.Cells.length = z119.Screen.Other.Cells.length := (of_decide_eq_true (chk_t hz121)).symm
          try delta f102_j1_J
          try rw [lz121]
          have lz122 : a3.Screen.Grid.Cells.length = z119.Screen.Grid.Cells.length := (of_decide_eq_true (chk_t hz122)).symm
          try delta f102_j1_J
          try rw [lz122]
          refine zE ?_
          refine zkBlk ?_
          refine zkSeq (zrSeq (zrReg (zL 1 1 (zE (zkSeq ?_)))))
          refine zrRet ?_
          refine zkNil ?_
          exact endQ hS hQ (fRetX (by kernel_rfl) (by kernel_rfl : finSt c102.fin _ = f102_fin z119 true) (by kernel_rfl) (f102_out z119 true))
        · replace hS := cond_f hc hS
          refine zL 1 2 (zE (zkSeq (zF (zrSeq (zrReg ?_)))))
          refine zB 141 1 (.cmpI .eql (tm 12) (ki 117)) (decide (a1.Code = 117)) (fun hc => ?_) (fun hc => ?_)
          · replace hS := cond_t hc hS
            refine zL 1 2 (zE (zkSeq (zT (zrReg (zL 1 1 ?_)))))
            refine bindE hS (fun z123 hz123 hS => ?_)
            refine bindE hS (fun z124 hz124 hS => ?_)
            refine bindE hS (fun z125 hz125 hS => ?_)
            refine bindE hS (fun z126 hz126 hS => ?_)
            refine zO (some 143) 2 (.callr 96 [(tm 142)]) (ev_callrXA (ids := [0, 1, 2, 3]) (bs := (gb_Gterminal a3 1 2 3)) (by kernel_rfl) (by kernel_rfl) (by kernel_rfl) (by kernel_rfl) (f96_ok (d - 1) (dpt hd rfl) a3 z123 hz123) (by kernel_rfl) (sm_box (cs := (bm_Gterminal a3 1 0 2 0 3 0)) (by kernel_rfl) (sm_own e_GCell (e1 := 58) (k1 := 4) (xs := a3.Screen.Grid.Cells) (ys := z123.Screen.Grid.Cells) (by kernel_rfl) hz126 (sm_own e_GCell (e1 := 58) (k1 := 4) (xs := a3.Screen.Other.Cells) (ys := z123.Screen.Other.Cells) (by kernel_rfl) hz125 (sm_own e_GLine (e1 := 87) (k1 := 1) (xs := a3.Screen.Past) (ys := z123.Screen.Past) (by kernel_rfl) hz124 sm_nil)))) (by kernel_rfl)) ?_
            have lz124 : a3.Screen.Past.length = z123.Screen.Past.length := (of_decide_eq_true (chk_t hz124)).symm
            try delta f102_j1_J
            try rw [lz124]
            have lz125 : a3.Screen.Other.Cells.length = z123.Screen.Other.Cells.length := (of_decide_eq_true (chk_t hz125)).symm
            try delta f102_j1_J
            try rw [lz125]
            have lz126 : a3.Screen.Grid.Cells.length = z123.Screen.Grid.Cells.length := (of_decide_eq_true (chk_t hz126)).symm
            try delta f102_j1_J
            try rw [lz126]
            refine zE ?_
            refine zkBlk ?_
            refine zkSeq (zrSeq (zrReg (zL 1 1 (zE (zkSeq ?_)))))
            refine zrRet ?_
            refine zkNil ?_
            exact endQ hS hQ (fRetX (by kernel_rfl) (by kernel_rfl : finSt c102.fin _ = f102_fin z123 true) (by kernel_rfl) (f102_out z123 true))
          · replace hS := cond_f hc hS
            refine zL 1 2 (zE (zkSeq (zF (zrSeq (zrReg (zL 1 1 (zE (zkSeq ?_))))))))
            refine zrRet ?_
            refine zkBlkR ?_
            refine zkSeqR ?_
            refine zkNil ?_
            exact endQ hS hQ (fRetX (by kernel_rfl) (by kernel_rfl : finSt c102.fin _ = f102_fin a3 false) (by kernel_rfl) (f102_out a3 false))
def f102_j0_J (a1 : GAct) (a2 : Int) (a3 : Gterminal) (p32 : Bool) : St := ⟨(up (up (up (up (up u0 61 (dB p32)) 12 (dI a1.Code)) 4 (pt 40)) 2 (dI a2)) 0 (pt 0)), (gh_Gterminal (up h0 40 ⟨0, some (.box (bx_GAct a1 (.d (.sl a1.Args.length ((eInt .i64).cells a1.Args)))))⟩) a3 0 1 2 3)⟩
noncomputable def f102_j0 (a1 : GAct) (a2 : Int) (a3 : Gterminal) (p32 : Bool) : Option (Gterminal × Bool) := (bif p32 then ((f86 (IntKind.i64.wrap (a2 - 1)) a3).bind fun z96 => ((chk (decide (z96.Screen.Past.length = a3.Screen.Past.length))).bind fun z97 => ((chk (decide (z96.Screen.Other.Cells.length = a3.Screen.Other.Cells.length))).bind fun z98 => ((chk (decide (z96.Screen.Grid.Cells.length = a3.Screen.Grid.Cells.length))).bind fun z99 => (some (z96, true)))))) else (bif (decide (a1.Code = 100)) then ((f118 (IntKind.i64.wrap (a2 - 1)) a3.Screen.Col a3).bind fun z100 => ((chk (decide (z100.Screen.Past.length = a3.Screen.Past.length))).bind fun z101 => ((chk (decide (z100.Screen.Other.Cells.length = a3.Screen.Other.Cells.length))).bind fun z102 => ((chk (decide (z100.Screen.Grid.Cells.length = a3.Screen.Grid.Cells.length))).bind fun z103 => (some (z100, true)))))) else (bif (decide (a1.Code = 72)) then (f102_j1 a1 a2 a3 true) else (bif (decide (a1.Code = 102)) then (f102_j1 a1 a2 a3 true) else (f102_j1 a1 a2 a3 false)))))
theorem f102_j0_ok {d : Nat} (hd : 4 ≤ d) (a1 : GAct) (a2 : Int) (a3 : Gterminal) {r : Gterminal × Bool} {Q : PX → St → Prop} (hQ : ∀ e st', f102_Q r e st' → Q e st') (p32 : Bool) (hS : f102_j0 a1 a2 a3 p32 = some r) {st : St} (he : keepSt [0, 2, 4, 12, 61] [(0, .id 0), (1, .id 1), (2, .id 2), (3, .id 3), (40, .id 40)] [] st = f102_j0_J a1 a2 a3 p32) : ZR (lev codes baseL (d - 1)) Q c102_3 [.blk 0, .seq c102_2] st := by
  refine zrKeep he ?_
  unfold f102_j0 at hS
  refine zrSplit 61 p32 (by kernel_rfl) (fun hc => ?_) (fun hc => ?_)
  · replace hS := cond_t hc hS
    refine zT (zrReg (zL 3 3 ?_))
    refine bindE hS (fun z96 hz96 hS => ?_)
    refine bindE hS (fun z97 hz97 hS => ?_)
    refine bindE hS (fun z98 hz98 hS => ?_)
    refine bindE hS (fun z99 hz99 hS => ?_)
    refine zO (some 67) 4 (.callr 86 [(tm 64), (tm 66)]) (ev_callrXA (ids := [0, 1, 2, 3]) (bs := (gb_Gterminal a3 1 2 3)) (by kernel_rfl) (by kernel_rfl) (by kernel_rfl) (by kernel_rfl) (f86_ok (d - 1) (dpt hd rfl) (IntKind.i64.wrap (a2 - 1)) a3 z96 hz96) (by kernel_rfl) (sm_box (cs := (bm_Gterminal a3 1 0 2 0 3 0)) (by kernel_rfl) (sm_own e_GCell (e1 := 58) (k1 := 4) (xs := a3.Screen.Grid.Cells) (ys := z96.Screen.Grid.Cells) (by kernel_rfl) hz99 (sm_own e_GCell (e1 := 58) (k1 := 4) (xs := a3.Screen.Other.Cells) (ys := z96.Screen.Other.Cells) (by kernel_rfl) hz98 (sm_own e_GLine (e1 := 87) (k1 := 1) (xs := a3.Screen.Past) (ys := z96.Screen.Past) (by kernel_rfl) hz97 sm_nil)))) (by kernel_rfl)) ?_
    have lz97 : a3.Screen.Past.length = z96.Screen.Past.length := (of_decide_eq_true (chk_t hz97)).symm
    try delta f102_j0_J
    try rw [lz97]
    have lz98 : a3.Screen.Other.Cells.length = z96.Screen.Other.Cells.length := (of_decide_eq_true (chk_t hz98)).symm
    try delta f102_j0_J
    try rw [lz98]
    have lz99 : a3.Screen.Grid.Cells.length = z96.Screen.Grid.Cells.length := (of_decide_eq_true (chk_t hz99)).symm
    try delta f102_j0_J
    try rw [lz99]
    refine zE ?_
    refine zkBlk ?_
    refine zkSeq (zrSeq (zrReg (zL 1 1 (zE (zkSeq ?_)))))
    refine zrRet ?_
    refine zkNil ?_
    exact endQ hS hQ (fRetX (by kernel_rfl) (by kernel_rfl : finSt c102.fin _ = f102_fin z96 true) (by kernel_rfl) (f102_out z96 true))
  · replace hS := cond_f hc hS
    refine zF (zrSeq (zrReg ?_))
    refine zB 69 1 (.cmpI .eql (tm 12) (ki 100)) (decide (a1.Code = 100)) (fun hc => ?_) (fun hc => ?_)
    · replace hS := cond_t hc hS
      refine zL 1 2 (zE (zkSeq (zT (zrReg (zL 8 8 ?_)))))
      refine bindE hS (fun z100 hz100 hS => ?_)
      refine bindE hS (fun z101 hz101 hS => ?_)
      refine bindE hS (fun z102 hz102 hS => ?_)
      refine bindE hS (fun z103 hz103 hS => ?_)
      refine zO (some 78) 9 (.callr 118 [(tm 70), (tm 72), (tm 77)]) (ev_callrXA (ids := [0, 1, 2, 3]) (bs := (gb_Gterminal a3 1 2 3)) (by kernel_rfl) (by kernel_rfl) (by kernel_rfl) (by kernel_rfl) (f118_ok (d - 1) (dpt hd rfl) (IntKind.i64.wrap (a2 - 1)) a3.Screen.Col a3 z100 hz100) (by kernel_rfl) (sm_box (cs := (bm_Gterminal a3 1 0 2 0 3 0)) (by kernel_rfl) (sm_own e_GCell (e1 := 58) (k1 := 4) (xs := a3.Screen.Grid.Cells) (ys := z100.Screen.Grid.Cells) (by kernel_rfl) hz103 (sm_own e_GCell (e1 := 58) (k1 := 4) (xs := a3.Screen.Other.Cells) (ys := z100.Screen.Other.Cells) (by kernel_rfl) hz102 (sm_own e_GLine (e1 := 87) (k1 := 1) (xs := a3.Screen.Past) (ys := z100.Screen.Past) (by kernel_rfl) hz101 sm_nil)))) (by kernel_rfl)) ?_
      have lz101 : a3.Screen.Past.length = z100.Screen.Past.length := (of_decide_eq_true (chk_t hz101)).symm
      try delta f102_j0_J
      try rw [lz101]
      have lz102 : a3.Screen.Other.Cells.length = z100.Screen.Other.Cells.length := (of_decide_eq_true (chk_t hz102)).symm
      try delta f102_j0_J
      try rw [lz102]
      have lz103 : a3.Screen.Grid.Cells.length = z100.Screen.Grid.Cells.length := (of_decide_eq_true (chk_t hz103)).symm
      try delta f102_j0_J
      try rw [lz103]
      refine zE ?_
      refine zkBlk ?_
      refine zkSeq (zrSeq (zrReg (zL 1 1 (zE (zkSeq ?_)))))
      refine zrRet ?_
      refine zkNil ?_
      exact endQ hS hQ (fRetX (by kernel_rfl) (by kernel_rfl : finSt c102.fin _ = f102_fin z100 true) (by kernel_rfl) (f102_out z100 true))
    · replace hS := cond_f hc hS
      refine zL 1 2 (zE (zkSeq (zF (zrSeq (zrSeq (zrReg ?_))))))
      refine zB 80 1 (.cmpI .eql (tm 12) (ki 72)) (decide (a1.Code = 72)) (fun hc => ?_) (fun hc => ?_)
      · replace hS := cond_t hc hS
        refine zL 1 2 (zE (zkSeq (zT ?_)))
        refine zrSkip ?_
        refine zkSeq ?_
        exact f102_j1_ok hd a1 a2 a3 hQ true hS (by kernel_rfl)
      · replace hS := cond_f hc hS
        refine zL 1 2 (zE (zkSeq (zF (zrReg ?_))))
        refine zB 81 1 (.cmpI .eql (tm 12) (ki 102)) (decide (a1.Code = 102)) (fun hc => ?_) (fun hc => ?_)
        · replace hS := cond_t hc hS
          refine zL 1 2 (zE (zkSeq ?_))
          exact f102_j1_ok hd a1 a2 a3 hQ true hS (by kernel_rfl)
        · replace hS := cond_f hc hS
          refine zL 1 2 (zE (zkSeq ?_))
          exact f102_j1_ok hd a1 a2 a3 hQ false hS (by kernel_rfl)
noncomputable def f102 (a1 : GAct) (a2 : Int) (a3 : Gterminal) : Option (Gterminal × Bool) := (bif (decide (a1.Code = 65)) then ((f117 a2 a3).bind fun z64 => ((chk (decide (z64.Screen.Past.length = a3.Screen.Past.length))).bind fun z65 => ((chk (decide (z64.Screen.Other.Cells.length = a3.Screen.Other.Cells.length))).bind fun z66 => ((chk (decide (z64.Screen.Grid.Cells.length = a3.Screen.Grid.Cells.length))).bind fun z67 => (some (z64, true)))))) else (bif (decide (a1.Code = 66)) then ((f117 (IntKind.i64.wrap (0 - a2)) a3).bind fun z68 => ((chk (decide (z68.Screen.Past.length = a3.Screen.Past.length))).bind fun z69 => ((chk (decide (z68.Screen.Other.Cells.length = a3.Screen.Other.Cells.length))).bind fun z70 => ((chk (decide (z68.Screen.Grid.Cells.length = a3.Screen.Grid.Cells.length))).bind fun z71 => (some (z68, true)))))) else (bif (decide (a1.Code = 67)) then ((f86 (IntKind.i64.wrap (a3.Screen.Col + a2)) a3).bind fun z72 => ((chk (decide (z72.Screen.Past.length = a3.Screen.Past.length))).bind fun z73 => ((chk (decide (z72.Screen.Other.Cells.length = a3.Screen.Other.Cells.length))).bind fun z74 => ((chk (decide (z72.Screen.Grid.Cells.length = a3.Screen.Grid.Cells.length))).bind fun z75 => (some (z72, true)))))) else (bif (decide (a1.Code = 68)) then ((f86 (IntKind.i64.wrap (a3.Screen.Col - a2)) a3).bind fun z76 => ((chk (decide (z76.Screen.Past.length = a3.Screen.Past.length))).bind fun z77 => ((chk (decide (z76.Screen.Other.Cells.length = a3.Screen.Other.Cells.length))).bind fun z78 => ((chk (decide (z76.Screen.Grid.Cells.length = a3.Screen.Grid.Cells.length))).bind fun z79 => (some (z76, true)))))) else (bif (decide (a1.Code = 69)) then ((f117 (IntKind.i64.wrap (0 - a2)) a3).bind fun z80 => ((chk (decide (z80.Screen.Past.length = a3.Screen.Past.length))).bind fun z81 => ((chk (decide (z80.Screen.Other.Cells.length = a3.Screen.Other.Cells.length))).bind fun z82 => ((chk (decide (z80.Screen.Grid.Cells.length = a3.Screen.Grid.Cells.length))).bind fun z83 => ((f86 0 z80).bind fun z84 => ((chk (decide (z84.Screen.Past.length = z80.Screen.Past.length))).bind fun z85 => ((chk (decide (z84.Screen.Other.Cells.length = z80.Screen.Other.Cells.length))).bind fun z86 => ((chk (decide (z84.Screen.Grid.Cells.length = z80.Screen.Grid.Cells.length))).bind fun z87 => (some (z84, true)))))))))) else (bif (decide (a1.Code = 70)) then ((f117 a2 a3).bind fun z88 => ((chk (decide (z88.Screen.Past.length = a3.Screen.Past.length))).bind fun z89 => ((chk (decide (z88.Screen.Other.Cells.length = a3.Screen.Other.Cells.length))).bind fun z90 => ((chk (decide (z88.Screen.Grid.Cells.length = a3.Screen.Grid.Cells.length))).bind fun z91 => ((f86 0 z88).bind fun z92 => ((chk (decide (z92.Screen.Past.length = z88.Screen.Past.length))).bind fun z93 => ((chk (decide (z92.Screen.Other.Cells.length = z88.Screen.Other.Cells.length))).bind fun z94 => ((chk (decide (z92.Screen.Grid.Cells.length = z88.Screen.Grid.Cells.length))).bind fun z95 => (some (z92, true)))))))))) else (bif (decide (a1.Code = 71)) then (f102_j0 a1 a2 a3 true) else (bif (decide (a1.Code = 96)) then (f102_j0 a1 a2 a3 true) else (f102_j0 a1 a2 a3 false)))))))))
theorem f102_ok (d : Nat) (hd : 4 ≤ d) (a1 : GAct) (a2 : Int) (a3 : Gterminal) (r : Gterminal × Bool) (hS : f102 a1 a2 a3 = some r) : lev codes baseL d 102 [(pt 0), (.agg ((dI a1.Kind) :: ((dI a1.Code) :: ((dI a1.Mark) :: ((.d (.str a1.Inter)) :: ((.d (.sl a1.Args.length ((eInt .i64).cells a1.Args))) :: ((.d (.str a1.Text)) :: []))))))), (dI a2)] (gb_Gterminal a3 1 2 3) = some ((dB r.2), [(gx_Gterminal r.1 1 2 3), (go0_Gterminal r.1), (go1_Gterminal r.1), (go2_Gterminal r.1), .box []]) := by
  refine lev_go codes102 rfl rfl (Nat.le_trans (Nat.le_of_ble_eq_true rfl) hd) fun Q hQ => ?_
  unfold f102 at hS
  show ZR _ Q c102_b [] _
  replace hQ : ∀ e st', f102_Q r e st' → Q e st' := hQ
  refine zrSeq (zrReg (zL 2 2 (zE (zkSeq (zrSeq (zrSeq (zrReg (zL 2 2 (zE (zkSeq ?_))))))))))
  refine zrBlk ?_
  refine zrSeq (zrReg ?_)
  refine zB 14 1 (.cmpI .eql (tm 12) (ki 65)) (decide (a1.Code = 65)) (fun hc => ?_) (fun hc => ?_)
  · replace hS := cond_t hc hS
    refine zL 1 2 (zE (zkSeq (zT (zrReg (zL 2 2 ?_)))))
    refine bindE hS (fun z64 hz64 hS => ?_)
    refine bindE hS (fun z65 hz65 hS => ?_)
    refine bindE hS (fun z66 hz66 hS => ?_)
    refine bindE hS (fun z67 hz67 hS => ?_)
    refine zO (some 17) 3 (.callr 117 [(tm 15), (tm 16)]) (ev_callrXA (ids := [0, 1, 2, 3]) (bs := (gb_Gterminal a3 1 2 3)) (by kernel_rfl) (by kernel_rfl) (by kernel_rfl) (by kernel_rfl) (f117_ok (d - 1) (dpt hd rfl) a2 a3 z64 hz64) (by kernel_rfl) (sm_box (cs := (bm_Gterminal a3 1 0 2 0 3 0)) (by kernel_rfl) (sm_own e_GCell (e1 := 58) (k1 := 4) (xs := a3.Screen.Grid.Cells) (ys := z64.Screen.Grid.Cells) (by kernel_rfl) hz67 (sm_own e_GCell (e1 := 58) (k1 := 4) (xs := a3.Screen.Other.Cells) (ys := z64.Screen.Other.Cells) (by kernel_rfl) hz66 (sm_own e_GLine (e1 := 87) (k1 := 1) (xs := a3.Screen.Past) (ys := z64.Screen.Past) (by kernel_rfl) hz65 sm_nil)))) (by kernel_rfl)) ?_
    have lz65 : a3.Screen.Past.length = z64.Screen.Past.length := (of_decide_eq_true (chk_t hz65)).symm
    skip
    try rw [lz65]
    have lz66 : a3.Screen.Other.Cells.length = z64.Screen.Other.Cells.length := (of_decide_eq_true (chk_t hz66)).symm
    skip
    try rw [lz66]
    have lz67 : a3.Screen.Grid.Cells.length = z64.Screen.Grid.Cells.length := (of_decide_eq_true (chk_t hz67)).symm
    skip
    try rw [lz67]
    refine zE ?_
    refine zkBlk ?_
    refine zkSeq (zrSeq (zrReg (zL 1 1 (zE (zkSeq ?_)))))
    refine zrRet ?_
    refine zkNil ?_
    exact endQ hS hQ (fRetX (by kernel_rfl) (by kernel_rfl : finSt c102.fin _ = f102_fin z64 true) (by kernel_rfl) (f102_out z64 true))
  · replace hS := cond_f hc hS
    refine zL 1 2 (zE (zkSeq (zF (zrSeq (zrReg ?_)))))
    refine zB 19 1 (.cmpI .eql (tm 12) (ki 66)) (decide (a1.Code = 66)) (fun hc => ?_) (fun hc => ?_)
    · replace hS := cond_t hc hS
      refine zL 1 2 (zE (zkSeq (zT (zrReg (zL 3 3 ?_)))))
      refine bindE hS (fun z68 hz68 hS => ?_)
      refine bindE hS (fun z69 hz69 hS => ?_)
      refine bindE hS (fun z70 hz70 hS => ?_)
      refine bindE hS (fun z71 hz71 hS => ?_)
      refine zO (some 23) 4 (.callr 117 [(tm 20), (tm 22)]) (ev_callrXA (ids := [0, 1, 2, 3]) (bs := (gb_Gterminal a3 1 2 3)) (by kernel_rfl) (by kernel_rfl) (by kernel_rfl) (by kernel_rfl) (f117_ok (d - 1) (dpt hd rfl) (IntKind.i64.wrap (0 - a2)) a3 z68 hz68) (by kernel_rfl) (sm_box (cs := (bm_Gterminal a3 1 0 2 0 3 0)) (by kernel_rfl) (sm_own e_GCell (e1 := 58) (k1 := 4) (xs := a3.Screen.Grid.Cells) (ys := z68.Screen.Grid.Cells) (by kernel_rfl) hz71 (sm_own e_GCell (e1 := 58) (k1 := 4) (xs := a3.Screen.Other.Cells) (ys := z68.Screen.Other.Cells) (by kernel_rfl) hz70 (sm_own e_GLine (e1 := 87) (k1 := 1) (xs := a3.Screen.Past) (ys := z68.Screen.Past) (by kernel_rfl) hz69 sm_nil)))) (by kernel_rfl)) ?_
      have lz69 : a3.Screen.Past.length = z68.Screen.Past.length := (of_decide_eq_true (chk_t hz69)).symm
      skip
      try rw [lz69]
      have lz70 : a3.Screen.Other.Cells.length = z68.Screen.Other.Cells.length := (of_decide_eq_true (chk_t hz70)).symm
      skip
      try rw [lz70]
      have lz71 : a3.Screen.Grid.Cells.length = z68.Screen.Grid.Cells.length := (of_decide_eq_true (chk_t hz71)).symm
      skip
      try rw [lz71]
      refine zE ?_
      refine zkBlk ?_
      refine zkSeq (zrSeq (zrReg (zL 1 1 (zE (zkSeq ?_)))))
      refine zrRet ?_
      refine zkNil ?_
      exact endQ hS hQ (fRetX (by kernel_rfl) (by kernel_rfl : finSt c102.fin _ = f102_fin z68 true) (by kernel_rfl) (f102_out z68 true))
    · replace hS := cond_f hc hS
      refine zL 1 2 (zE (zkSeq (zF (zrSeq (zrReg ?_)))))
      refine zB 25 1 (.cmpI .eql (tm 12) (ki 67)) (decide (a1.Code = 67)) (fun hc => ?_) (fun hc => ?_)
      · replace hS := cond_t hc hS
        refine zL 1 2 (zE (zkSeq (zT (zrReg (zL 8 8 ?_)))))
        refine bindE hS (fun z72 hz72 hS => ?_)
        refine bindE hS (fun z73 hz73 hS => ?_)
        refine bindE hS (fun z74 hz74 hS => ?_)
        refine bindE hS (fun z75 hz75 hS => ?_)
        refine zO (some 34) 9 (.callr 86 [(tm 26), (tm 33)]) (ev_callrXA (ids := [0, 1, 2, 3]) (bs := (gb_Gterminal a3 1 2 3)) (by kernel_rfl) (by kernel_rfl) (by kernel_rfl) (by kernel_rfl) (f86_ok (d - 1) (dpt hd rfl) (IntKind.i64.wrap (a3.Screen.Col + a2)) a3 z72 hz72) (by kernel_rfl) (sm_box (cs := (bm_Gterminal a3 1 0 2 0 3 0)) (by kernel_rfl) (sm_own e_GCell (e1 := 58) (k1 := 4) (xs := a3.Screen.Grid.Cells) (ys := z72.Screen.Grid.Cells) (by kernel_rfl) hz75 (sm_own e_GCell (e1 := 58) (k1 := 4) (xs := a3.Screen.Other.Cells) (ys := z72.Screen.Other.Cells) (by kernel_rfl) hz74 (sm_own e_GLine (e1 := 87) (k1 := 1) (xs := a3.Screen.Past) (ys := z72.Screen.Past) (by kernel_rfl) hz73 sm_nil)))) (by kernel_rfl)) ?_
        have lz73 : a3.Screen.Past.length = z72.Screen.Past.length := (of_decide_eq_true (chk_t hz73)).symm
        skip
        try rw [lz73]
        have lz74 : a3.Screen.Other.Cells.length = z72.Screen.Other.Cells.length := (of_decide_eq_true (chk_t hz74)).symm
        skip
        try rw [lz74]
        have lz75 : a3.Screen.Grid.Cells.length = z72.Screen.Grid.Cells.length := (of_decide_eq_true (chk_t hz75)).symm
        skip
        try rw [lz75]
        refine zE ?_
        refine zkBlk ?_
        refine zkSeq (zrSeq (zrReg (zL 1 1 (zE (zkSeq ?_)))))
        refine zrRet ?_
        refine zkNil ?_
        exact endQ hS hQ (fRetX (by kernel_rfl) (by kernel_rfl : finSt c102.fin _ = f102_fin z72 true) (by kernel_rfl) (f102_out z72 true))
      · replace hS := cond_f hc hS
        refine zL 1 2 (zE (zkSeq (zF (zrSeq (zrReg ?_)))))
        refine zB 36 1 (.cmpI .eql (tm 12) (ki 68)) (decide (a1.Code = 68)) (fun hc => ?_) (fun hc => ?_)
        · replace hS := cond_t hc hS
          refine zL 1 2 (zE (zkSeq (zT (zrReg (zL 8 8 ?_)))))
          refine bindE hS (fun z76 hz76 hS => ?_)
          refine bindE hS (fun z77 hz77 hS => ?_)
          refine bindE hS (fun z78 hz78 hS => ?_)
          refine bindE hS (fun z79 hz79 hS => ?_)
          refine zO (some 45) 9 (.callr 86 [(tm 37), (tm 44)]) (ev_callrXA (ids := [0, 1, 2, 3]) (bs := (gb_Gterminal a3 1 2 3)) (by kernel_rfl) (by kernel_rfl) (by kernel_rfl) (by kernel_rfl) (f86_ok (d - 1) (dpt hd rfl) (IntKind.i64.wrap (a3.Screen.Col - a2)) a3 z76 hz76) (by kernel_rfl) (sm_box (cs := (bm_Gterminal a3 1 0 2 0 3 0)) (by kernel_rfl) (sm_own e_GCell (e1 := 58) (k1 := 4) (xs := a3.Screen.Grid.Cells) (ys := z76.Screen.Grid.Cells) (by kernel_rfl) hz79 (sm_own e_GCell (e1 := 58) (k1 := 4) (xs := a3.Screen.Other.Cells) (ys := z76.Screen.Other.Cells) (by kernel_rfl) hz78 (sm_own e_GLine (e1 := 87) (k1 := 1) (xs := a3.Screen.Past) (ys := z76.Screen.Past) (by kernel_rfl) hz77 sm_nil)))) (by kernel_rfl)) ?_
          have lz77 : a3.Screen.Past.length = z76.Screen.Past.length := (of_decide_eq_true (chk_t hz77)).symm
          skip
          try rw [lz77]
          have lz78 : a3.Screen.Other.Cells.length = z76.Screen.Other.Cells.length := (of_decide_eq_true (chk_t hz78)).symm
          skip
          try rw [lz78]
          have lz79 : a3.Screen.Grid.Cells.length = z76.Screen.Grid.Cells.length := (of_decide_eq_true (chk_t hz79)).symm
          skip
          try rw [lz79]
          refine zE ?_
          refine zkBlk ?_
          refine zkSeq (zrSeq (zrReg (zL 1 1 (zE (zkSeq ?_)))))
          refine zrRet ?_
          refine zkNil ?_
          exact endQ hS hQ (fRetX (by kernel_rfl) (by kernel_rfl : finSt c102.fin _ = f102_fin z76 true) (by kernel_rfl) (f102_out z76 true))
        · replace hS := cond_f hc hS
          refine zL 1 2 (zE (zkSeq (zF (zrSeq (zrReg ?_)))))
          refine zB 47 1 (.cmpI .eql (tm 12) (ki 69)) (decide (a1.Code = 69)) (fun hc => ?_) (fun hc => ?_)
          · replace hS := cond_t hc hS
            refine zL 1 2 (zE (zkSeq (zT (zrSeq (zrReg (zL 3 3 ?_))))))
            refine bindE hS (fun z80 hz80 hS => ?_)
            refine bindE hS (fun z81 hz81 hS => ?_)
            refine bindE hS (fun z82 hz82 hS => ?_)
            refine bindE hS (fun z83 hz83 hS => ?_)
            refine zO (some 51) 4 (.callr 117 [(tm 48), (tm 50)]) (ev_callrXA (ids := [0, 1, 2, 3]) (bs := (gb_Gterminal a3 1 2 3)) (by kernel_rfl) (by kernel_rfl) (by kernel_rfl) (by kernel_rfl) (f117_ok (d - 1) (dpt hd rfl) (IntKind.i64.wrap (0 - a2)) a3 z80 hz80) (by kernel_rfl) (sm_box (cs := (bm_Gterminal a3 1 0 2 0 3 0)) (by kernel_rfl) (sm_own e_GCell (e1 := 58) (k1 := 4) (xs := a3.Screen.Grid.Cells) (ys := z80.Screen.Grid.Cells) (by kernel_rfl) hz83 (sm_own e_GCell (e1 := 58) (k1 := 4) (xs := a3.Screen.Other.Cells) (ys := z80.Screen.Other.Cells) (by kernel_rfl) hz82 (sm_own e_GLine (e1 := 87) (k1 := 1) (xs := a3.Screen.Past) (ys := z80.Screen.Past) (by kernel_rfl) hz81 sm_nil)))) (by kernel_rfl)) ?_
            have lz81 : a3.Screen.Past.length = z80.Screen.Past.length := (of_decide_eq_true (chk_t hz81)).symm
            skip
            try rw [lz81]
            have lz82 : a3.Screen.Other.Cells.length = z80.Screen.Other.Cells.length := (of_decide_eq_true (chk_t hz82)).symm
            skip
            try rw [lz82]
            have lz83 : a3.Screen.Grid.Cells.length = z80.Screen.Grid.Cells.length := (of_decide_eq_true (chk_t hz83)).symm
            skip
            try rw [lz83]
            refine zE (zkSeq (zrReg (zL 1 1 ?_)))
            refine bindE hS (fun z84 hz84 hS => ?_)
            refine bindE hS (fun z85 hz85 hS => ?_)
            refine bindE hS (fun z86 hz86 hS => ?_)
            refine bindE hS (fun z87 hz87 hS => ?_)
            refine zO (some 53) 2 (.callr 86 [(tm 52), (ki 0)]) (ev_callrXA (ids := [0, 1, 2, 3]) (bs := (gb_Gterminal z80 1 2 3)) (by kernel_rfl) (by kernel_rfl) (by kernel_rfl) (by kernel_rfl) (f86_ok (d - 1) (dpt hd rfl) 0 z80 z84 hz84) (by kernel_rfl) (sm_box (cs := (bm_Gterminal z80 1 0 2 0 3 0)) (by kernel_rfl) (sm_own e_GCell (e1 := 58) (k1 := 4) (xs := z80.Screen.Grid.Cells) (ys := z84.Screen.Grid.Cells) (by kernel_rfl) hz87 (sm_own e_GCell (e1 := 58) (k1 := 4) (xs := z80.Screen.Other.Cells) (ys := z84.Screen.Other.Cells) (by kernel_rfl) hz86 (sm_own e_GLine (e1 := 87) (k1 := 1) (xs := z80.Screen.Past) (ys := z84.Screen.Past) (by kernel_rfl) hz85 sm_nil)))) (by kernel_rfl)) ?_
            have lz85 : z80.Screen.Past.length = z84.Screen.Past.length := (of_decide_eq_true (chk_t hz85)).symm
            skip
            try rw [lz85]
            have lz86 : z80.Screen.Other.Cells.length = z84.Screen.Other.Cells.length := (of_decide_eq_true (chk_t hz86)).symm
            skip
            try rw [lz86]
            have lz87 : z80.Screen.Grid.Cells.length = z84.Screen.Grid.Cells.length := (of_decide_eq_true (chk_t hz87)).symm
            skip
            try rw [lz87]
            refine zE ?_
            refine zkBlk ?_
            refine zkSeq (zrSeq (zrReg (zL 1 1 (zE (zkSeq ?_)))))
            refine zrRet ?_
            refine zkNil ?_
            exact endQ hS hQ (fRetX (by kernel_rfl) (by kernel_rfl : finSt c102.fin _ = f102_fin z84 true) (by kernel_rfl) (f102_out z84 true))
          · replace hS := cond_f hc hS
            refine zL 1 2 (zE (zkSeq (zF (zrSeq (zrReg ?_)))))
            refine zB 55 1 (.cmpI .eql (tm 12) (ki 70)) (decide (a1.Code = 70)) (fun hc => ?_) (fun hc => ?_)
            · replace hS := cond_t hc hS
              refine zL 1 2 (zE (zkSeq (zT (zrSeq (zrReg (zL 2 2 ?_))))))
              refine bindE hS (fun z88 hz88 hS => ?_)
              refine bindE hS (fun z89 hz89 hS => ?_)
              refine bindE hS (fun z90 hz90 hS => ?_)
              refine bindE hS (fun z91 hz91 hS => ?_)
              refine zO (some 58) 3 (.callr 117 [(tm 56), (tm 57)]) (ev_callrXA (ids := [0, 1, 2, 3]) (bs := (gb_Gterminal a3 1 2 3)) (by kernel_rfl) (by kernel_rfl) (by kernel_rfl) (by kernel_rfl) (f117_ok (d - 1) (dpt hd rfl) a2 a3 z88 hz88) (by kernel_rfl) (sm_box (cs := (bm_Gterminal a3 1 0 2 0 3 0)) (by kernel_rfl) (sm_own e_GCell (e1 := 58) (k1 := 4) (xs := a3.Screen.Grid.Cells) (ys := z88.Screen.Grid.Cells) (by kernel_rfl) hz91 (sm_own e_GCell (e1 := 58) (k1 := 4) (xs := a3.Screen.Other.Cells) (ys := z88.Screen.Other.Cells) (by kernel_rfl) hz90 (sm_own e_GLine (e1 := 87) (k1 := 1) (xs := a3.Screen.Past) (ys := z88.Screen.Past) (by kernel_rfl) hz89 sm_nil)))) (by kernel_rfl)) ?_
              have lz89 : a3.Screen.Past.length = z88.Screen.Past.length := (of_decide_eq_true (chk_t hz89)).symm
              skip
              try rw [lz89]
              have lz90 : a3.Screen.Other.Cells.length = z88.Screen.Other.Cells.length := (of_decide_eq_true (chk_t hz90)).symm
              skip
              try rw [lz90]
              have lz91 : a3.Screen.Grid.Cells.length = z88.Screen.Grid.Cells.length := (of_decide_eq_true (chk_t hz91)).symm
              skip
              try rw [lz91]
              refine zE (zkSeq (zrReg (zL 1 1 ?_)))
              refine bindE hS (fun z92 hz92 hS => ?_)
              refine bindE hS (fun z93 hz93 hS => ?_)
              refine bindE hS (fun z94 hz94 hS => ?_)
              refine bindE hS (fun z95 hz95 hS => ?_)
              refine zO (some 60) 2 (.callr 86 [(tm 59), (ki 0)]) (ev_callrXA (ids := [0, 1, 2, 3]) (bs := (gb_Gterminal z88 1 2 3)) (by kernel_rfl) (by kernel_rfl) (by kernel_rfl) (by kernel_rfl) (f86_ok (d - 1) (dpt hd rfl) 0 z88 z92 hz92) (by kernel_rfl) (sm_box (cs := (bm_Gterminal z88 1 0 2 0 3 0)) (by kernel_rfl) (sm_own e_GCell (e1 := 58) (k1 := 4) (xs := z88.Screen.Grid.Cells) (ys := z92.Screen.Grid.Cells) (by kernel_rfl) hz95 (sm_own e_GCell (e1 := 58) (k1 := 4) (xs := z88.Screen.Other.Cells) (ys := z92.Screen.Other.Cells) (by kernel_rfl) hz94 (sm_own e_GLine (e1 := 87) (k1 := 1) (xs := z88.Screen.Past) (ys := z92.Screen.Past) (by kernel_rfl) hz93 sm_nil)))) (by kernel_rfl)) ?_
              have lz93 : z88.Screen.Past.length = z92.Screen.Past.length := (of_decide_eq_true (chk_t hz93)).symm
              skip
              try rw [lz93]
              have lz94 : z88.Screen.Other.Cells.length = z92.Screen.Other.Cells.length := (of_decide_eq_true (chk_t hz94)).symm
              skip
              try rw [lz94]
              have lz95 : z88.Screen.Grid.Cells.length = z92.Screen.Grid.Cells.length := (of_decide_eq_true (chk_t hz95)).symm
              skip
              try rw [lz95]
              refine zE ?_
              refine zkBlk ?_
              refine zkSeq (zrSeq (zrReg (zL 1 1 (zE (zkSeq ?_)))))
              refine zrRet ?_
              refine zkNil ?_
              exact endQ hS hQ (fRetX (by kernel_rfl) (by kernel_rfl : finSt c102.fin _ = f102_fin z92 true) (by kernel_rfl) (f102_out z92 true))
            · replace hS := cond_f hc hS
              refine zL 1 2 (zE (zkSeq (zF (zrSeq (zrSeq (zrReg ?_))))))
              refine zB 62 1 (.cmpI .eql (tm 12) (ki 71)) (decide (a1.Code = 71)) (fun hc => ?_) (fun hc => ?_)
              · replace hS := cond_t hc hS
                refine zL 1 2 (zE (zkSeq (zT ?_)))
                refine zrSkip ?_
                refine zkSeq ?_
                exact f102_j0_ok hd a1 a2 a3 hQ true hS (by kernel_rfl)
              · replace hS := cond_f hc hS
                refine zL 1 2 (zE (zkSeq (zF (zrReg ?_))))
                refine zB 63 1 (.cmpI .eql (tm 12) (ki 96)) (decide (a1.Code = 96)) (fun hc => ?_) (fun hc => ?_)
                · replace hS := cond_t hc hS
                  refine zL 1 2 (zE (zkSeq ?_))
                  exact f102_j0_ok hd a1 a2 a3 hQ true hS (by kernel_rfl)
                · replace hS := cond_f hc hS
                  refine zL 1 2 (zE (zkSeq ?_))
                  exact f102_j0_ok hd a1 a2 a3 hQ false hS (by kernel_rfl)
/- (*farwriter/screen.terminal).clear -/
def f90_fin (p1 : GPen) : St := ⟨(up u0 2 (pt 24)), (up h0 24 ⟨0, some (.box ((dI p1.Flags) :: ((dI p1.Fore) :: ((dI p1.Back) :: []))))⟩)⟩
theorem f90_out (p1 : GPen) : outR (f90_fin p1) 0 c90.res = some ((.agg ((dI p1.Flags) :: ((dI p1.Fore) :: ((dI p1.Back) :: [])))), []) := by
  kernel_rfl
def f90_Q (r : GPen) (e : PX) (st : St) : Prop := DoneF c90 0 ((.agg ((dI r.Flags) :: ((dI r.Fore) :: ((dI r.Back) :: [])))), []) e st
noncomputable def f90 (a1 : Gterminal) (a2 : List PD) : Option (GPen) := (some (GPen.mk 0 0 a1.Screen.Pen.Back))
theorem f90_ok (d : Nat) (hd : 1 ≤ d) (a1 : Gterminal) (a2 : List PD) (r : GPen) (hS : f90 a1 a2 = some r) : lev codes baseL d 90 [(.rptr (e_UGterminal.enc a1 ++ a2))] [] = some ((.agg ((dI r.Flags) :: ((dI r.Fore) :: ((dI r.Back) :: [])))), []) := by
  refine lev_go codes90 rfl rfl (Nat.le_trans (Nat.le_of_ble_eq_true rfl) hd) fun Q hQ => ?_
  unfold f90 at hS
  show ZR _ Q c90_b [] _
  replace hQ : ∀ e st', f90_Q r e st' → Q e st' := hQ
  refine zrSeq (zrReg (zL 1 1 (zE (zkSeq (zrSeq (zrReg (zL 8 8 (zE (zkSeq ?_)))))))))
  refine zrRet ?_
  refine zkNil ?_
  exact endQ hS hQ (fR (f90_out (GPen.mk 0 0 a1.Screen.Pen.Back)))
/- (*farwriter/screen.terminal).erase -/
def f103_fin (p18 : Gterminal) (p19 : Bool) : St := ⟨(up (up (up (up u0 1000003 .un) 1000002 .un) 1000001 .un) 8 (dB p19)), (up (up (up (up h0 3 ⟨1, some (go2_Gterminal p18)⟩) 2 ⟨1, some (go1_Gterminal p18)⟩) 1 ⟨1, some (go0_Gterminal p18)⟩) 0 ⟨0, some (.box (bm_Gterminal p18 1 1 2 1 3 1))⟩)⟩
theorem f103_out (p18 : Gterminal) (p19 : Bool) : outR (f103_fin p18 p19) 4 c103.res = some ((dB p19), (gb_Gterminal p18 1 2 3)) := by
  kernel_rfl
def f103_Q (r : Gterminal × Bool) (e : PX) (st : St) : Prop := DoneF c103 4 ((dB r.2), (gb_Gterminal r.1 1 2 3)) e st
def f103_j1_J (a1 : Int) (a2 : Int) (a3 : Int) (a4 : Gterminal) (p25 : Int) : St := ⟨(up (up (up (up (up (up u0 1000003 .un) 1000002 .un) 1000001 .un) 9 (dI a4.Screen.Grid.Wide)) 2 (dI p25)) 0 (pt 0)), (up (up (up (up h0 3 ⟨1, some (go2_Gterminal a4)⟩) 2 ⟨1, some (go1_Gterminal a4)⟩) 1 ⟨1, some (go0_Gterminal a4)⟩) 0 ⟨0, some (.box (bm_Gterminal a4 1 1 2 1 3 1))⟩)⟩
noncomputable def f103_j1 (a1 : Int) (a2 : Int) (a3 : Int) (a4 : Gterminal) (p25 : Int) : Option (Gterminal × Bool) := ((f90 (Gterminal.mk ({ a4.Screen with Late := false }) a4.sent) []).bind fun z5 => none)
theorem f103_j1_ok {d : Nat} (hd : 2 ≤ d) (a1 : Int) (a2 : Int) (a3 : Int) (a4 : Gterminal) {r : Gterminal × Bool} {Q : PX → St → Prop} (hQ : ∀ e st', f103_Q r e st' → Q e st') (p25 : Int) (hS : f103_j1 a1 a2 a3 a4 p25 = some r) {st : St} (he : keepSt [0, 2, 9, 1000001, 1000002, 1000003] [(0, .id 0), (1, .id 1), (2, .id 2), (3, .id 3)] [] st = f103_j1_J a1 a2 a3 a4 p25) : ZR (lev codes baseL (d - 1)) Q c103_1 [.blk 0, .seq c103_2] st := by
  refine zrKeep he ?_
  unfold f103_j1 at hS
  refine zrSeq (zrReg (zL 5 5 (zE (zkSeq ?_))))
  refine zrRegD ?_
  refine zdRun (n := 18) (j := 18) (ts := [[], [], [], [], [(0, false)], [], [], [], [], [(0, false)], [], [], [], [], [(0, false)], [], [], []]) (acc' := [[], [], [], [], [(0, false)], [], [], [], [], [(0, false)], [], [], [], [], [(0, false)], [], [], []]) rfl (by kernel_rfl) (by kernel_rfl) (by kernel_rfl) ?_
  refine bindE hS (fun z5 hz5 hS => ?_)
  refine zdOp (d := some 47) (op := (.call 90 [(tm 46)])) (g := none) (j := 19) (t1 := [(0, false), (384, true), (385, true), (386, true), (387, true), (388, true), (389, true), (390, true), (391, true)]) (acc' := [[], [], [], [], [(0, false)], [], [], [], [], [(0, false)], [], [], [], [], [(0, false)], [], [], [], [(0, false), (384, true), (385, true), (386, true), (387, true), (388, true), (389, true), (390, true), (391, true)]]) (by kernel_rfl) (by kernel_rfl) rfl (by kernel_rfl) (by kernel_rfl) (ev_callA (by kernel_rfl) (f90_ok (d - 1) (dpt hd rfl) (Gterminal.mk ({ a4.Screen with Late := false }) a4.sent) [] z5 hz5) (by kernel_rfl) (by kernel_rfl)) ?_
  cases hS
def f103_j2_J (a1 : Int) (a2 : Int) (a3 : Int) (a4 : Gterminal) (p28 : Gterminal) : St := ⟨(up (up (up (up (up (up u0 1000003 .un) 1000002 .un) 1000001 .un) 9 (dI a4.Screen.Grid.Wide)) 3 (dI a3)) 0 (pt 0)), (up (up (up (up h0 3 ⟨1, some (go2_Gterminal p28)⟩) 2 ⟨1, some (go1_Gterminal p28)⟩) 1 ⟨1, some (go0_Gterminal p28)⟩) 0 ⟨0, some (.box (bm_Gterminal p28 1 1 2 1 3 1))⟩)⟩
noncomputable def f103_j2 (a1 : Int) (a2 : Int) (a3 : Int) (a4 : Gterminal) (p28 : Gterminal) : Option (Gterminal × Bool) := none
theorem f103_j2_ok {d : Nat} (hd : 2 ≤ d) (a1 : Int) (a2 : Int) (a3 : Int) (a4 : Gterminal) {r : Gterminal × Bool} {Q : PX → St → Prop} (hQ : ∀ e st', f103_Q r e st' → Q e st') (p28 : Gterminal) (hS : f103_j2 a1 a2 a3 a4 p28 = some r) {st : St} (he : keepSt [0, 3, 9, 1000001, 1000002, 1000003] [(0, .id 0), (1, .id 1), (2, .id 2), (3, .id 3)] [.cell 0 32 3 87 1] st = f103_j2_J a1 a2 a3 a4 p28) : ZR (lev codes baseL (d - 1)) Q c103_3 [.blk 0, .seq c103_2] st := by
  refine zrKeep he ?_
  unfold f103_j2 at hS
  refine zrSeq (zrSeq (zrReg (zL 2 2 ?_)))
  cases hS
def f103_j4_J (a1 : Int) (a2 : Int) (a3 : Int) (a4 : Gterminal) (p34 : Int) : St := ⟨(up (up (up (up (up u0 1000003 .un) 1000002 .un) 1000001 .un) 2 (dI p34)) 0 (pt 0)), (up (up (up (up h0 3 ⟨1, some (go2_Gterminal a4)⟩) 2 ⟨1, some (go1_Gterminal a4)⟩) 1 ⟨1, some (go0_Gterminal a4)⟩) 0 ⟨0, some (.box (bm_Gterminal a4 1 1 2 1 3 1))⟩)⟩
noncomputable def f103_j4 (a1 : Int) (a2 : Int) (a3 : Int) (a4 : Gterminal) (p34 : Int) : Option (Gterminal × Bool) := ((f49 a4.Screen.Row a4.Screen.Top (IntKind.i64.wrap (a4.Screen.Bottom - 1))).bind fun z6 => (bif z6 then ((f90 a4 []).bind fun z7 => none) else (some (a4, true))))
theorem f103_j4_ok {d : Nat} (hd : 2 ≤ d) (a1 : Int) (a2 : Int) (a3 : Int) (a4 : Gterminal) {r : Gterminal × Bool} {Q : PX → St → Prop} (hQ : ∀ e st', f103_Q r e st' → Q e st') (p34 : Int) (hS : f103_j4 a1 a2 a3 a4 p34 = some r) {st : St} (he : keepSt [0, 2, 1000001, 1000002, 1000003] [(0, .id 0), (1, .id 1), (2, .id 2), (3, .id 3)] [] st = f103_j4_J a1 a2 a3 a4 p34) : ZR (lev codes baseL (d - 1)) Q c103_4 [.blk 0, .seq c103_2] st := by
  refine zrKeep he ?_
  unfold f103_j4 at hS
  refine zrSeq ?_
  refine zrRegD ?_
  refine zdRun (n := 16) (j := 16) (ts := [[], [], [], [], [(0, false)], [], [], [], [], [(0, false)], [], [], [], [], [(0, false)], []]) (acc' := [[], [], [], [], [(0, false)], [], [], [], [], [(0, false)], [], [], [], [], [(0, false)], []]) rfl (by kernel_rfl) (by kernel_rfl) (by kernel_rfl) ?_
  refine bindE hS (fun z6 hz6 hS => ?_)
  refine zdOp (d := some 154) (op := (.call 49 [(tm 142), (tm 147), (tm 153)])) (g := none) (j := 17) (t1 := [(1240, true), (1241, true), (1242, true), (1243, true), (1244, true), (1245, true), (1246, true), (1247, true)]) (acc' := [[], [], [], [], [(0, false)], [], [], [], [], [(0, false)], [], [], [], [], [(0, false)], [], [(1240, true), (1241, true), (1242, true), (1243, true), (1244, true), (1245, true), (1246, true), (1247, true)]]) (by kernel_rfl) (by kernel_rfl) rfl (by kernel_rfl) (by kernel_rfl) (ev_callA (by kernel_rfl) (f49_ok (d - 1) (dpt hd rfl) a4.Screen.Row a4.Screen.Top (IntKind.i64.wrap (a4.Screen.Bottom - 1)) z6 hz6) (by kernel_rfl) (by kernel_rfl)) ?_
  refine zdEnd (by kernel_rfl) (by kernel_rfl) ?_
  refine zkSeq ?_
  refine zrSplit 154 z6 (by kernel_rfl) (fun hc => ?_) (fun hc => ?_)
  · replace hS := cond_t hc hS
    refine zT (zrSeq ?_)
    refine zrRegD ?_
    refine zdRun (n := 17) (j := 17) (ts := [[], [], [], [], [(0, false)], [], [], [], [], [(0, false)], [], [], [], [], [(0, false)], [], []]) (acc' := [[], [], [], [], [(0, false)], [], [], [], [], [(0, false)], [], [], [], [], [(0, false)], [], []]) rfl (by kernel_rfl) (by kernel_rfl) (by kernel_rfl) ?_
    refine bindE hS (fun z7 hz7 hS => ?_)
    refine zdOp (d := some 172) (op := (.call 90 [(tm 171)])) (g := none) (j := 18) (t1 := [(0, false), (1384, true), (1385, true), (1386, true), (1387, true), (1388, true), (1389, true), (1390, true), (1391, true)]) (acc' := [[], [], [], [], [(0, false)], [], [], [], [], [(0, false)], [], [], [], [], [(0, false)], [], [], [(0, false), (1384, true), (1385, true), (1386, true), (1387, true), (1388, true), (1389, true), (1390, true), (1391, true)]]) (by kernel_rfl) (by kernel_rfl) rfl (by kernel_rfl) (by kernel_rfl) (ev_callA (by kernel_rfl) (f90_ok (d - 1) (dpt hd rfl) a4 [] z7 hz7) (by kernel_rfl) (by kernel_rfl)) ?_
    cases hS
  · replace hS := cond_f hc hS
    refine zF ?_
    refine zrSkip ?_
    refine zkBlk ?_
    refine zkSeq (zrSeq (zrReg (zL 1 1 (zE (zkSeq ?_)))))
    refine zrRet ?_
    refine zkNil ?_
    exact endQ hS hQ (fR (f103_out a4 true))
def f103_j6_J (a1 : Int) (a2 : Int) (a3 : Int) (a4 : Gterminal) (p40 : Int) : St := ⟨(up (up (up (up (up u0 1000003 .un) 1000002 .un) 1000001 .un) 2 (dI p40)) 0 (pt 0)), (up (up (up (up h0 3 ⟨1, some (go2_Gterminal a4)⟩) 2 ⟨1, some (go1_Gterminal a4)⟩) 1 ⟨1, some (go0_Gterminal a4)⟩) 0 ⟨0, some (.box (bm_Gterminal a4 1 1 2 1 3 1))⟩)⟩
noncomputable def f103_j6 (a1 : Int) (a2 : Int) (a3 : Int) (a4 : Gterminal) (p40 : Int) : Option (Gterminal × Bool) := ((f90 (Gterminal.mk ({ a4.Screen with Late := false }) a4.sent) []).bind fun z8 => none)
theorem f103_j6_ok {d : Nat} (hd : 2 ≤ d) (a1 : Int) (a2 : Int) (a3 : Int) (a4 : Gterminal) {r : Gterminal × Bool} {Q : PX → St → Prop} (hQ : ∀ e st', f103_Q r e st' → Q e st') (p40 : Int) (hS : f103_j6 a1 a2 a3 a4 p40 = some r) {st : St} (he : keepSt [0, 2, 1000001, 1000002, 1000003] [(0, .id 0), (1, .id 1), (2, .id 2), (3, .id 3)] [] st = f103_j6_J a1 a2 a3 a4 p40) : ZR (lev codes baseL (d - 1)) Q c103_5 [.blk 0, .seq c103_2] st := by
  refine zrKeep he ?_
  unfold f103_j6 at hS
  refine zrSeq (zrReg (zL 5 5 (zE (zkSeq ?_))))
  refine zrRegD ?_
  refine zdRun (n := 17) (j := 17) (ts := [[], [], [], [], [(0, false)], [], [], [], [], [(0, false)], [], [], [], [], [(0, false)], [], []]) (acc' := [[], [], [], [], [(0, false)], [], [], [], [], [(0, false)], [], [], [], [], [(0, false)], [], []]) rfl (by kernel_rfl) (by kernel_rfl) (by kernel_rfl) ?_
  refine bindE hS (fun z8 hz8 hS => ?_)
  refine zdOp (d := some 204) (op := (.call 90 [(tm 203)])) (g := none) (j := 18) (t1 := [(0, false), (1640, true), (1641, true), (1642, true), (1643, true), (1644, true), (1645, true), (1646, true), (1647, true)]) (acc' := [[], [], [], [], [(0, false)], [], [], [], [], [(0, false)], [], [], [], [], [(0, false)], [], [], [(0, false), (1640, true), (1641, true), (1642, true), (1643, true), (1644, true), (1645, true), (1646, true), (1647, true)]]) (by kernel_rfl) (by kernel_rfl) rfl (by kernel_rfl) (by kernel_rfl) (ev_callA (by kernel_rfl) (f90_ok (d - 1) (dpt hd rfl) (Gterminal.mk ({ a4.Screen with Late := false }) a4.sent) [] z8 hz8) (by kernel_rfl) (by kernel_rfl)) ?_
  cases hS
def f103_j5_J (a1 : Int) (a2 : Int) (a3 : Int) (a4 : Gterminal) (p37 : Bool) : St := ⟨(up (up (up (up (up (up (up u0 1000003 .un) 1000002 .un) 1000001 .un) 176 (dB p37)) 2 (dI a2)) 1 (dI a1)) 0 (pt 0)), (up (up (up (up h0 3 ⟨1, some (go2_Gterminal a4)⟩) 2 ⟨1, some (go1_Gterminal a4)⟩) 1 ⟨1, some (go0_Gterminal a4)⟩) 0 ⟨0, some (.box (bm_Gterminal a4 1 1 2 1 3 1))⟩)⟩
noncomputable def f103_j5 (a1 : Int) (a2 : Int) (a3 : Int) (a4 : Gterminal) (p37 : Bool) : Option (Gterminal × Bool) := (bif p37 then (bif (decide (a1 = 84)) then (f103_j6 a1 a2 a3 a4 (IntKind.i64.wrap (0 - a2))) else (f103_j6 a1 a2 a3 a4 a2)) else (some (a4, false)))
theorem f103_j5_ok {d : Nat} (hd : 2 ≤ d) (a1 : Int) (a2 : Int) (a3 : Int) (a4 : Gterminal) {r : Gterminal × Bool} {Q : PX → St → Prop} (hQ : ∀ e st', f103_Q r e st' → Q e st') (p37 : Bool) (hS : f103_j5 a1 a2 a3 a4 p37 = some r) {st : St} (he : keepSt [0, 1, 2, 176, 1000001, 1000002, 1000003] [(0, .id 0), (1, .id 1), (2, .id 2), (3, .id 3)] [] st = f103_j5_J a1 a2 a3 a4 p37) : ZR (lev codes baseL (d - 1)) Q c103_6 [.blk 0, .seq c103_2] st := by
  refine zrKeep he ?_
  unfold f103_j5 at hS
  refine zrSplit 176 p37 (by kernel_rfl) (fun hc => ?_) (fun hc => ?_)
  · replace hS := cond_t hc hS
    refine zT (zrSeq (zrSeq (zrReg (zL 1 1 ?_))))
    refine zB 180 2 (.cmpI .eql (tm 179) (ki 84)) (decide (a1 = 84)) (fun hc => ?_) (fun hc => ?_)
    · replace hS := cond_t hc hS
      refine zE (zkSeq (zT (zrReg (zL 3 3 (zE (zkSeq ?_))))))
      exact f103_j6_ok hd a1 a2 a3 a4 hQ (IntKind.i64.wrap (0 - a2)) hS (by kernel_rfl)
    · replace hS := cond_f hc hS
      refine zE (zkSeq (zF ?_))
      refine zrSkip ?_
      refine zkSeq ?_
      exact f103_j6_ok hd a1 a2 a3 a4 hQ a2 hS (by kernel_rfl)
  · replace hS := cond_f hc hS
    refine zF (zrSeq (zrReg (zL 1 1 (zE (zkSeq ?_)))))
    refine zrRet ?_
    refine zkBlkR ?_
    refine zkSeqR ?_
    refine zkNil ?_
    exact endQ hS hQ (fR (f103_out a4 false))
def f103_j3_J (a1 : Int) (a2 : Int) (a3 : Int) (a4 : Gterminal) (p31 : Bool) : St := ⟨(up (up (up (up (up (up (up (up u0 1000003 .un) 1000002 .un) 1000001 .un) 131 (dB p31)) 17 (dI a1)) 2 (dI a2)) 1 (dI a1)) 0 (pt 0)), (up (up (up (up h0 3 ⟨1, some (go2_Gterminal a4)⟩) 2 ⟨1, some (go1_Gterminal a4)⟩) 1 ⟨1, some (go0_Gterminal a4)⟩) 0 ⟨0, some (.box (bm_Gterminal a4 1 1 2 1 3 1))⟩)⟩
noncomputable def f103_j3 (a1 : Int) (a2 : Int) (a3 : Int) (a4 : Gterminal) (p31 : Bool) : Option (Gterminal × Bool) := (bif p31 then (bif (decide (a1 = 76)) then (f103_j4 a1 a2 a3 a4 (IntKind.i64.wrap (0 - a2))) else (f103_j4 a1 a2 a3 a4 a2)) else (bif (decide (a1 = 83)) then (f103_j5 a1 a2 a3 a4 true) else (bif (decide (a1 = 84)) then (f103_j5 a1 a2 a3 a4 true) else (f103_j5 a1 a2 a3 a4 false))))
theorem f103_j3_ok {d : Nat} (hd : 2 ≤ d) (a1 : Int) (a2 : Int) (a3 : Int) (a4 : Gterminal) {r : Gterminal × Bool} {Q : PX → St → Prop} (hQ : ∀ e st', f103_Q r e st' → Q e st') (p31 : Bool) (hS : f103_j3 a1 a2 a3 a4 p31 = some r) {st : St} (he : keepSt [0, 1, 2, 17, 131, 1000001, 1000002, 1000003] [(0, .id 0), (1, .id 1), (2, .id 2), (3, .id 3)] [] st = f103_j3_J a1 a2 a3 a4 p31) : ZR (lev codes baseL (d - 1)) Q c103_7 [.blk 0, .seq c103_2] st := by
  refine zrKeep he ?_
  unfold f103_j3 at hS
  refine zrSplit 131 p31 (by kernel_rfl) (fun hc => ?_) (fun hc => ?_)
  · replace hS := cond_t hc hS
    refine zT (zrSeq (zrSeq (zrReg (zL 1 1 ?_))))
    refine zB 135 2 (.cmpI .eql (tm 134) (ki 76)) (decide (a1 = 76)) (fun hc => ?_) (fun hc => ?_)
    · replace hS := cond_t hc hS
      refine zE (zkSeq (zT (zrReg (zL 3 3 (zE (zkSeq ?_))))))
      exact f103_j4_ok hd a1 a2 a3 a4 hQ (IntKind.i64.wrap (0 - a2)) hS (by kernel_rfl)
    · replace hS := cond_f hc hS
      refine zE (zkSeq (zF ?_))
      refine zrSkip ?_
      refine zkSeq ?_
      exact f103_j4_ok hd a1 a2 a3 a4 hQ a2 hS (by kernel_rfl)
  · replace hS := cond_f hc hS
    refine zF (zrSeq (zrSeq (zrReg ?_)))
    refine zB 177 1 (.cmpI .eql (tm 17) (ki 83)) (decide (a1 = 83)) (fun hc => ?_) (fun hc => ?_)
    · replace hS := cond_t hc hS
      refine zL 1 2 (zE (zkSeq (zT ?_)))
      refine zrSkip ?_
      refine zkSeq ?_
      exact f103_j5_ok hd a1 a2 a3 a4 hQ true hS (by kernel_rfl)
    · replace hS := cond_f hc hS
      refine zL 1 2 (zE (zkSeq (zF (zrReg ?_))))
      refine zB 178 1 (.cmpI .eql (tm 17) (ki 84)) (decide (a1 = 84)) (fun hc => ?_) (fun hc => ?_)
      · replace hS := cond_t hc hS
        refine zL 1 2 (zE (zkSeq ?_))
        exact f103_j5_ok hd a1 a2 a3 a4 hQ true hS (by kernel_rfl)
      · replace hS := cond_f hc hS
        refine zL 1 2 (zE (zkSeq ?_))
        exact f103_j5_ok hd a1 a2 a3 a4 hQ false hS (by kernel_rfl)
def f103_j0_J (a1 : Int) (a2 : Int) (a3 : Int) (a4 : Gterminal) (p22 : Bool) : St := ⟨(up (up (up (up (up (up (up (up (up (up u0 1000003 .un) 1000002 .un) 1000001 .un) 18 (dB p22)) 17 (dI a1)) 9 (dI a4.Screen.Grid.Wide)) 3 (dI a3)) 2 (dI a2)) 1 (dI a1)) 0 (pt 0)), (up (up (up (up h0 3 ⟨1, some (go2_Gterminal a4)⟩) 2 ⟨1, some (go1_Gterminal a4)⟩) 1 ⟨1, some (go0_Gterminal a4)⟩) 0 ⟨0, some (.box (bm_Gterminal a4 1 1 2 1 3 1))⟩)⟩
noncomputable def f103_j0 (a1 : Int) (a2 : Int) (a3 : Int) (a4 : Gterminal) (p22 : Bool) : Option (Gterminal × Bool) := (bif p22 then (bif (decide (a1 = 80)) then (f103_j1 a1 a2 a3 a4 (IntKind.i64.wrap (0 - a2))) else (f103_j1 a1 a2 a3 a4 a2)) else (bif (decide (a1 = 74)) then (bif (decide (a3 = 3)) then (f103_j2 a1 a2 a3 a4 (Gterminal.mk ({ a4.Screen with Past := [] }) a4.sent)) else (f103_j2 a1 a2 a3 a4 a4)) else (bif (decide (a1 = 75)) then none else (bif (decide (a1 = 88)) then none else (bif (decide (a1 = 76)) then (f103_j3 a1 a2 a3 a4 true) else (bif (decide (a1 = 77)) then (f103_j3 a1 a2 a3 a4 true) else (f103_j3 a1 a2 a3 a4 false)))))))
theorem f103_j0_ok {d : Nat} (hd : 2 ≤ d) (a1 : Int) (a2 : Int) (a3 : Int) (a4 : Gterminal) {r : Gterminal × Bool} {Q : PX → St → Prop} (hQ : ∀ e st', f103_Q r e st' → Q e st') (p22 : Bool) (hS : f103_j0 a1 a2 a3 a4 p22 = some r) {st : St} (he : keepSt [0, 1, 2, 3, 9, 17, 18, 1000001, 1000002, 1000003] [(0, .id 0), (1, .id 1), (2, .id 2), (3, .id 3)] [] st = f103_j0_J a1 a2 a3 a4 p22) : ZR (lev codes baseL (d - 1)) Q c103_8 [.blk 0, .seq c103_2] st := by
  refine zrKeep he ?_
  unfold f103_j0 at hS
  refine zrSplit 18 p22 (by kernel_rfl) (fun hc => ?_) (fun hc => ?_)
  · replace hS := cond_t hc hS
    refine zT (zrSeq (zrSeq (zrReg (zL 1 1 ?_))))
    refine zB 22 2 (.cmpI .eql (tm 21) (ki 80)) (decide (a1 = 80)) (fun hc => ?_) (fun hc => ?_)
    · replace hS := cond_t hc hS
      refine zE (zkSeq (zT (zrReg (zL 3 3 (zE (zkSeq ?_))))))
      exact f103_j1_ok hd a1 a2 a3 a4 hQ (IntKind.i64.wrap (0 - a2)) hS (by kernel_rfl)
    · replace hS := cond_f hc hS
      refine zE (zkSeq (zF ?_))
      refine zrSkip ?_
      refine zkSeq ?_
      exact f103_j1_ok hd a1 a2 a3 a4 hQ a2 hS (by kernel_rfl)
  · replace hS := cond_f hc hS
    refine zF (zrSeq (zrReg ?_))
    refine zB 50 1 (.cmpI .eql (tm 17) (ki 74)) (decide (a1 = 74)) (fun hc => ?_) (fun hc => ?_)
    · replace hS := cond_t hc hS
      refine zL 1 2 (zE (zkSeq (zT (zrSeq (zrSeq (zrReg (zL 1 1 ?_)))))))
      refine zB 52 2 (.cmpI .eql (tm 51) (ki 3)) (decide (a3 = 3)) (fun hc => ?_) (fun hc => ?_)
      · replace hS := cond_t hc hS
        refine zE (zkSeq (zT (zrReg (zL 5 5 (zE (zkSeq ?_))))))
        exact f103_j2_ok hd a1 a2 a3 a4 hQ (Gterminal.mk ({ a4.Screen with Past := [] }) a4.sent) hS (by kernel_rfl)
      · replace hS := cond_f hc hS
        refine zE (zkSeq (zF ?_))
        refine zrSkip ?_
        refine zkSeq ?_
        exact f103_j2_ok hd a1 a2 a3 a4 hQ a4 hS (by kernel_rfl)
    · replace hS := cond_f hc hS
      refine zL 1 2 (zE (zkSeq (zF (zrSeq (zrReg ?_)))))
      refine zB 104 1 (.cmpI .eql (tm 17) (ki 75)) (decide (a1 = 75)) (fun hc => ?_) (fun hc => ?_)
      · replace hS := cond_t hc hS
        refine zL 1 2 (zE (zkSeq (zT (zrReg (zL 2 2 ?_)))))
        cases hS
      · replace hS := cond_f hc hS
        refine zL 1 2 (zE (zkSeq (zF (zrSeq (zrReg ?_)))))
        refine zB 109 1 (.cmpI .eql (tm 17) (ki 88)) (decide (a1 = 88)) (fun hc => ?_) (fun hc => ?_)
        · replace hS := cond_t hc hS
          refine zL 1 2 (zE (zkSeq (zT ?_)))
          refine zrRegD ?_
          refine zdRun (n := 20) (j := 20) (ts := [[], [], [], [], [], [(0, false)], [], [], [], [], [(0, false)], [], [], [], [], [(0, false)], [], [], [], []]) (acc' := [[], [], [], [], [], [(0, false)], [], [], [], [], [(0, false)], [], [], [], [], [(0, false)], [], [], [], []]) rfl (by kernel_rfl) (by kernel_rfl) (by kernel_rfl) ?_
          cases hS
        · replace hS := cond_f hc hS
          refine zL 1 2 (zE (zkSeq (zF (zrSeq (zrSeq (zrReg ?_))))))
          refine zB 132 1 (.cmpI .eql (tm 17) (ki 76)) (decide (a1 = 76)) (fun hc => ?_) (fun hc => ?_)
          · replace hS := cond_t hc hS
            refine zL 1 2 (zE (zkSeq (zT ?_)))
            refine zrSkip ?_
            refine zkSeq ?_
            exact f103_j3_ok hd a1 a2 a3 a4 hQ true hS (by kernel_rfl)
          · replace hS := cond_f hc hS
            refine zL 1 2 (zE (zkSeq (zF (zrReg ?_))))
            refine zB 133 1 (.cmpI .eql (tm 17) (ki 77)) (decide (a1 = 77)) (fun hc => ?_) (fun hc => ?_)
            · replace hS := cond_t hc hS
              refine zL 1 2 (zE (zkSeq ?_))
              exact f103_j3_ok hd a1 a2 a3 a4 hQ true hS (by kernel_rfl)
            · replace hS := cond_f hc hS
              refine zL 1 2 (zE (zkSeq ?_))
              exact f103_j3_ok hd a1 a2 a3 a4 hQ false hS (by kernel_rfl)
noncomputable def f103 (a1 : Int) (a2 : Int) (a3 : Int) (a4 : Gterminal) : Option (Gterminal × Bool) := (bif (decide (a1 = 64)) then (f103_j0 a1 a2 a3 a4 true) else (bif (decide (a1 = 80)) then (f103_j0 a1 a2 a3 a4 true) else (f103_j0 a1 a2 a3 a4 false)))
theorem f103_ok (d : Nat) (hd : 2 ≤ d) (a1 : Int) (a2 : Int) (a3 : Int) (a4 : Gterminal) (r : Gterminal × Bool) (hS : f103 a1 a2 a3 a4 = some r) : lev codes baseL d 103 [(pt 0), (dI a1), (dI a2), (dI a3)] (gb_Gterminal a4 1 2 3) = some ((dB r.2), (gb_Gterminal r.1 1 2 3)) := by
  refine lev_go codes103 rfl rfl (Nat.le_trans (Nat.le_of_ble_eq_true rfl) hd) fun Q hQ => ?_
  unfold f103 at hS
  show ZR _ Q c103_b [] _
  replace hQ : ∀ e st', f103_Q r e st' → Q e st' := hQ
  refine zrSeq (zrReg (zL 1 1 (zE (zkSeq (zrSeq (zrReg (zL 7 7 (zE (zkSeq (zrSeq (zrSeq (zrReg (zL 1 1 (zE (zkSeq ?_)))))))))))))))
  refine zrBlk ?_
  refine zrSeq (zrSeq (zrReg ?_))
  refine zB 19 1 (.cmpI .eql (tm 17) (ki 64)) (decide (a1 = 64)) (fun hc => ?_) (fun hc => ?_)
  · replace hS := cond_t hc hS
    refine zL 1 2 (zE (zkSeq (zT ?_)))
    refine zrSkip ?_
    refine zkSeq ?_
    exact f103_j0_ok hd a1 a2 a3 a4 hQ true hS (by kernel_rfl)
  · replace hS := cond_f hc hS
    refine zL 1 2 (zE (zkSeq (zF (zrReg ?_))))
    refine zB 20 1 (.cmpI .eql (tm 17) (ki 80)) (decide (a1 = 80)) (fun hc => ?_) (fun hc => ?_)
    · replace hS := cond_t hc hS
      refine zL 1 2 (zE (zkSeq ?_))
      exact f103_j0_ok hd a1 a2 a3 a4 hQ true hS (by kernel_rfl)
    · replace hS := cond_f hc hS
      refine zL 1 2 (zE (zkSeq ?_))
      exact f103_j0_ok hd a1 a2 a3 a4 hQ false hS (by kernel_rfl)
/- farwriter/tabs.Set -/
def f94_fin (p3 : GStops) (p4 : Int) : St := ⟨(up (up u0 7 (dI p4)) 6 (pt 56)), (up h0 56 ⟨0, some (.box (((eInt .u64).row 4 p3.Bits) ++ []))⟩)⟩
theorem f94_out (p3 : GStops) (p4 : Int) : outR (f94_fin p3 p4) 0 c94.res = some ((.tup [(.agg (((eInt .u64).row 4 p3.Bits) ++ [])), (dI p4)]), []) := by
  kernel_rfl
def f94_Q (r : GStops × Int) (e : PX) (st : St) : Prop := DoneF c94 0 ((.tup [(.agg (((eInt .u64).row 4 r.1.Bits) ++ [])), (dI r.2)]), []) e st
def f94_j0_J (a1 : GStops) (a2 : Int) (a3 : Bool) : St := ⟨(up (up (up (up u0 6 (pt 56)) 3 (pt 32)) 2 (dB a3)) 1 (dI a2)), (up (up h0 56 ⟨0, some (.box (((eInt .u64).row 4 (fun _ => 0)) ++ []))⟩) 32 ⟨0, some (.box (((eInt .u64).row 4 a1.Bits) ++ []))⟩)⟩
noncomputable def f94_j0 (a1 : GStops) (a2 : Int) (a3 : Bool) : Option (GStops × Int) := ((inR (IntKind.i64.wrap (Int.tdiv a2 64)) 4).bind fun m7 => ((chk (decide (0 ≤ (Int.tmod a2 64)))).bind fun z8 => ((inR (IntKind.i64.wrap (Int.tdiv a2 64)) 4).bind fun m9 => (bif a3 then ((inR (IntKind.i64.wrap (Int.tdiv a2 64)) 4).bind fun m10 => ((chk (decide (0 ≤ (Int.tmod a2 64)))).bind fun z11 => ((inR (IntKind.i64.wrap (Int.tdiv a2 64)) 4).bind fun m12 => (some ((GStops.mk (upd (upd a1.Bits m9 (bitI .andNot .u64 (a1.Bits m7) (IntKind.u64.wrap (1 * 2 ^ (min ((Int.tmod a2 64) : Int).toNat 64))))) m12 (bitI .or .u64 ((upd a1.Bits m9 (bitI .andNot .u64 (a1.Bits m7) (IntKind.u64.wrap (1 * 2 ^ (min ((Int.tmod a2 64) : Int).toNat 64))))) m10) (IntKind.u64.wrap (1 * 2 ^ (min ((Int.tmod a2 64) : Int).toNat 64)))))), 0))))) else (some ((GStops.mk (upd a1.Bits m9 (bitI .andNot .u64 (a1.Bits m7) (IntKind.u64.wrap (1 * 2 ^ (min ((Int.tmod a2 64) : Int).toNat 64)))))), 0))))))
theorem f94_j0_ok {d : Nat} (hd : 1 ≤ d) (a1 : GStops) (a2 : Int) (a3 : Bool) {r : GStops × Int} {Q : PX → St → Prop} (hQ : ∀ e st', f94_Q r e st' → Q e st')  (hS : f94_j0 a1 a2 a3 = some r) {st : St} (he : keepSt [1, 2, 3, 6] [(32, .id 32), (56, .id 56)] [] st = f94_j0_J a1 a2 a3) : ZR (lev codes baseL (d - 1)) Q c94_1 [] st := by
  refine zrKeep he ?_
  unfold f94_j0 at hS
  refine zrSeq ?_
  refine zrRegD ?_
  refine zdRun (n := 3) (j := 3) (ts := [[], [], []]) (acc' := [[], [], []]) rfl (by kernel_rfl) (by kernel_rfl) (by kernel_rfl) ?_
  refine bindE hS (fun m7 hm7 hS => ?_)
  refine zdOp (d := some 18) (op := (.ixA 4 1 (tm 17) (tm 16))) (g := none) (v := (.r (.ptr 32 0 (0 + m7 * 1)))) (ups := []) (j := 4) (t1 := []) (acc' := [[], [], [], []]) (by kernel_rfl) (by kernel_rfl) rfl (by kernel_rfl) (by kernel_rfl) (ev_ixA (kk := .i64) (b := 32) (g := 0) (o := 0) (j := (IntKind.i64.wrap (Int.tdiv a2 64))) (by kernel_rfl) (by kernel_rfl) hm7) ?_
  refine zdOp (d := some 19) (op := (.load .false 1 (tm 18))) (g := none) (v := (.d (.int .u64 (a1.Bits m7)))) (ups := []) (j := 5) (t1 := [(32, false)]) (acc' := [[], [], [], [], [(32, false)]]) (by kernel_rfl) (by kernel_rfl) rfl (by kernel_rfl) (by kernel_rfl) (ev_loadA (eInt .u64) (b := 32) (g := 0) (o := 0 + m7 * 1) (f := a1.Bits) (nn := 4) (m := m7) (fo := 0) (pre := []) (post := []) (by kernel_rfl) (by kernel_rfl) (by kernel_rfl) (inR_lt hm7) (by kernel_rfl) (by kernel_rfl) (by kernel_rfl)) ?_
  refine zdRun (n := 2) (j := 7) (ts := [[], []]) (acc' := [[], [], [], [], [(32, false)], [], []]) rfl (by kernel_rfl) (by kernel_rfl) (by kernel_rfl) ?_
  refine bindE hS (fun z8 hz8 hS => ?_)
  refine zdOp (d := some 22) (op := (.sh .shl (.const (.int .u64 1)) (tm 21))) (g := none) (v := (.d (.int .u64 (IntKind.u64.wrap (1 * 2 ^ (min ((Int.tmod a2 64) : Int).toNat 64)))))) (ups := []) (j := 8) (t1 := []) (acc' := [[], [], [], [], [(32, false)], [], [], []]) (by kernel_rfl) (by kernel_rfl) rfl (by kernel_rfl) (by kernel_rfl) (ev_sh (kk := .u64) (k2 := .i64) (a := 1) (c := (Int.tmod a2 64)) (by kernel_rfl) (by kernel_rfl) (sh_l hz8)) ?_
  refine zdRun (n := 2) (j := 10) (ts := [[], []]) (acc' := [[], [], [], [], [(32, false)], [], [], [], [], []]) rfl (by kernel_rfl) (by kernel_rfl) (by kernel_rfl) ?_
  refine bindE hS (fun m9 hm9 hS => ?_)
  refine zdOp (d := some 25) (op := (.ixA 4 1 (tm 24) (tm 16))) (g := none) (v := (.r (.ptr 32 0 (0 + m9 * 1)))) (ups := []) (j := 11) (t1 := []) (acc' := [[], [], [], [], [(32, false)], [], [], [], [], [], []]) (by kernel_rfl) (by kernel_rfl) rfl (by kernel_rfl) (by kernel_rfl) (ev_ixA (kk := .i64) (b := 32) (g := 0) (o := 0) (j := (IntKind.i64.wrap (Int.tdiv a2 64))) (by kernel_rfl) (by kernel_rfl) hm9) ?_
  refine zdOp (d := none) (op := (.store 1 (tm 25) (tm 23))) (g := none) (v := .un) (ups := [(32, ⟨0, some (.box (((eInt .u64).row 4 (upd a1.Bits m9 (bitI .andNot .u64 (a1.Bits m7) (IntKind.u64.wrap (1 * 2 ^ (min ((Int.tmod a2 64) : Int).toNat 64)))))) ++ []))⟩)]) (j := 12) (t1 := [(32, true)]) (acc' := [[], [], [], [], [(32, false)], [], [], [], [], [], [], [(32, true)]]) (by kernel_rfl) (by kernel_rfl) rfl (by kernel_rfl) (by kernel_rfl) (ev_storeA (eInt .u64) (b := 32) (g := 0) (o := 0 + m9 * 1) (f := a1.Bits) (nn := 4) (m := m9) (fo := 0) (pre := []) (post := []) (by kernel_rfl) (by kernel_rfl) (by kernel_rfl) (inR_lt hm9) (new := ((.d (.int .u64 (bitI .andNot .u64 (a1.Bits m7) (IntKind.u64.wrap (1 * 2 ^ (min ((Int.tmod a2 64) : Int).toNat 64)))))) :: [])) (ds := [.int .u64 (bitI .andNot .u64 (a1.Bits m7) (IntKind.u64.wrap (1 * 2 ^ (min ((Int.tmod a2 64) : Int).toNat 64))))]) (z' := (bitI .andNot .u64 (a1.Bits m7) (IntKind.u64.wrap (1 * 2 ^ (min ((Int.tmod a2 64) : Int).toNat 64))))) (by kernel_rfl) (by kernel_rfl) (by kernel_rfl) (by kernel_rfl) (by kernel_rfl) (by kernel_rfl)) ?_
  refine zdEnd (by kernel_rfl) (by kernel_rfl) ?_
  refine zkSeq (zrSeq (zrSeq (zrReg (zL 1 1 (zE (zkSeq ?_))))))
  refine zrSplit 26 a3 (by kernel_rfl) (fun hc => ?_) (fun hc => ?_)
  · replace hS := cond_t hc hS
    refine zT ?_
    refine zrRegD ?_
    refine zdRun (n := 3) (j := 3) (ts := [[], [], []]) (acc' := [[], [], []]) rfl (by kernel_rfl) (by kernel_rfl) (by kernel_rfl) ?_
    refine bindE hS (fun m10 hm10 hS => ?_)
    refine zdOp (d := some 30) (op := (.ixA 4 1 (tm 29) (tm 28))) (g := none) (v := (.r (.ptr 32 0 (0 + m10 * 1)))) (ups := []) (j := 4) (t1 := []) (acc' := [[], [], [], []]) (by kernel_rfl) (by kernel_rfl) rfl (by kernel_rfl) (by kernel_rfl) (ev_ixA (kk := .i64) (b := 32) (g := 0) (o := 0) (j := (IntKind.i64.wrap (Int.tdiv a2 64))) (by kernel_rfl) (by kernel_rfl) hm10) ?_
    refine zdOp (d := some 31) (op := (.load .false 1 (tm 30))) (g := none) (v := (.d (.int .u64 ((upd a1.Bits m9 (bitI .andNot .u64 (a1.Bits m7) (IntKind.u64.wrap (1 * 2 ^ (min ((Int.tmod a2 64) : Int).toNat 64))))) m10)))) (ups := []) (j := 5) (t1 := [(32, false)]) (acc' := [[], [], [], [], [(32, false)]]) (by kernel_rfl) (by kernel_rfl) rfl (by kernel_rfl) (by kernel_rfl) (ev_loadA (eInt .u64) (b := 32) (g := 0) (o := 0 + m10 * 1) (f := (upd a1.Bits m9 (bitI .andNot .u64 (a1.Bits m7) (IntKind.u64.wrap (1 * 2 ^ (min ((Int.tmod a2 64) : Int).toNat 64)))))) (nn := 4) (m := m10) (fo := 0) (pre := []) (post := []) (by kernel_rfl) (by kernel_rfl) (by kernel_rfl) (inR_lt hm10) (by kernel_rfl) (by kernel_rfl) (by kernel_rfl)) ?_
    refine zdRun (n := 2) (j := 7) (ts := [[], []]) (acc' := [[], [], [], [], [(32, false)], [], []]) rfl (by kernel_rfl) (by kernel_rfl) (by kernel_rfl) ?_
    refine bindE hS (fun z11 hz11 hS => ?_)
    refine zdOp (d := some 34) (op := (.sh .shl (.const (.int .u64 1)) (tm 33))) (g := none) (v := (.d (.int .u64 (IntKind.u64.wrap (1 * 2 ^ (min ((Int.tmod a2 64) : Int).toNat 64)))))) (ups := []) (j := 8) (t1 := []) (acc' := [[], [], [], [], [(32, false)], [], [], []]) (by kernel_rfl) (by kernel_rfl) rfl (by kernel_rfl) (by kernel_rfl) (ev_sh (kk := .u64) (k2 := .i64) (a := 1) (c := (Int.tmod a2 64)) (by kernel_rfl) (by kernel_rfl) (sh_l hz11)) ?_
    refine zdRun (n := 2) (j := 10) (ts := [[], []]) (acc' := [[], [], [], [], [(32, false)], [], [], [], [], []]) rfl (by kernel_rfl) (by kernel_rfl) (by kernel_rfl) ?_
    refine bindE hS (fun m12 hm12 hS => ?_)
    refine zdOp (d := some 37) (op := (.ixA 4 1 (tm 36) (tm 28))) (g := none) (v := (.r (.ptr 32 0 (0 + m12 * 1)))) (ups := []) (j := 11) (t1 := []) (acc' := [[], [], [], [], [(32, false)], [], [], [], [], [], []]) (by kernel_rfl) (by kernel_rfl) rfl (by kernel_rfl) (by kernel_rfl) (ev_ixA (kk := .i64) (b := 32) (g := 0) (o := 0) (j := (IntKind.i64.wrap (Int.tdiv a2 64))) (by kernel_rfl) (by kernel_rfl) hm12) ?_
    refine zdOp (d := none) (op := (.store 1 (tm 37) (tm 35))) (g := none) (v := .un) (ups := [(32, ⟨0, some (.box (((eInt .u64).row 4 (upd (upd a1.Bits m9 (bitI .andNot .u64 (a1.Bits m7) (IntKind.u64.wrap (1 * 2 ^ (min ((Int.tmod a2 64) : Int).toNat 64))))) m12 (bitI .or .u64 ((upd a1.Bits m9 (bitI .andNot .u64 (a1.Bits m7) (IntKind.u64.wrap (1 * 2 ^ (min ((Int.tmod a2 64) : Int).toNat 64))))) m10) (IntKind.u64.wrap (1 * 2 ^ (min ((Int.tmod a2 64) : Int).toNat 64)))))) ++ []))⟩)]) (j := 12) (t1 := [(32, true)]) (acc' := [[], [], [], [], [(32, false)], [], [], [], [], [], [], [(32, true)]]) (by kernel_rfl) (by kernel_rfl) rfl (by kernel_rfl) (by kernel_rfl) (ev_storeA (eInt .u64) (b := 32) (g := 0) (o := 0 + m12 * 1) (f := (upd a1.Bits m9 (bitI .andNot .u64 (a1.Bits m7) (IntKind.u64.wrap (1 * 2 ^ (min ((Int.tmod a2 64) : Int).toNat 64)))))) (nn := 4) (m := m12) (fo := 0) (pre := []) (post := []) (by kernel_rfl) (by kernel_rfl) (by kernel_rfl) (inR_lt hm12) (new := ((.d (.int .u64 (bitI .or .u64 ((upd a1.Bits m9 (bitI .andNot .u64 (a1.Bits m7) (IntKind.u64.wrap (1 * 2 ^ (min ((Int.tmod a2 64) : Int).toNat 64))))) m10) (IntKind.u64.wrap (1 * 2 ^ (min ((Int.tmod a2 64) : Int).toNat 64)))))) :: [])) (ds := [.int .u64 (bitI .or .u64 ((upd a1.Bits m9 (bitI .andNot .u64 (a1.Bits m7) (IntKind.u64.wrap (1 * 2 ^ (min ((Int.tmod a2 64) : Int).toNat 64))))) m10) (IntKind.u64.wrap (1 * 2 ^ (min ((Int.tmod a2 64) : Int).toNat 64))))]) (z' := (bitI .or .u64 ((upd a1.Bits m9 (bitI .andNot .u64 (a1.Bits m7) (IntKind.u64.wrap (1 * 2 ^ (min ((Int.tmod a2 64) : Int).toNat 64))))) m10) (IntKind.u64.wrap (1 * 2 ^ (min ((Int.tmod a2 64) : Int).toNat 64))))) (by kernel_rfl) (by kernel_rfl) (by kernel_rfl) (by kernel_rfl) (by kernel_rfl) (by kernel_rfl)) ?_
    refine zdEnd (by kernel_rfl) (by kernel_rfl) ?_
    refine zkSeq (zrSeq (zrReg (zL 3 3 (zE (zkSeq ?_)))))
    refine zrRet ?_
    refine zkNil ?_
    exact endQ hS hQ (fR (f94_out (GStops.mk (upd (upd a1.Bits m9 (bitI .andNot .u64 (a1.Bits m7) (IntKind.u64.wrap (1 * 2 ^ (min ((Int.tmod a2 64) : Int).toNat 64))))) m12 (bitI .or .u64 ((upd a1.Bits m9 (bitI .andNot .u64 (a1.Bits m7) (IntKind.u64.wrap (1 * 2 ^ (min ((Int.tmod a2 64) : Int).toNat 64))))) m10) (IntKind.u64.wrap (1 * 2 ^ (min ((Int.tmod a2 64) : Int).toNat 64)))))) 0))
  · replace hS := cond_f hc hS
    refine zF ?_
    refine zrSkip ?_
    refine zkSeq (zrSeq (zrReg (zL 3 3 (zE (zkSeq ?_)))))
    refine zrRet ?_
    refine zkNil ?_
    exact endQ hS hQ (fR (f94_out (GStops.mk (upd a1.Bits m9 (bitI .andNot .u64 (a1.Bits m7) (IntKind.u64.wrap (1 * 2 ^ (min ((Int.tmod a2 64) : Int).toNat 64)))))) 0))
noncomputable def f94 (a1 : GStops) (a2 : Int) (a3 : Bool) : Option (GStops × Int) := (bif (decide (a2 < 0)) then (some (a1, 1)) else (bif (decide (255 < a2)) then (some (a1, 1)) else (f94_j0 a1 a2 a3 )))
theorem f94_ok (d : Nat) (hd : 1 ≤ d) (a1 : GStops) (a2 : Int) (a3 : Bool) (r : GStops × Int) (hS : f94 a1 a2 a3 = some r) : lev codes baseL d 94 [(.agg (((eInt .u64).row 4 a1.Bits) ++ [])), (dI a2), (dB a3)] [] = some ((.tup [(.agg (((eInt .u64).row 4 r.1.Bits) ++ [])), (dI r.2)]), []) := by
  refine lev_go codes94 rfl rfl (Nat.le_trans (Nat.le_of_ble_eq_true rfl) hd) fun Q hQ => ?_
  unfold f94 at hS
  show ZR _ Q c94_b [] _
  replace hQ : ∀ e st', f94_Q r e st' → Q e st' := hQ
  refine zrSeq (zrReg (zL 3 3 (zE (zkSeq (zrSeq (zrSeq (zrReg (zL 1 1 ?_))))))))
  refine zB 9 2 (.cmpI .lss (tm 8) (ki 0)) (decide (a2 < 0)) (fun hc => ?_) (fun hc => ?_)
  · replace hS := cond_t hc hS
    refine zL 4 6 (zE (zkSeq (zT (zrSeq (zrReg (zL 3 3 (zE (zkSeq ?_))))))))
    refine zrRet ?_
    refine zkSeqR ?_
    refine zkNil ?_
    exact endQ hS hQ (fR (f94_out a1 1))
  · replace hS := cond_f hc hS
    refine zL 2 4 ?_
    refine zlBool (d := 12) (op := (.cmpI .gtr (tm 11) (ki 255))) (g := (some (10, false))) (j := 5) (decide (255 < a2)) rfl (by kernel_rfl) (by kernel_rfl) (by kernel_rfl) (fun hc => ?_) (fun hc => ?_)
    · replace hS := cond_t hc hS
      refine zL 1 6 (zE (zkSeq (zT (zrSeq (zrReg (zL 3 3 (zE (zkSeq ?_))))))))
      refine zrRet ?_
      refine zkSeqR ?_
      refine zkNil ?_
      exact endQ hS hQ (fR (f94_out a1 1))
    · replace hS := cond_f hc hS
      refine zL 1 6 (zE (zkSeq (zF ?_)))
      refine zrSkip ?_
      refine zkSeq ?_
      exact f94_j0_ok hd a1 a2 a3 hQ  hS (by kernel_rfl)
/- farwriter/pen.Sgr$1 -/
def f128_fin (p2 : Bool) : St := ⟨(up u0 2 (dB p2)), h0⟩
theorem f128_out (p2 : Bool) : outR (f128_fin p2) 0 c128.res = some ((dB p2), []) := by
  kernel_rfl
def f128_Q (r : Bool) (e : PX) (st : St) : Prop := DoneF c128 0 ((dB r), []) e st
noncomputable def f128 (a1 : Int) : Option (Bool) := (bif (decide (a1 < (-1))) then (some true) else (bif (decide (16383 < a1)) then (some true) else (some false)))
theorem f128_ok (d : Nat) (hd : 1 ≤ d) (a1 : Int) (r : Bool) (hS : f128 a1 = some r) : lev codes baseL d 128 [(dI a1)] [] = some ((dB r), []) := by
  refine lev_go codes128 rfl rfl (Nat.le_trans (Nat.le_of_ble_eq_true rfl) hd) fun Q hQ => ?_
  unfold f128 at hS
  show ZR _ Q c128_b [] _
  replace hQ : ∀ e st', f128_Q r e st' → Q e st' := hQ
  refine zrSeq (zrReg (zL 1 1 (zE (zkSeq (zrSeq (zrReg (zL 1 1 ?_)))))))
  refine zB 4 2 (.cmpI .lss (tm 3) (ki (-1))) (decide (a1 < (-1))) (fun hc => ?_) (fun hc => ?_)
  · replace hS := cond_t hc hS
    refine zL 5 7 (zE (zkSeq ?_))
    refine zrRet ?_
    refine zkNil ?_
    exact endQ hS hQ (fR (f128_out true))
  · replace hS := cond_f hc hS
    refine zL 2 4 ?_
    refine zlBool (d := 7) (op := (.cmpI .gtr (tm 6) (ki 16383))) (g := (some (5, false))) (j := 5) (decide (16383 < a1)) rfl (by kernel_rfl) (by kernel_rfl) (by kernel_rfl) (fun hc => ?_) (fun hc => ?_)
    · replace hS := cond_t hc hS
      refine zL 2 7 (zE (zkSeq ?_))
      refine zrRet ?_
      refine zkNil ?_
      exact endQ hS hQ (fR (f128_out true))
    · replace hS := cond_f hc hS
      refine zL 2 7 (zE (zkSeq ?_))
      refine zrRet ?_
      refine zkNil ?_
      exact endQ hS hQ (fR (f128_out false))
/- slices.IndexFunc[[]int,int] -/
def f84v1_fin (p8 : Int) : St := ⟨(up u0 4 (dI p8)), h0⟩
theorem f84v1_out (p8 : Int) : outR (f84v1_fin p8) 0 c84.res = some ((dI p8), []) := by
  kernel_rfl
def f84v1_Q (r : Int) (e : PX) (st : St) : Prop := DoneF c84 0 ((dI r), []) e st
def f84v1_l0_J (a1 : List Int) (x : Int) : St := ⟨(up (up (up (up u0 8 (dI x)) 7 (dI (a1.length : Int))) 1 (.fn 128 [])) 0 (.d (.sl a1.length ((eInt .i64).cells a1)))), h0⟩
def f84v1_l0_H (a1 : List Int) (x : Int) (st : St) : Prop := keepSt [0, 1, 7, 8] [] [] st = f84v1_l0_J a1 x
def f84v1_l0_e0_J (a1 : List Int) : St := ⟨u0, h0⟩
def f84v1_l0_X (a1 : List Int) (z : Unit ⊕ Int) (e : PX) (st : St) : Prop := (match z with | .inl z => e = .exit 0 ∧ st = f84v1_l0_e0_J a1 | .inr z => e = .ret ∧ finSt c84.fin st = f84v1_fin z)
def f84v1_l0_j2_J (a1 : List Int) (p13 : Int) : St := ⟨(up (up (up (up u0 8 (dI p13)) 7 (dI (a1.length : Int))) 1 (.fn 128 [])) 0 (.d (.sl a1.length ((eInt .i64).cells a1)))), h0⟩
noncomputable def f84v1_l0_j2 (a1 : List Int) (p13 : Int) : Option (Int ⊕ (Unit ⊕ Int)) := ((idx a1 p13).bind fun z7 => ((f128 z7).bind fun z8 => (bif z8 then (some (.inr (.inr p13))) else (some (.inl (IntKind.i64.wrap (p13 + 1)))))))
theorem f84v1_l0_j2_ok {d : Nat} (hd : 2 ≤ d) (a1 : List Int) {r : Int ⊕ (Unit ⊕ Int)} {Q : PX → St → Prop} (hQ : ∀ e st', finL (f84v1_l0_H a1) (f84v1_l0_X a1) r e st' → Q e st') (p13 : Int) (hS : f84v1_l0_j2 a1 p13 = some r) {st : St} (he : keepSt [0, 1, 7, 8] [] [] st = f84v1_l0_j2_J a1 p13) : ZR (lev codes baseL (d - 1)) Q c84_1 [] st := by
  refine zrKeep he ?_
  unfold f84v1_l0_j2 at hS
  refine zrSeq ?_
  refine zrBlk ?_
  refine zrSeq (zrReg (zL 2 2 (zE (zkSeq (zrSeq (zrReg (zL 3 3 ?_)))))))
  refine bindE hS (fun z7 hz7 hS => ?_)
  refine zO (v := (.rptr ((eInt .i64).enc z7 ++ ((eInt .i64).cells (a1.drop ((p13 : Int).toNat + 1)))))) (ups := []) (some 14) 4 (.ixS 3 1 (tm 12) (tm 13)) (ev_ixS (eInt .i64) (kk := .i64) (xs := a1) (j := p13) (by kernel_rfl) (by kernel_rfl) hz7 rfl (by intro h; cases h)) ?_
  refine zL 1 5 ?_
  refine bindE hS (fun z8 hz8 hS => ?_)
  refine zO (v := (dB z8)) (ups := []) (some 16) 6 (.callv (tm 11) [(tm 15)]) (ev_callv (f := 128) (cs := []) (by kernel_rfl) (args := [(dI z7)]) (l := [(dI z7)]) (r := (dB z8)) (by kernel_rfl) (by kernel_rfl) (f128_ok (d - 1) (dpt hd rfl) z7 z8 hz8) (by kernel_rfl) (by kernel_rfl) (by kernel_rfl)) ?_
  refine zE (zkSeq ?_)
  refine zrSplit 16 z8 (by kernel_rfl) (fun hc => ?_) (fun hc => ?_)
  · replace hS := cond_t hc hS
    refine zT (zrSeq (zrReg (zL 2 2 (zE (zkSeq ?_)))))
    refine zrRet ?_
    refine zkBlkR ?_
    refine zkSeqR ?_
    refine zkNil ?_
    exact endQ hS hQ (finL_x (by intro h; cases h) (by show _ = _ ∧ _ = _; exact ⟨rfl, by kernel_rfl⟩))
  · replace hS := cond_f hc hS
    refine zF ?_
    refine zrSkip ?_
    refine zkBlk ?_
    refine zkSeq (zrReg (zL 2 2 (zE ?_)))
    refine zkNil ?_
    exact endQ hS hQ (finL_n (by show keepSt _ _ _ _ = _; kernel_rfl))
def f84v1_l0_j1_J (a1 : List Int) (p11 : Int) (p12 : Bool) : St := ⟨(up (up (up (up (up u0 9 (dB p12)) 8 (dI p11)) 7 (dI (a1.length : Int))) 1 (.fn 128 [])) 0 (.d (.sl a1.length ((eInt .i64).cells a1)))), h0⟩
noncomputable def f84v1_l0_j1 (a1 : List Int) (p11 : Int) (p12 : Bool) : Option (Int ⊕ (Unit ⊕ Int)) := (bif p12 then (f84v1_l0_j2 a1 p11) else (some (.inr (.inl ()))))
theorem f84v1_l0_j1_ok {d : Nat} (hd : 2 ≤ d) (a1 : List Int) {r : Int ⊕ (Unit ⊕ Int)} {Q : PX → St → Prop} (hQ : ∀ e st', finL (f84v1_l0_H a1) (f84v1_l0_X a1) r e st' → Q e st') (p11 : Int) (p12 : Bool) (hS : f84v1_l0_j1 a1 p11 p12 = some r) {st : St} (he : keepSt [0, 1, 7, 8, 9] [] [] st = f84v1_l0_j1_J a1 p11 p12) : ZR (lev codes baseL (d - 1)) Q c84_2 [] st := by
  refine zrKeep he ?_
  unfold f84v1_l0_j1 at hS
  refine zrSeq ?_
  refine zrSplit 9 p12 (by kernel_rfl) (fun hc => ?_) (fun hc => ?_)
  · replace hS := cond_t hc hS
    refine zT ?_
    refine zrSkip ?_
    refine zkSeq ?_
    exact f84v1_l0_j2_ok hd a1 hQ p11 hS (by kernel_rfl)
  · replace hS := cond_f hc hS
    refine zF ?_
    refine zrKeep (J := f84v1_l0_e0_J a1) (by kernel_rfl) ?_
    refine zrExit ?_
    refine zkSeqX ?_
    refine zkNil ?_
    exact endQ hS hQ (finL_x (by intro h; cases h) (by show _ = _ ∧ _ = _; exact ⟨rfl, rfl⟩))
noncomputable def f84v1_l0 (a1 : List Int) (x : Int) : Option (Int ⊕ (Unit ⊕ Int)) := (bif (decide (x < (a1.length : Int))) then (f84v1_l0_j1 a1 x true) else (f84v1_l0_j1 a1 x false))
theorem f84v1_l0_ok {d : Nat} (hd : 2 ≤ d) (a1 : List Int) {r : Int ⊕ (Unit ⊕ Int)} {Q : PX → St → Prop} (hQ : ∀ e st', finL (f84v1_l0_H a1) (f84v1_l0_X a1) r e st' → Q e st') {x : Int} (hS : f84v1_l0 a1 x = some r) {st : St} (he : f84v1_l0_H a1 x st) : ZR (lev codes baseL (d - 1)) Q c84_3 [] st := by
  refine zrKeep he ?_
  unfold f84v1_l0 at hS
  refine zrSeq (zrReg ?_)
  refine zB 9 1 (.cmpI .lss (tm 8) (tm 7)) (decide (x < (a1.length : Int))) (fun hc => ?_) (fun hc => ?_)
  · replace hS := cond_t hc hS
    refine zE (zkSeq ?_)
    exact f84v1_l0_j1_ok hd a1 hQ x true hS (by kernel_rfl)
  · replace hS := cond_f hc hS
    refine zE (zkSeq ?_)
    exact f84v1_l0_j1_ok hd a1 hQ x false hS (by kernel_rfl)
noncomputable def f84v1 (a1 : List Int) : Option (Int) := ((loopO (f84v1_l0 a1) 0).bind fun z9 => (Sum.elim (fun z10 => (some (-1))) (fun z11 => (some z11)) z9))
theorem f84v1_ok (d : Nat) (hd : 2 ≤ d) (a1 : List Int) (r : Int) (hS : f84v1 a1 = some r) : lev codes baseL d 84 [(.d (.sl a1.length ((eInt .i64).cells a1))), (.fn 128 [])] [] = some ((dI r), []) := by
  refine lev_go codes84 rfl rfl (Nat.le_trans (Nat.le_of_ble_eq_true rfl) hd) fun Q hQ => ?_
  unfold f84v1 at hS
  show ZR _ Q c84_b [] _
  replace hQ : ∀ e st', f84v1_Q r e st' → Q e st' := hQ
  refine zrSeq (zrReg (zL 1 1 (zE (zkSeq (zrSeq (zrSeq (zrReg (zL 3 3 (zE (zkSeq ?_))))))))))
  refine zrBlk ?_
  refine bindE hS (fun z9 hz9 hS => ?_)
  refine zrLoop (f84v1_l0_H a1) (f84v1_l0_X a1) (fun x st r Q h0 hS hQ => f84v1_l0_ok hd a1 hQ hS h0) (x := 0) (z := z9) (by show keepSt _ _ _ _ = _; kernel_rfl) hz9 ?_
  rcases z9 with z10 | z11
  · replace hS := (show _ = _ from hS)
    simp only [Sum.elim_inl] at hS
    intro e st' _ hX
    obtain ⟨rfl, rfl⟩ : _ ∧ _ := hX
    refine zkBlkX ?_
    refine zkSeq (zrSeq (zrReg (zL 1 1 (zE (zkSeq ?_)))))
    refine zrRet ?_
    refine zkNil ?_
    exact endQ hS hQ (fR (f84v1_out (-1)))
  · simp only [Sum.elim_inr] at hS
    intro e st' _ hX
    obtain ⟨rfl, hX⟩ : _ ∧ _ := hX
    refine zkBlkR ?_
    refine zkSeqR ?_
    refine zkNil ?_
    exact endQ hS hQ (fRet (by kernel_rfl) ((congrArg (fun s => outR s 0 c84.res) hX).trans (f84v1_out z11)))
/- slices.ContainsFunc[[]int,int] -/
def f61v1_fin (p2 : Bool) : St := ⟨(up u0 4 (dB p2)), h0⟩
theorem f61v1_out (p2 : Bool) : outR (f61v1_fin p2) 0 c61.res = some ((dB p2), []) := by
  kernel_rfl
def f61v1_Q (r : Bool) (e : PX) (st : St) : Prop := DoneF c61 0 ((dB r), []) e st
noncomputable def f61v1 (a1 : List Int) : Option (Bool) := ((f84v1 a1).bind fun z2 => (bif (decide (0 ≤ z2)) then (some true) else (some false)))
theorem f61v1_ok (d : Nat) (hd : 3 ≤ d) (a1 : List Int) (r : Bool) (hS : f61v1 a1 = some r) : lev codes baseL d 61 [(.d (.sl a1.length ((eInt .i64).cells a1))), (.fn 128 [])] [] = some ((dB r), []) := by
  refine lev_go codes61 rfl rfl (Nat.le_trans (Nat.le_of_ble_eq_true rfl) hd) fun Q hQ => ?_
  unfold f61v1 at hS
  show ZR _ Q c61_b [] _
  replace hQ : ∀ e st', f61v1_Q r e st' → Q e st' := hQ
  refine zrSeq (zrReg (zL 1 1 (zE (zkSeq (zrSeq (zrReg (zL 2 2 ?_)))))))
  refine bindE hS (fun z2 hz2 hS => ?_)
  refine zO (some 7) 3 (.call 84 [(tm 5), (tm 6)]) (ev_callA (by kernel_rfl) (f84v1_ok (d - 1) (dpt hd rfl) a1 z2 hz2) (by kernel_rfl) (by kernel_rfl)) ?_
  refine zB 8 4 (.cmpI .geq (tm 7) (ki 0)) (decide (0 ≤ z2)) (fun hc => ?_) (fun hc => ?_)
  · replace hS := cond_t hc hS
    refine zL 1 5 (zE (zkSeq ?_))
    refine zrRet ?_
    refine zkNil ?_
    exact endQ hS hQ (fR (f61v1_out true))
  · replace hS := cond_f hc hS
    refine zL 1 5 (zE (zkSeq ?_))
    refine zrRet ?_
    refine zkNil ?_
    exact endQ hS hQ (fR (f61v1_out false))
/- farwriter/pen.flag -/
def f134_fin (p1 : Int) : St := ⟨(up u0 2 (dI p1)), h0⟩
theorem f134_out (p1 : Int) : outR (f134_fin p1) 0 c134.res = some ((dI p1), []) := by
  kernel_rfl
def f134_Q (r : Int) (e : PX) (st : St) : Prop := DoneF c134 0 ((dI r), []) e st
noncomputable def f134 (a1 : Int) : Option (Int) := ((inR a1 10).bind fun m2 => (some (([0, 1, 2, 4, 8, 16, 0, 32, 64, 128] : List Int).getD m2 0)))
theorem f134_ok (d : Nat) (hd : 1 ≤ d) (a1 : Int) (r : Int) (hS : f134 a1 = some r) : lev codes baseL d 134 [(dI a1)] [] = some ((dI r), []) := by
  refine lev_go codes134 rfl rfl (Nat.le_trans (Nat.le_of_ble_eq_true rfl) hd) fun Q hQ => ?_
  unfold f134 at hS
  show ZR _ Q c134_b [] _
  replace hQ : ∀ e st', f134_Q r e st' → Q e st' := hQ
  refine zrSeq (zrReg (zL 1 1 (zE (zkSeq (zrSeq (zrReg (zL 2 2 ?_)))))))
  refine bindE hS (fun m2 hm2 hS => ?_)
  refine zO (v := (dI (([0, 1, 2, 4, 8, 16, 0, 32, 64, 128] : List Int).getD m2 0))) (ups := []) (some 5) 3 (.ixV .false 10 1 (tm 3) (tm 4)) (ev_ixV (eInt .i64) (fun i => ([0, 1, 2, 4, 8, 16, 0, 32, 64, 128] : List Int).getD i 0) (kk := .i64) (j := a1) (by kernel_rfl) (by kernel_rfl) hm2 rfl (by kernel_rfl) (by kernel_rfl)) ?_
  refine zL 1 4 (zE (zkSeq ?_))
  refine zrRet ?_
  refine zkNil ?_
  exact endQ hS hQ (fR (f134_out (([0, 1, 2, 4, 8, 16, 0, 32, 64, 128] : List Int).getD m2 0)))
/- farwriter/pen.one -/
def f129_fin (p26 : GPen) : St := ⟨u0, (up h0 0 ⟨0, some (.box ((dI p26.Flags) :: ((dI p26.Fore) :: ((dI p26.Back) :: []))))⟩)⟩
theorem f129_out (p26 : GPen) : outR (f129_fin p26) 1 c129.res = some ((.tup []), [(.box ((dI p26.Flags) :: ((dI p26.Fore) :: ((dI p26.Back) :: []))))]) := by
  kernel_rfl
def f129_Q (r : GPen) (e : PX) (st : St) : Prop := DoneF c129 1 ((.tup []), [(.box ((dI r.Flags) :: ((dI r.Fore) :: ((dI r.Back) :: []))))]) e st
def f129_j2_J (a1 : Int) (a2 : GPen) : St := ⟨(up (up (up u0 5 (dI 40)) 4 (.r (.ptr 0 0 2))) 1 (dI a1)), (up h0 0 ⟨0, some (.box ((dI a2.Flags) :: ((dI a2.Fore) :: ((dI a2.Back) :: []))))⟩)⟩
noncomputable def f129_j2 (a1 : Int) (a2 : GPen) : Option (GPen) := (bif (decide (a1 = 49)) then (some (GPen.mk a2.Flags a2.Fore 0)) else (bif (decide (100 ≤ a1)) then (bif (decide (a1 ≤ 107)) then (some (GPen.mk a2.Flags a2.Fore (IntKind.i64.wrap ((IntKind.i64.wrap ((IntKind.i64.wrap (a1 - 40)) - 60)) + 9)))) else (some a2)) else (some a2)))
theorem f129_j2_ok {d : Nat} (hd : 2 ≤ d) (a1 : Int) (a2 : GPen) {r : GPen} {Q : PX → St → Prop} (hQ : ∀ e st', f129_Q r e st' → Q e st')  (hS : f129_j2 a1 a2 = some r) {st : St} (he : keepSt [1, 4, 5] [(0, .id 0)] [] st = f129_j2_J a1 a2) : ZR (lev codes baseL (d - 1)) Q c129_1 [.blk 0] st := by
  refine zrKeep he ?_
  unfold f129_j2 at hS
  refine zrSeq (zrReg (zL 3 3 ?_))
  refine zB 91 4 (.cmpI .eql (tm 88) (tm 90)) (decide (a1 = 49)) (fun hc => ?_) (fun hc => ?_)
  · replace hS := cond_t hc hS
    refine zL 1 5 (zE (zkSeq (zT (zrReg (zL 3 3 (zE ?_))))))
    refine zkBlk ?_
    refine zkNil ?_
    exact endQ hS hQ (fN (f129_out (GPen.mk a2.Flags a2.Fore 0)))
  · replace hS := cond_f hc hS
    refine zL 1 5 (zE (zkSeq (zF (zrSeq (zrReg (zL 3 3 ?_))))))
    refine zB 98 4 (.cmpI .geq (tm 95) (tm 97)) (decide (100 ≤ a1)) (fun hc => ?_) (fun hc => ?_)
    · replace hS := cond_t hc hS
      refine zL 4 8 ?_
      refine zlBool (d := 103) (op := (.cmpI .leq (tm 100) (tm 102))) (g := (some (99, true))) (j := 9) (decide (a1 ≤ 107)) rfl (by kernel_rfl) (by kernel_rfl) (by kernel_rfl) (fun hc => ?_) (fun hc => ?_)
      · replace hS := cond_t hc hS
        refine zL 2 11 (zE (zkSeq (zT (zrReg (zL 8 8 (zE ?_))))))
        refine zkBlk ?_
        refine zkNil ?_
        exact endQ hS hQ (fN (f129_out (GPen.mk a2.Flags a2.Fore (IntKind.i64.wrap ((IntKind.i64.wrap ((IntKind.i64.wrap (a1 - 40)) - 60)) + 9)))))
      · replace hS := cond_f hc hS
        refine zL 2 11 (zE (zkSeq (zF ?_)))
        refine zrSkip ?_
        refine zkBlk ?_
        refine zkNil ?_
        exact endQ hS hQ (fN (f129_out a2))
    · replace hS := cond_f hc hS
      refine zL 7 11 (zE (zkSeq (zF ?_)))
      refine zrSkip ?_
      refine zkBlk ?_
      refine zkNil ?_
      exact endQ hS hQ (fN (f129_out a2))
def f129_j1_J (a1 : Int) (a2 : GPen) : St := ⟨(up (up (up u0 5 (dI 40)) 4 (.r (.ptr 0 0 2))) 1 (dI a1)), (up h0 0 ⟨0, some (.box ((dI a2.Flags) :: ((dI a2.Fore) :: ((dI a2.Back) :: []))))⟩)⟩
noncomputable def f129_j1 (a1 : Int) (a2 : GPen) : Option (GPen) := (bif (decide (40 ≤ a1)) then (bif (decide (a1 ≤ 47)) then (some (GPen.mk a2.Flags a2.Fore (IntKind.i64.wrap ((IntKind.i64.wrap (a1 - 40)) + 1)))) else (f129_j2 a1 a2 )) else (f129_j2 a1 a2 ))
theorem f129_j1_ok {d : Nat} (hd : 2 ≤ d) (a1 : Int) (a2 : GPen) {r : GPen} {Q : PX → St → Prop} (hQ : ∀ e st', f129_Q r e st' → Q e st')  (hS : f129_j1 a1 a2 = some r) {st : St} (he : keepSt [1, 4, 5] [(0, .id 0)] [] st = f129_j1_J a1 a2) : ZR (lev codes baseL (d - 1)) Q c129_2 [.blk 0] st := by
  refine zrKeep he ?_
  unfold f129_j1 at hS
  refine zrSeq (zrReg (zL 2 2 ?_))
  refine zB 74 3 (.cmpI .geq (tm 72) (tm 73)) (decide (40 ≤ a1)) (fun hc => ?_) (fun hc => ?_)
  · replace hS := cond_t hc hS
    refine zL 4 7 ?_
    refine zlBool (d := 79) (op := (.cmpI .leq (tm 76) (tm 78))) (g := (some (75, true))) (j := 8) (decide (a1 ≤ 47)) rfl (by kernel_rfl) (by kernel_rfl) (by kernel_rfl) (fun hc => ?_) (fun hc => ?_)
    · replace hS := cond_t hc hS
      refine zL 2 10 (zE (zkSeq (zT (zrReg (zL 7 7 (zE ?_))))))
      refine zkBlk ?_
      refine zkNil ?_
      exact endQ hS hQ (fN (f129_out (GPen.mk a2.Flags a2.Fore (IntKind.i64.wrap ((IntKind.i64.wrap (a1 - 40)) + 1)))))
    · replace hS := cond_f hc hS
      refine zL 2 10 (zE (zkSeq (zF ?_)))
      exact f129_j2_ok hd a1 a2 hQ  hS (by kernel_rfl)
  · replace hS := cond_f hc hS
    refine zL 7 10 (zE (zkSeq (zF ?_)))
    exact f129_j2_ok hd a1 a2 hQ  hS (by kernel_rfl)
def f129_j0_J (a1 : Int) (a2 : GPen) : St := ⟨(up (up (up (up u0 5 (dI 40)) 4 (.r (.ptr 0 0 2))) 1 (dI a1)) 0 (pt 0)), (up h0 0 ⟨0, some (.box ((dI a2.Flags) :: ((dI a2.Fore) :: ((dI a2.Back) :: []))))⟩)⟩
noncomputable def f129_j0 (a1 : Int) (a2 : GPen) : Option (GPen) := (bif (decide (a1 = 0)) then (some (GPen.mk 0 0 0)) else (bif (decide (a1 ≤ 9)) then ((f134 a1).bind fun z5 => (some (GPen.mk (bitI .or .i64 a2.Flags z5) a2.Fore a2.Back))) else (bif (decide (a1 = 22)) then (some (GPen.mk (bitI .andNot .i64 a2.Flags 3) a2.Fore a2.Back)) else (bif (decide (23 ≤ a1)) then (bif (decide (a1 ≤ 29)) then ((f134 (IntKind.i64.wrap (a1 - 20))).bind fun z6 => (some (GPen.mk (bitI .andNot .i64 a2.Flags z6) a2.Fore a2.Back))) else (f129_j1 a1 a2 )) else (f129_j1 a1 a2 )))))
theorem f129_j0_ok {d : Nat} (hd : 2 ≤ d) (a1 : Int) (a2 : GPen) {r : GPen} {Q : PX → St → Prop} (hQ : ∀ e st', f129_Q r e st' → Q e st')  (hS : f129_j0 a1 a2 = some r) {st : St} (he : keepSt [0, 1, 4, 5] [(0, .id 0)] [] st = f129_j0_J a1 a2) : ZR (lev codes baseL (d - 1)) Q c129_3 [] st := by
  refine zrKeep he ?_
  unfold f129_j0 at hS
  refine zrBlk ?_
  refine zrSeq (zrReg (zL 1 1 ?_))
  refine zB 28 2 (.cmpI .eql (tm 27) (ki 0)) (decide (a1 = 0)) (fun hc => ?_) (fun hc => ?_)
  · replace hS := cond_t hc hS
    refine zL 1 3 (zE (zkSeq (zT (zrReg (zL 4 4 (zE ?_))))))
    refine zkBlk ?_
    refine zkNil ?_
    exact endQ hS hQ (fN (f129_out (GPen.mk 0 0 0)))
  · replace hS := cond_f hc hS
    refine zL 1 3 (zE (zkSeq (zF (zrSeq (zrReg (zL 1 1 ?_))))))
    refine zB 34 2 (.cmpI .leq (tm 33) (ki 9)) (decide (a1 ≤ 9)) (fun hc => ?_) (fun hc => ?_)
    · replace hS := cond_t hc hS
      refine zL 1 3 (zE (zkSeq (zT ?_)))
      refine zrRegD ?_
      refine zdRun (n := 5) (j := 5) (ts := [[], [], [], [(0, false)], []]) (acc' := [[], [], [], [(0, false)], []]) rfl (by kernel_rfl) (by kernel_rfl) (by kernel_rfl) ?_
      refine bindE hS (fun z5 hz5 hS => ?_)
      refine zdOp (d := some 40) (op := (.call 134 [(tm 39)])) (g := none) (j := 6) (t1 := [(328, true), (329, true), (330, true), (331, true), (332, true), (333, true), (334, true), (335, true)]) (acc' := [[], [], [], [(0, false)], [], [(328, true), (329, true), (330, true), (331, true), (332, true), (333, true), (334, true), (335, true)]]) (by kernel_rfl) (by kernel_rfl) rfl (by kernel_rfl) (by kernel_rfl) (ev_callA (by kernel_rfl) (f134_ok (d - 1) (dpt hd rfl) a1 z5 hz5) (by kernel_rfl) (by kernel_rfl)) ?_
      refine zdRun (n := 4) (j := 10) (ts := [[], [], [], [(0, true)]]) (acc' := [[], [], [], [(0, false)], [], [(328, true), (329, true), (330, true), (331, true), (332, true), (333, true), (334, true), (335, true)], [], [], [], [(0, true)]]) rfl (by kernel_rfl) (by kernel_rfl) (by kernel_rfl) ?_
      refine zdEnd (by kernel_rfl) (by kernel_rfl) ?_
      refine zkBlk ?_
      refine zkNil ?_
      exact endQ hS hQ (fN (f129_out (GPen.mk (bitI .or .i64 a2.Flags z5) a2.Fore a2.Back)))
    · replace hS := cond_f hc hS
      refine zL 1 3 (zE (zkSeq (zF (zrSeq (zrReg (zL 1 1 ?_))))))
      refine zB 46 2 (.cmpI .eql (tm 45) (ki 22)) (decide (a1 = 22)) (fun hc => ?_) (fun hc => ?_)
      · replace hS := cond_t hc hS
        refine zL 1 3 (zE (zkSeq (zT (zrReg (zL 8 8 (zE ?_))))))
        refine zkBlk ?_
        refine zkNil ?_
        exact endQ hS hQ (fN (f129_out (GPen.mk (bitI .andNot .i64 a2.Flags 3) a2.Fore a2.Back)))
      · replace hS := cond_f hc hS
        refine zL 1 3 (zE (zkSeq (zF (zrSeq (zrReg (zL 1 1 ?_))))))
        refine zB 56 2 (.cmpI .geq (tm 55) (ki 23)) (decide (23 ≤ a1)) (fun hc => ?_) (fun hc => ?_)
        · replace hS := cond_t hc hS
          refine zL 2 4 ?_
          refine zlBool (d := 59) (op := (.cmpI .leq (tm 58) (ki 29))) (g := (some (57, true))) (j := 5) (decide (a1 ≤ 29)) rfl (by kernel_rfl) (by kernel_rfl) (by kernel_rfl) (fun hc => ?_) (fun hc => ?_)
          · replace hS := cond_t hc hS
            refine zL 2 7 (zE (zkSeq (zT ?_)))
            refine zrRegD ?_
            refine zdRun (n := 6) (j := 6) (ts := [[], [], [], [(0, false)], [], []]) (acc' := [[], [], [], [(0, false)], [], []]) rfl (by kernel_rfl) (by kernel_rfl) (by kernel_rfl) ?_
            refine bindE hS (fun z6 hz6 hS => ?_)
            refine zdOp (d := some 67) (op := (.call 134 [(tm 66)])) (g := none) (j := 7) (t1 := [(544, true), (545, true), (546, true), (547, true), (548, true), (549, true), (550, true), (551, true)]) (acc' := [[], [], [], [(0, false)], [], [], [(544, true), (545, true), (546, true), (547, true), (548, true), (549, true), (550, true), (551, true)]]) (by kernel_rfl) (by kernel_rfl) rfl (by kernel_rfl) (by kernel_rfl) (ev_callA (by kernel_rfl) (f134_ok (d - 1) (dpt hd rfl) (IntKind.i64.wrap (a1 - 20)) z6 hz6) (by kernel_rfl) (by kernel_rfl)) ?_
            refine zdRun (n := 4) (j := 11) (ts := [[], [], [], [(0, true)]]) (acc' := [[], [], [], [(0, false)], [], [], [(544, true), (545, true), (546, true), (547, true), (548, true), (549, true), (550, true), (551, true)], [], [], [], [(0, true)]]) rfl (by kernel_rfl) (by kernel_rfl) (by kernel_rfl) ?_
            refine zdEnd (by kernel_rfl) (by kernel_rfl) ?_
            refine zkBlk ?_
            refine zkNil ?_
            exact endQ hS hQ (fN (f129_out (GPen.mk (bitI .andNot .i64 a2.Flags z6) a2.Fore a2.Back)))
          · replace hS := cond_f hc hS
            refine zL 2 7 (zE (zkSeq (zF ?_)))
            exact f129_j1_ok hd a1 a2 hQ  hS (by kernel_rfl)
        · replace hS := cond_f hc hS
          refine zL 5 7 (zE (zkSeq (zF ?_)))
          exact f129_j1_ok hd a1 a2 hQ  hS (by kernel_rfl)
def f129_j5_J (a1 : Int) (a2 : GPen) : St := ⟨(up (up (up u0 5 (dI 30)) 4 (.r (.ptr 0 0 1))) 1 (dI a1)), (up h0 0 ⟨0, some (.box ((dI a2.Flags) :: ((dI a2.Fore) :: ((dI a2.Back) :: []))))⟩)⟩
noncomputable def f129_j5 (a1 : Int) (a2 : GPen) : Option (GPen) := (bif (decide (a1 = 39)) then (some (GPen.mk a2.Flags 0 a2.Back)) else (bif (decide (90 ≤ a1)) then (bif (decide (a1 ≤ 97)) then (some (GPen.mk a2.Flags (IntKind.i64.wrap ((IntKind.i64.wrap ((IntKind.i64.wrap (a1 - 30)) - 60)) + 9)) a2.Back)) else (some a2)) else (some a2)))
theorem f129_j5_ok {d : Nat} (hd : 2 ≤ d) (a1 : Int) (a2 : GPen) {r : GPen} {Q : PX → St → Prop} (hQ : ∀ e st', f129_Q r e st' → Q e st')  (hS : f129_j5 a1 a2 = some r) {st : St} (he : keepSt [1, 4, 5] [(0, .id 0)] [] st = f129_j5_J a1 a2) : ZR (lev codes baseL (d - 1)) Q c129_1 [.blk 0] st := by
  refine zrKeep he ?_
  unfold f129_j5 at hS
  refine zrSeq (zrReg (zL 3 3 ?_))
  refine zB 91 4 (.cmpI .eql (tm 88) (tm 90)) (decide (a1 = 39)) (fun hc => ?_) (fun hc => ?_)
  · replace hS := cond_t hc hS
    refine zL 1 5 (zE (zkSeq (zT (zrReg (zL 3 3 (zE ?_))))))
    refine zkBlk ?_
    refine zkNil ?_
    exact endQ hS hQ (fN (f129_out (GPen.mk a2.Flags 0 a2.Back)))
  · replace hS := cond_f hc hS
    refine zL 1 5 (zE (zkSeq (zF (zrSeq (zrReg (zL 3 3 ?_))))))
    refine zB 98 4 (.cmpI .geq (tm 95) (tm 97)) (decide (90 ≤ a1)) (fun hc => ?_) (fun hc => ?_)
    · replace hS := cond_t hc hS
      refine zL 4 8 ?_
      refine zlBool (d := 103) (op := (.cmpI .leq (tm 100) (tm 102))) (g := (some (99, true))) (j := 9) (decide (a1 ≤ 97)) rfl (by kernel_rfl) (by kernel_rfl) (by kernel_rfl) (fun hc => ?_) (fun hc => ?_)
      · replace hS := cond_t hc hS
        refine zL 2 11 (zE (zkSeq (zT (zrReg (zL 8 8 (zE ?_))))))
        refine zkBlk ?_
        refine zkNil ?_
        exact endQ hS hQ (fN (f129_out (GPen.mk a2.Flags (IntKind.i64.wrap ((IntKind.i64.wrap ((IntKind.i64.wrap (a1 - 30)) - 60)) + 9)) a2.Back)))
      · replace hS := cond_f hc hS
        refine zL 2 11 (zE (zkSeq (zF ?_)))
        refine zrSkip ?_
        refine zkBlk ?_
        refine zkNil ?_
        exact endQ hS hQ (fN (f129_out a2))
    · replace hS := cond_f hc hS
      refine zL 7 11 (zE (zkSeq (zF ?_)))
      refine zrSkip ?_
      refine zkBlk ?_
      refine zkNil ?_
      exact endQ hS hQ (fN (f129_out a2))
def f129_j4_J (a1 : Int) (a2 : GPen) : St := ⟨(up (up (up u0 5 (dI 30)) 4 (.r (.ptr 0 0 1))) 1 (dI a1)), (up h0 0 ⟨0, some (.box ((dI a2.Flags) :: ((dI a2.Fore) :: ((dI a2.Back) :: []))))⟩)⟩
noncomputable def f129_j4 (a1 : Int) (a2 : GPen) : Option (GPen) := (bif (decide (30 ≤ a1)) then (bif (decide (a1 ≤ 37)) then (some (GPen.mk a2.Flags (IntKind.i64.wrap ((IntKind.i64.wrap (a1 - 30)) + 1)) a2.Back)) else (f129_j5 a1 a2 )) else (f129_j5 a1 a2 ))
theorem f129_j4_ok {d : Nat} (hd : 2 ≤ d) (a1 : Int) (a2 : GPen) {r : GPen} {Q : PX → St → Prop} (hQ : ∀ e st', f129_Q r e st' → Q e st')  (hS : f129_j4 a1 a2 = some r) {st : St} (he : keepSt [1, 4, 5] [(0, .id 0)] [] st = f129_j4_J a1 a2) : ZR (lev codes baseL (d - 1)) Q c129_2 [.blk 0] st := by
  refine zrKeep he ?_
  unfold f129_j4 at hS
  refine zrSeq (zrReg (zL 2 2 ?_))
  refine zB 74 3 (.cmpI .geq (tm 72) (tm 73)) (decide (30 ≤ a1)) (fun hc => ?_) (fun hc => ?_)
  · replace hS := cond_t hc hS
    refine zL 4 7 ?_
    refine zlBool (d := 79) (op := (.cmpI .leq (tm 76) (tm 78))) (g := (some (75, true))) (j := 8) (decide (a1 ≤ 37)) rfl (by kernel_rfl) (by kernel_rfl) (by kernel_rfl) (fun hc => ?_) (fun hc => ?_)
    · replace hS := cond_t hc hS
      refine zL 2 10 (zE (zkSeq (zT (zrReg (zL 7 7 (zE ?_))))))
      refine zkBlk ?_
      refine zkNil ?_
      exact endQ hS hQ (fN (f129_out (GPen.mk a2.Flags (IntKind.i64.wrap ((IntKind.i64.wrap (a1 - 30)) + 1)) a2.Back)))
    · replace hS := cond_f hc hS
      refine zL 2 10 (zE (zkSeq (zF ?_)))
      exact f129_j5_ok hd a1 a2 hQ  hS (by kernel_rfl)
  · replace hS := cond_f hc hS
    refine zL 7 10 (zE (zkSeq (zF ?_)))
    exact f129_j5_ok hd a1 a2 hQ  hS (by kernel_rfl)
def f129_j3_J (a1 : Int) (a2 : GPen) : St := ⟨(up (up (up (up u0 5 (dI 30)) 4 (.r (.ptr 0 0 1))) 1 (dI a1)) 0 (pt 0)), (up h0 0 ⟨0, some (.box ((dI a2.Flags) :: ((dI a2.Fore) :: ((dI a2.Back) :: []))))⟩)⟩
noncomputable def f129_j3 (a1 : Int) (a2 : GPen) : Option (GPen) := (bif (decide (a1 = 0)) then (some (GPen.mk 0 0 0)) else (bif (decide (a1 ≤ 9)) then ((f134 a1).bind fun z7 => (some (GPen.mk (bitI .or .i64 a2.Flags z7) a2.Fore a2.Back))) else (bif (decide (a1 = 22)) then (some (GPen.mk (bitI .andNot .i64 a2.Flags 3) a2.Fore a2.Back)) else (bif (decide (23 ≤ a1)) then (bif (decide (a1 ≤ 29)) then ((f134 (IntKind.i64.wrap (a1 - 20))).bind fun z8 => (some (GPen.mk (bitI .andNot .i64 a2.Flags z8) a2.Fore a2.Back))) else (f129_j4 a1 a2 )) else (f129_j4 a1 a2 )))))
theorem f129_j3_ok {d : Nat} (hd : 2 ≤ d) (a1 : Int) (a2 : GPen) {r : GPen} {Q : PX → St → Prop} (hQ : ∀ e st', f129_Q r e st' → Q e st')  (hS : f129_j3 a1 a2 = some r) {st : St} (he : keepSt [0, 1, 4, 5] [(0, .id 0)] [] st = f129_j3_J a1 a2) : ZR (lev codes baseL (d - 1)) Q c129_3 [] st := by
  refine zrKeep he ?_
  unfold f129_j3 at hS
  refine zrBlk ?_
  refine zrSeq (zrReg (zL 1 1 ?_))
  refine zB 28 2 (.cmpI .eql (tm 27) (ki 0)) (decide (a1 = 0)) (fun hc => ?_) (fun hc => ?_)
  · replace hS := cond_t hc hS
    refine zL 1 3 (zE (zkSeq (zT (zrReg (zL 4 4 (zE ?_))))))
    refine zkBlk ?_
    refine zkNil ?_
    exact endQ hS hQ (fN (f129_out (GPen.mk 0 0 0)))
  · replace hS := cond_f hc hS
    refine zL 1 3 (zE (zkSeq (zF (zrSeq (zrReg (zL 1 1 ?_))))))
    refine zB 34 2 (.cmpI .leq (tm 33) (ki 9)) (decide (a1 ≤ 9)) (fun hc => ?_) (fun hc => ?_)
    · replace hS := cond_t hc hS
      refine zL 1 3 (zE (zkSeq (zT ?_)))
      refine zrRegD ?_
      refine zdRun (n := 5) (j := 5) (ts := [[], [], [], [(0, false)], []]) (acc' := [[], [], [], [(0, false)], []]) rfl (by kernel_rfl) (by kernel_rfl) (by kernel_rfl) ?_
      refine bindE hS (fun z7 hz7 hS => ?_)
      refine zdOp (d := some 40) (op := (.call 134 [(tm 39)])) (g := none) (j := 6) (t1 := [(328, true), (329, true), (330, true), (331, true), (332, true), (333, true), (334, true), (335, true)]) (acc' := [[], [], [], [(0, false)], [], [(328, true), (329, true), (330, true), (331, true), (332, true), (333, true), (334, true), (335, true)]]) (by kernel_rfl) (by kernel_rfl) rfl (by kernel_rfl) (by kernel_rfl) (ev_callA (by kernel_rfl) (f134_ok (d - 1) (dpt hd rfl) a1 z7 hz7) (by kernel_rfl) (by kernel_rfl)) ?_
      refine zdRun (n := 4) (j := 10) (ts := [[], [], [], [(0, true)]]) (acc' := [[], [], [], [(0, false)], [], [(328, true), (329, true), (330, true), (331, true), (332, true), (333, true), (334, true), (335, true)], [], [], [], [(0, true)]]) rfl (by kernel_rfl) (by kernel_rfl) (by kernel_rfl) ?_
      refine zdEnd (by kernel_rfl) (by kernel_rfl) ?_
      refine zkBlk ?_
      refine zkNil ?_
      exact endQ hS hQ (fN (f129_out (GPen.mk (bitI .or .i64 a2.Flags z7) a2.Fore a2.Back)))
    · replace hS := cond_f hc hS
      refine zL 1 3 (zE (zkSeq (zF (zrSeq (zrReg (zL 1 1 ?_))))))
      refine zB 46 2 (.cmpI .eql (tm 45) (ki 22)) (decide (a1 = 22)) (fun hc => ?_) (fun hc => ?_)
      · replace hS := cond_t hc hS
        refine zL 1 3 (zE (zkSeq (zT (zrReg (zL 8 8 (zE ?_))))))
        refine zkBlk ?_
        refine zkNil ?_
        exact endQ hS hQ (fN (f129_out (GPen.mk (bitI .andNot .i64 a2.Flags 3) a2.Fore a2.Back)))
      · replace hS := cond_f hc hS
        refine zL 1 3 (zE (zkSeq (zF (zrSeq (zrReg (zL 1 1 ?_))))))
        refine zB 56 2 (.cmpI .geq (tm 55) (ki 23)) (decide (23 ≤ a1)) (fun hc => ?_) (fun hc => ?_)
        · replace hS := cond_t hc hS
          refine zL 2 4 ?_
          refine zlBool (d := 59) (op := (.cmpI .leq (tm 58) (ki 29))) (g := (some (57, true))) (j := 5) (decide (a1 ≤ 29)) rfl (by kernel_rfl) (by kernel_rfl) (by kernel_rfl) (fun hc => ?_) (fun hc => ?_)
          · replace hS := cond_t hc hS
            refine zL 2 7 (zE (zkSeq (zT ?_)))
            refine zrRegD ?_
            refine zdRun (n := 6) (j := 6) (ts := [[], [], [], [(0, false)], [], []]) (acc' := [[], [], [], [(0, false)], [], []]) rfl (by kernel_rfl) (by kernel_rfl) (by kernel_rfl) ?_
            refine bindE hS (fun z8 hz8 hS => ?_)
            refine zdOp (d := some 67) (op := (.call 134 [(tm 66)])) (g := none) (j := 7) (t1 := [(544, true), (545, true), (546, true), (547, true), (548, true), (549, true), (550, true), (551, true)]) (acc' := [[], [], [], [(0, false)], [], [], [(544, true), (545, true), (546, true), (547, true), (548, true), (549, true), (550, true), (551, true)]]) (by kernel_rfl) (by kernel_rfl) rfl (by kernel_rfl) (by kernel_rfl) (ev_callA (by kernel_rfl) (f134_ok (d - 1) (dpt hd rfl) (IntKind.i64.wrap (a1 - 20)) z8 hz8) (by kernel_rfl) (by kernel_rfl)) ?_
            refine zdRun (n := 4) (j := 11) (ts := [[], [], [], [(0, true)]]) (acc' := [[], [], [], [(0, false)], [], [], [(544, true), (545, true), (546, true), (547, true), (548, true), (549, true), (550, true), (551, true)], [], [], [], [(0, true)]]) rfl (by kernel_rfl) (by kernel_rfl) (by kernel_rfl) ?_
            refine zdEnd (by kernel_rfl) (by kernel_rfl) ?_
            refine zkBlk ?_
            refine zkNil ?_
            exact endQ hS hQ (fN (f129_out (GPen.mk (bitI .andNot .i64 a2.Flags z8) a2.Fore a2.Back)))
          · replace hS := cond_f hc hS
            refine zL 2 7 (zE (zkSeq (zF ?_)))
            exact f129_j4_ok hd a1 a2 hQ  hS (by kernel_rfl)
        · replace hS := cond_f hc hS
          refine zL 5 7 (zE (zkSeq (zF ?_)))
          exact f129_j4_ok hd a1 a2 hQ  hS (by kernel_rfl)
def f129_j6_J (a1 : Int) (a2 : GPen) : St := ⟨(up (up u0 1 (dI a1)) 0 (pt 0)), (up h0 0 ⟨0, some (.box ((dI a2.Flags) :: ((dI a2.Fore) :: ((dI a2.Back) :: []))))⟩)⟩
noncomputable def f129_j6 (a1 : Int) (a2 : GPen) : Option (GPen) := (f129_j0 a1 a2 )
theorem f129_j6_ok {d : Nat} (hd : 2 ≤ d) (a1 : Int) (a2 : GPen) {r : GPen} {Q : PX → St → Prop} (hQ : ∀ e st', f129_Q r e st' → Q e st')  (hS : f129_j6 a1 a2 = some r) {st : St} (he : keepSt [0, 1] [(0, .id 0)] [] st = f129_j6_J a1 a2) : ZR (lev codes baseL (d - 1)) Q c129_4 [.seq c129_3] st := by
  refine zrKeep he ?_
  unfold f129_j6 at hS
  refine zrReg (zL 5 5 (zE (zkSeq ?_)))
  exact f129_j0_ok hd a1 a2 hQ  hS (by kernel_rfl)
def f129_j7_J (a1 : Int) (a2 : GPen) : St := ⟨(up (up (up (up u0 5 (dI 30)) 4 (.r (.ptr 0 0 1))) 1 (dI a1)) 0 (pt 0)), (up h0 0 ⟨0, some (.box ((dI a2.Flags) :: ((dI a2.Fore) :: ((dI a2.Back) :: []))))⟩)⟩
noncomputable def f129_j7 (a1 : Int) (a2 : GPen) : Option (GPen) := (f129_j3 a1 a2 )
theorem f129_j7_ok {d : Nat} (hd : 2 ≤ d) (a1 : Int) (a2 : GPen) {r : GPen} {Q : PX → St → Prop} (hQ : ∀ e st', f129_Q r e st' → Q e st')  (hS : f129_j7 a1 a2 = some r) {st : St} (he : keepSt [0, 1, 4, 5] [(0, .id 0)] [] st = f129_j7_J a1 a2) : ZR (lev codes baseL (d - 1)) Q c129_5 [.seq c129_3] st := by
  refine zrKeep he ?_
  unfold f129_j7 at hS
  refine zrSkip ?_
  refine zkSeq ?_
  exact f129_j3_ok hd a1 a2 hQ  hS (by kernel_rfl)
noncomputable def f129 (a1 : Int) (a2 : GPen) : Option (GPen) := (bif (decide (40 ≤ a1)) then (bif (decide (a1 ≤ 49)) then (f129_j6 a1 a2 ) else (bif (decide (100 ≤ a1)) then (bif (decide (a1 ≤ 107)) then (f129_j6 a1 a2 ) else (f129_j7 a1 a2 )) else (f129_j7 a1 a2 ))) else (bif (decide (100 ≤ a1)) then (bif (decide (a1 ≤ 107)) then (f129_j6 a1 a2 ) else (f129_j7 a1 a2 )) else (f129_j7 a1 a2 )))
theorem f129_ok (d : Nat) (hd : 2 ≤ d) (a1 : Int) (a2 : GPen) (r : GPen) (hS : f129 a1 a2 = some r) : lev codes baseL d 129 [(pt 0), (dI a1)] [(.box ((dI a2.Flags) :: ((dI a2.Fore) :: ((dI a2.Back) :: []))))] = some ((.tup []), [(.box ((dI r.Flags) :: ((dI r.Fore) :: ((dI r.Back) :: []))))]) := by
  refine lev_go codes129 rfl rfl (Nat.le_trans (Nat.le_of_ble_eq_true rfl) hd) fun Q hQ => ?_
  unfold f129 at hS
  show ZR _ Q c129_b [] _
  replace hQ : ∀ e st', f129_Q r e st' → Q e st' := hQ
  refine zrSeq (zrReg (zL 5 5 (zE (zkSeq (zrSeq (zrSeq (zrReg (zL 1 1 ?_))))))))
  refine zB 10 2 (.cmpI .geq (tm 9) (ki 40)) (decide (40 ≤ a1)) (fun hc => ?_) (fun hc => ?_)
  · replace hS := cond_t hc hS
    refine zL 2 4 ?_
    refine zlBool (d := 13) (op := (.cmpI .leq (tm 12) (ki 49))) (g := (some (11, true))) (j := 5) (decide (a1 ≤ 49)) rfl (by kernel_rfl) (by kernel_rfl) (by kernel_rfl) (fun hc => ?_) (fun hc => ?_)
    · replace hS := cond_t hc hS
      refine zL 9 14 (zE (zkSeq (zT ?_)))
      exact f129_j6_ok hd a1 a2 hQ  hS (by kernel_rfl)
    · replace hS := cond_f hc hS
      refine zL 3 8 ?_
      refine zlBool (d := 17) (op := (.cmpI .geq (tm 16) (ki 100))) (g := (some (15, false))) (j := 9) (decide (100 ≤ a1)) rfl (by kernel_rfl) (by kernel_rfl) (by kernel_rfl) (fun hc => ?_) (fun hc => ?_)
      · replace hS := cond_t hc hS
        refine zL 2 11 ?_
        refine zlBool (d := 20) (op := (.cmpI .leq (tm 19) (ki 107))) (g := (some (18, true))) (j := 12) (decide (a1 ≤ 107)) rfl (by kernel_rfl) (by kernel_rfl) (by kernel_rfl) (fun hc => ?_) (fun hc => ?_)
        · replace hS := cond_t hc hS
          refine zL 2 14 (zE (zkSeq (zT ?_)))
          exact f129_j6_ok hd a1 a2 hQ  hS (by kernel_rfl)
        · replace hS := cond_f hc hS
          refine zL 2 14 (zE (zkSeq (zF ?_)))
          exact f129_j7_ok hd a1 a2 hQ  hS (by kernel_rfl)
      · replace hS := cond_f hc hS
        refine zL 5 14 (zE (zkSeq (zF ?_)))
        exact f129_j7_ok hd a1 a2 hQ  hS (by kernel_rfl)
  · replace hS := cond_f hc hS
    refine zL 6 8 ?_
    refine zlBool (d := 17) (op := (.cmpI .geq (tm 16) (ki 100))) (g := (some (15, false))) (j := 9) (decide (100 ≤ a1)) rfl (by kernel_rfl) (by kernel_rfl) (by kernel_rfl) (fun hc => ?_) (fun hc => ?_)
    · replace hS := cond_t hc hS
      refine zL 2 11 ?_
      refine zlBool (d := 20) (op := (.cmpI .leq (tm 19) (ki 107))) (g := (some (18, true))) (j := 12) (decide (a1 ≤ 107)) rfl (by kernel_rfl) (by kernel_rfl) (by kernel_rfl) (fun hc => ?_) (fun hc => ?_)
      · replace hS := cond_t hc hS
        refine zL 2 14 (zE (zkSeq (zT ?_)))
        exact f129_j6_ok hd a1 a2 hQ  hS (by kernel_rfl)
      · replace hS := cond_f hc hS
        refine zL 2 14 (zE (zkSeq (zF ?_)))
        exact f129_j7_ok hd a1 a2 hQ  hS (by kernel_rfl)
    · replace hS := cond_f hc hS
      refine zL 5 14 (zE (zkSeq (zF ?_)))
      exact f129_j7_ok hd a1 a2 hQ  hS (by kernel_rfl)
end Go.Proofs.YtjoccdgmcdkbkaaGreatDoor.Pm
