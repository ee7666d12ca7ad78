/- The small machine's codes of some functions. Printed by dec.py. -/
import Derived.Test.YtjoccdgmcdkbkaaDoorKrn
import Derived.Test.YtjoccdgmcdkbkaaDoorLib1
import Derived.Test.YtjoccdgmcdkbkaaDoorProg
namespace Go.Proofs.YtjoccdgmcdkbkaaDoor.Pm
set_option maxRecDepth 1000000
set_option maxHeartbeats 20000000
set_option linter.unusedVariables false
structure GPen where
  Flags : Int
  Fore : Int
  Back : Int
structure GCell where
  Rune : Int
  Pen : GPen
structure GGrid where
  Wide : Int
  High : Int
  Cells : List GCell
structure GStops where
  Bits : Nat → Int
structure GSaved where
  Row : Int
  Col : Int
  Pen : GPen
  Origin : Bool
  Pages : Int × Int
  Shift : Int
structure GLine where
  Cells : List GCell
structure GScreen where
  Grid : GGrid
  Row : Int
  Col : Int
  Late : Bool
  Top : Int
  Bottom : Int
  Pen : GPen
  Modes : Int
  Stops : GStops
  Pages : Int × Int
  Shift : Int
  Saved : GSaved
  Other : GGrid
  Title : List UInt8
  Past : List GLine
structure GAct where
  Kind : Int
  Code : Int
  Mark : Int
  Inter : List UInt8
  Args : List Int
  Text : List UInt8
structure Gterminal where
  Screen : GScreen
  sent : List UInt8
def e_GPen : Enc GPen := ⟨3, fun x => [.int .i64 x.Flags, .int .i64 x.Fore, .int .i64 x.Back], fun _ => rfl⟩
def e_GCell : Enc GCell := ⟨4, fun x => [.int .i64 x.Rune, .int .i64 x.Pen.Flags, .int .i64 x.Pen.Fore, .int .i64 x.Pen.Back], fun _ => rfl⟩
def e_GLine : Enc GLine := ⟨1, fun x => [.sl x.Cells.length (e_GCell.cells x.Cells)], fun _ => rfl⟩
def e_GAct : Enc GAct := ⟨6, fun x => [.int .i64 x.Kind, .int .i64 x.Code, .int .i64 x.Mark, .str x.Inter, .sl x.Args.length ((eInt .i64).cells x.Args), .str x.Text], fun _ => rfl⟩
def e_A31 : Enc (Int × Int) := ⟨2, fun x => [.int .i64 x.1, .int .i64 x.2], fun _ => rfl⟩
def e_UGterminal : Enc Gterminal := ⟨34, fun x => (.int .i64 x.Screen.Grid.Wide :: (.int .i64 x.Screen.Grid.High :: (.un :: (.int .i64 x.Screen.Row :: (.int .i64 x.Screen.Col :: (.bool x.Screen.Late :: (.int .i64 x.Screen.Top :: (.int .i64 x.Screen.Bottom :: (.int .i64 x.Screen.Pen.Flags :: (.int .i64 x.Screen.Pen.Fore :: (.int .i64 x.Screen.Pen.Back :: (.int .i64 x.Screen.Modes :: ((eInt .u64).rowD 4 x.Screen.Stops.Bits ++ (.int .i64 x.Screen.Pages.1 :: (.int .i64 x.Screen.Pages.2 :: (.int .i64 x.Screen.Shift :: (.int .i64 x.Screen.Saved.Row :: (.int .i64 x.Screen.Saved.Col :: (.int .i64 x.Screen.Saved.Pen.Flags :: (.int .i64 x.Screen.Saved.Pen.Fore :: (.int .i64 x.Screen.Saved.Pen.Back :: (.bool x.Screen.Saved.Origin :: (.int .i64 x.Screen.Saved.Pages.1 :: (.int .i64 x.Screen.Saved.Pages.2 :: (.int .i64 x.Screen.Saved.Shift :: (.int .i64 x.Screen.Other.Wide :: (.int .i64 x.Screen.Other.High :: (.un :: (.str x.Screen.Title :: (.un :: (.str x.sent :: []))))))))))))))))))))))))))))))), fun x => by simp only [List.length_append, List.length_cons, List.length_nil, Enc.rowD_len]; rfl⟩
def bx_GScreen (x : GScreen) (c3 c2 c1 : PV) : List PV := ((.d (.int .i64 x.Grid.Wide)) :: ((.d (.int .i64 x.Grid.High)) :: (c3 :: ((.d (.int .i64 x.Row)) :: ((.d (.int .i64 x.Col)) :: ((.d (.bool x.Late)) :: ((.d (.int .i64 x.Top)) :: ((.d (.int .i64 x.Bottom)) :: ((.d (.int .i64 x.Pen.Flags)) :: ((.d (.int .i64 x.Pen.Fore)) :: ((.d (.int .i64 x.Pen.Back)) :: ((.d (.int .i64 x.Modes)) :: (((eInt .u64).row 4 x.Stops.Bits) ++ ((.d (.int .i64 x.Pages.1)) :: ((.d (.int .i64 x.Pages.2)) :: ((.d (.int .i64 x.Shift)) :: ((.d (.int .i64 x.Saved.Row)) :: ((.d (.int .i64 x.Saved.Col)) :: ((.d (.int .i64 x.Saved.Pen.Flags)) :: ((.d (.int .i64 x.Saved.Pen.Fore)) :: ((.d (.int .i64 x.Saved.Pen.Back)) :: ((.d (.bool x.Saved.Origin)) :: ((.d (.int .i64 x.Saved.Pages.1)) :: ((.d (.int .i64 x.Saved.Pages.2)) :: ((.d (.int .i64 x.Saved.Shift)) :: ((.d (.int .i64 x.Other.Wide)) :: ((.d (.int .i64 x.Other.High)) :: (c2 :: ((.d (.str x.Title)) :: (c1 :: []))))))))))))))))))))))))))))))
def bx_Gterminal (x : Gterminal) (c3 c2 c1 : PV) : List PV := ((.d (.int .i64 x.Screen.Grid.Wide)) :: ((.d (.int .i64 x.Screen.Grid.High)) :: (c3 :: ((.d (.int .i64 x.Screen.Row)) :: ((.d (.int .i64 x.Screen.Col)) :: ((.d (.bool x.Screen.Late)) :: ((.d (.int .i64 x.Screen.Top)) :: ((.d (.int .i64 x.Screen.Bottom)) :: ((.d (.int .i64 x.Screen.Pen.Flags)) :: ((.d (.int .i64 x.Screen.Pen.Fore)) :: ((.d (.int .i64 x.Screen.Pen.Back)) :: ((.d (.int .i64 x.Screen.Modes)) :: (((eInt .u64).row 4 x.Screen.Stops.Bits) ++ ((.d (.int .i64 x.Screen.Pages.1)) :: ((.d (.int .i64 x.Screen.Pages.2)) :: ((.d (.int .i64 x.Screen.Shift)) :: ((.d (.int .i64 x.Screen.Saved.Row)) :: ((.d (.int .i64 x.Screen.Saved.Col)) :: ((.d (.int .i64 x.Screen.Saved.Pen.Flags)) :: ((.d (.int .i64 x.Screen.Saved.Pen.Fore)) :: ((.d (.int .i64 x.Screen.Saved.Pen.Back)) :: ((.d (.bool x.Screen.Saved.Origin)) :: ((.d (.int .i64 x.Screen.Saved.Pages.1)) :: ((.d (.int .i64 x.Screen.Saved.Pages.2)) :: ((.d (.int .i64 x.Screen.Saved.Shift)) :: ((.d (.int .i64 x.Screen.Other.Wide)) :: ((.d (.int .i64 x.Screen.Other.High)) :: (c2 :: ((.d (.str x.Screen.Title)) :: (c1 :: ((.d (.str x.sent)) :: [])))))))))))))))))))))))))))))))
def bx_GAct (x : GAct) (c1 : PV) : List PV := ((.d (.int .i64 x.Kind)) :: ((.d (.int .i64 x.Code)) :: ((.d (.int .i64 x.Mark)) :: ((.d (.str x.Inter)) :: (c1 :: ((.d (.str x.Text)) :: []))))))
def p17_1 : List PO := [⟨(.some 4), (.mov (.const (.int .i64 0))), .none⟩]
def p17_2 : List PO := [⟨(.some 5), (.mov (.tmp 0)), .none⟩, ⟨(.some 6), (.cmpI .lss (.tmp 5) (.const (.int .i64 1))), .none⟩, ⟨(.some 7), (.mov (.tmp 6)), .none⟩, ⟨(.some 8), (.mov (.tmp 0)), (.some (7, .false))⟩, ⟨(.some 9), (.cmpI .gtr (.tmp 8) (.const (.int .i64 160))), (.some (7, .false))⟩, ⟨(.some 10), (.pick (.tmp 7) (.const (.bool .true)) (.tmp 9)), .none⟩, ⟨(.some 11), (.mov (.tmp 10)), .none⟩, ⟨(.some 12), (.mov (.tmp 1)), (.some (11, .false))⟩, ⟨(.some 13), (.cmpI .lss (.tmp 12) (.const (.int .i64 1))), (.some (11, .false))⟩, ⟨(.some 14), (.pick (.tmp 11) (.const (.bool .true)) (.tmp 13)), .none⟩, ⟨(.some 15), (.mov (.tmp 14)), .none⟩, ⟨(.some 16), (.mov (.tmp 1)), (.some (15, .false))⟩, ⟨(.some 17), (.cmpI .gtr (.tmp 16) (.const (.int .i64 60))), (.some (15, .false))⟩, ⟨(.some 18), (.pick (.tmp 15) (.const (.bool .true)) (.tmp 17)), .none⟩]
def p17_3 : List PO := [⟨(.some 4), (.mov (.const (.int .i64 1))), .none⟩]
def p17_4 : List PO := [⟨(.some 4), (.mov (.const (.int .i64 0))), .none⟩]
def c17_b : PCode := (.seq (.reg p17_1) (.seq (.seq (.reg p17_2) (.cond (.tmp 18) (.seq (.reg p17_3) .ret) .skip)) (.seq (.reg p17_4) .ret)))
def c17 : FCode := ⟨19, c17_b, [(.tmp 4)], some ([4], [], []), false⟩
theorem c17_ok : compF Go.Proofs.Tryd.prog [100006, 100012, 100014, 16, 27, 28, 29, 30, 32, 36, 41, 42, 44, 46, 48, 50, 51, 52, 53, 57, 58, 59, 60, 67, 69, 70, 72, 73, 75, 76, 78, 81, 82, 83, 85] 17 = some (eraseF c17) := by kernel_rfl
def p33_1 : List PO := [⟨(.some 2), (.mov (.const (.bool .false))), .none⟩]
def p33_2 : List PO := [⟨(.some 3), (.mov (.tmp 0)), .none⟩, ⟨(.some 4), (.cmpI .geq (.tmp 3) (.const (.int .i64 0))), .none⟩, ⟨(.some 5), (.mov (.tmp 4)), .none⟩, ⟨(.some 6), (.mov (.tmp 0)), (.some (5, .true))⟩, ⟨(.some 7), (.cmpI .leq (.tmp 6) (.const (.int .i64 256))), (.some (5, .true))⟩, ⟨(.some 8), (.pick (.tmp 5) (.tmp 7) (.const (.bool .false))), .none⟩, ⟨(.some 9), (.mov (.tmp 8)), .none⟩, ⟨(.some 10), (.mov (.tmp 0)), (.some (9, .false))⟩, ⟨(.some 11), (.cmpI .geq (.tmp 10) (.const (.int .i64 16777216))), (.some (9, .false))⟩, ⟨(.some 12), (.mov (.tmp 11)), (.some (9, .false))⟩, ⟨(.some 13), (.mov (.tmp 0)), (.some (12, .true))⟩, ⟨(.some 14), (.cmpI .lss (.tmp 13) (.const (.int .i64 33554432))), (.some (12, .true))⟩, ⟨(.some 15), (.pick (.tmp 12) (.tmp 14) (.const (.bool .false))), (.some (9, .false))⟩, ⟨(.some 16), (.pick (.tmp 9) (.const (.bool .true)) (.tmp 15)), .none⟩, ⟨(.some 2), (.mov (.tmp 16)), .none⟩]
def c33_b : PCode := (.seq (.reg p33_1) (.seq (.reg p33_2) .ret))
def c33 : FCode := ⟨17, c33_b, [(.tmp 2)], some ([2], [], []), false⟩
theorem c33_ok : compF Go.Proofs.Tryd.prog [100006, 100012, 100014, 16, 27, 28, 29, 30, 32, 36, 41, 42, 44, 46, 48, 50, 51, 52, 53, 57, 58, 59, 60, 67, 69, 70, 72, 73, 75, 76, 78, 81, 82, 83, 85] 33 = some (eraseF c33) := by kernel_rfl
def p18_1 : List PO := [⟨(.some 1), (.box 3 (.tmp 0)), .none⟩, ⟨(.some 2), (.mov (.const (.int .i64 0))), .none⟩]
def p18_2 : List PO := [⟨(.some 3), (.fld 0 (.tmp 1)), .none⟩, ⟨(.some 4), (.load .false 1 (.tmp 3)), .none⟩, ⟨(.some 5), (.cmpI .lss (.tmp 4) (.const (.int .i64 0))), .none⟩, ⟨(.some 6), (.mov (.tmp 5)), .none⟩, ⟨(.some 7), (.fld 0 (.tmp 1)), (.some (6, .false))⟩, ⟨(.some 8), (.load .false 1 (.tmp 7)), (.some (6, .false))⟩, ⟨(.some 9), (.cmpI .gtr (.tmp 8) (.const (.int .i64 255))), (.some (6, .false))⟩, ⟨(.some 10), (.pick (.tmp 6) (.const (.bool .true)) (.tmp 9)), .none⟩, ⟨(.some 11), (.mov (.tmp 10)), .none⟩, ⟨(.some 12), (.fld 1 (.tmp 1)), (.some (11, .false))⟩, ⟨(.some 13), (.load .false 1 (.tmp 12)), (.some (11, .false))⟩, ⟨(.some 14), (.call 33 [(.tmp 13)]), (.some (11, .false))⟩, ⟨(.some 15), (.un .not (.tmp 14)), (.some (11, .false))⟩, ⟨(.some 16), (.pick (.tmp 11) (.const (.bool .true)) (.tmp 15)), .none⟩, ⟨(.some 17), (.mov (.tmp 16)), .none⟩, ⟨(.some 18), (.fld 2 (.tmp 1)), (.some (17, .false))⟩, ⟨(.some 19), (.load .false 1 (.tmp 18)), (.some (17, .false))⟩, ⟨(.some 20), (.call 33 [(.tmp 19)]), (.some (17, .false))⟩, ⟨(.some 21), (.un .not (.tmp 20)), (.some (17, .false))⟩, ⟨(.some 22), (.pick (.tmp 17) (.const (.bool .true)) (.tmp 21)), .none⟩]
def p18_3 : List PO := [⟨(.some 2), (.mov (.const (.int .i64 4))), .none⟩]
def p18_4 : List PO := [⟨(.some 2), (.mov (.const (.int .i64 0))), .none⟩]
def c18_b : PCode := (.seq (.reg p18_1) (.seq (.seq (.reg p18_2) (.cond (.tmp 22) (.seq (.reg p18_3) .ret) .skip)) (.seq (.reg p18_4) .ret)))
def c18 : FCode := ⟨23, c18_b, [(.tmp 2)], some ([2], [], []), false⟩
theorem c18_ok : compF Go.Proofs.Tryd.prog [100006, 100012, 100014, 16, 27, 28, 29, 30, 32, 36, 41, 42, 44, 46, 48, 50, 51, 52, 53, 57, 58, 59, 60, 67, 69, 70, 72, 73, 75, 76, 78, 81, 82, 83, 85] 18 = some (eraseF c18) := by kernel_rfl
def p35_1 : List PO := [⟨(.some 1), (.box 3 (.tmp 0)), .none⟩, ⟨(.some 2), (.alloc [(4, (.int .i64 0))]), .none⟩]
def p35_2 : List PO := [⟨(.some 3), (.load .true 3 (.tmp 1)), .none⟩, ⟨(.some 4), (.build [(4, (.int .i64 0))] [(0, (1, (.const (.int .i64 32)))), (1, (3, (.tmp 3)))]), .none⟩, ⟨.none, (.store 4 (.tmp 2) (.tmp 4)), .none⟩]
def c35_b : PCode := (.seq (.reg p35_1) (.seq (.reg p35_2) .ret))
def c35 : FCode := ⟨5, c35_b, [(.cell 2 .true 4)], some ([2], [(24, .id 24)], []), false⟩
theorem c35_ok : compF Go.Proofs.Tryd.prog [100006, 100012, 100014, 16, 27, 28, 29, 30, 32, 36, 41, 42, 44, 46, 48, 50, 51, 52, 53, 57, 58, 59, 60, 67, 69, 70, 72, 73, 75, 76, 78, 81, 82, 83, 85] 35 = some (eraseF c35) := by kernel_rfl
def p80_1 : List PO := [⟨(.some 4), (.mov (.const (.int .u64 0))), .none⟩, ⟨(.some 5), (.mov (.const (.int .u64 0))), .none⟩]
def p80_2 : List PO := [⟨(.some 14), (.mov (.tmp 0)), .none⟩, ⟨(.some 15), (.arI .and (.tmp 14) (.const (.int .u64 4294967295))), .none⟩, ⟨(.some 6), (.mov (.tmp 15)), .none⟩]
def p80_3 : List PO := [⟨(.some 16), (.mov (.tmp 0)), .none⟩, ⟨(.some 17), (.sh .shr (.tmp 16) (.const (.int .u64 32))), .none⟩, ⟨(.some 7), (.mov (.tmp 17)), .none⟩]
def p80_4 : List PO := [⟨(.some 18), (.mov (.tmp 1)), .none⟩, ⟨(.some 19), (.arI .and (.tmp 18) (.const (.int .u64 4294967295))), .none⟩, ⟨(.some 8), (.mov (.tmp 19)), .none⟩]
def p80_5 : List PO := [⟨(.some 20), (.mov (.tmp 1)), .none⟩, ⟨(.some 21), (.sh .shr (.tmp 20) (.const (.int .u64 32))), .none⟩, ⟨(.some 9), (.mov (.tmp 21)), .none⟩]
def p80_6 : List PO := [⟨(.some 22), (.mov (.tmp 6)), .none⟩, ⟨(.some 23), (.mov (.tmp 8)), .none⟩, ⟨(.some 24), (.arI .mul (.tmp 22) (.tmp 23)), .none⟩, ⟨(.some 10), (.mov (.tmp 24)), .none⟩]
def p80_7 : List PO := [⟨(.some 25), (.mov (.tmp 7)), .none⟩, ⟨(.some 26), (.mov (.tmp 8)), .none⟩, ⟨(.some 27), (.arI .mul (.tmp 25) (.tmp 26)), .none⟩, ⟨(.some 28), (.mov (.tmp 10)), .none⟩, ⟨(.some 29), (.sh .shr (.tmp 28) (.const (.int .u64 32))), .none⟩, ⟨(.some 30), (.arI .add (.tmp 27) (.tmp 29)), .none⟩, ⟨(.some 11), (.mov (.tmp 30)), .none⟩]
def p80_8 : List PO := [⟨(.some 31), (.mov (.tmp 11)), .none⟩, ⟨(.some 32), (.arI .and (.tmp 31) (.const (.int .u64 4294967295))), .none⟩, ⟨(.some 12), (.mov (.tmp 32)), .none⟩]
def p80_9 : List PO := [⟨(.some 33), (.mov (.tmp 11)), .none⟩, ⟨(.some 34), (.sh .shr (.tmp 33) (.const (.int .u64 32))), .none⟩, ⟨(.some 13), (.mov (.tmp 34)), .none⟩]
def p80_10 : List PO := [⟨(.some 35), (.mov (.tmp 12)), .none⟩, ⟨(.some 36), (.mov (.tmp 6)), .none⟩, ⟨(.some 37), (.mov (.tmp 9)), .none⟩, ⟨(.some 38), (.arI .mul (.tmp 36) (.tmp 37)), .none⟩, ⟨(.some 39), (.arI .add (.tmp 35) (.tmp 38)), .none⟩, ⟨(.some 12), (.mov (.tmp 39)), .none⟩]
def p80_11 : List PO := [⟨(.some 40), (.mov (.tmp 7)), .none⟩, ⟨(.some 41), (.mov (.tmp 9)), .none⟩, ⟨(.some 42), (.arI .mul (.tmp 40) (.tmp 41)), .none⟩, ⟨(.some 43), (.mov (.tmp 13)), .none⟩, ⟨(.some 44), (.arI .add (.tmp 42) (.tmp 43)), .none⟩, ⟨(.some 45), (.mov (.tmp 12)), .none⟩, ⟨(.some 46), (.sh .shr (.tmp 45) (.const (.int .u64 32))), .none⟩, ⟨(.some 47), (.arI .add (.tmp 44) (.tmp 46)), .none⟩, ⟨(.some 4), (.mov (.tmp 47)), .none⟩]
def p80_12 : List PO := [⟨(.some 48), (.mov (.tmp 0)), .none⟩, ⟨(.some 49), (.mov (.tmp 1)), .none⟩, ⟨(.some 50), (.arI .mul (.tmp 48) (.tmp 49)), .none⟩, ⟨(.some 5), (.mov (.tmp 50)), .none⟩]
def c80_13 : PCode := (.seq (.reg p80_3) (.seq (.reg p80_4) (.seq (.reg p80_5) (.seq (.reg p80_6) (.seq (.reg p80_7) (.seq (.reg p80_8) (.seq (.reg p80_9) (.seq (.reg p80_10) (.seq (.reg p80_11) (.seq (.reg p80_12) .ret))))))))))
def c80_b : PCode := (.seq (.reg p80_1) (.seq (.reg p80_2) c80_13))
def c80 : FCode := ⟨51, c80_b, [(.tmp 4), (.tmp 5)], some ([4, 5], [], []), false⟩
theorem c80_ok : compF Go.Proofs.Tryd.prog [100006, 100012, 100014, 16, 27, 28, 29, 30, 32, 36, 41, 42, 44, 46, 48, 50, 51, 52, 53, 57, 58, 59, 60, 67, 69, 70, 72, 73, 75, 76, 78, 81, 82, 83, 85] 80 = some (eraseF c80) := by kernel_rfl
def p61_2 : List PO := [⟨(.some 4), (.mov (.const (.int .u64 0))), .none⟩, ⟨(.some 5), (.mov (.const (.int .u64 0))), .none⟩]
def p61_3 : List PO := [⟨(.some 11), (.mov (.tmp 0)), .none⟩, ⟨(.some 12), (.cvI .u32 (.tmp 11)), .none⟩, ⟨(.some 13), (.mov (.tmp 1)), .none⟩, ⟨(.some 14), (.cvI .u32 (.tmp 13)), .none⟩, ⟨(.some 15), (.call 79 [(.tmp 12), (.tmp 14)]), .none⟩, ⟨(.some 10), (.mov (.tmp 15)), .none⟩, ⟨(.some 16), (.ext (.tmp 10) 0), .none⟩, ⟨(.some 17), (.ext (.tmp 10) 1), .none⟩, ⟨(.some 6), (.mov (.tmp 16)), .none⟩, ⟨(.some 7), (.mov (.tmp 17)), .none⟩]
def p61_4 : List PO := [⟨(.some 18), (.mov (.tmp 6)), .none⟩, ⟨(.some 19), (.cvI .u64 (.tmp 18)), .none⟩, ⟨(.some 20), (.mov (.tmp 7)), .none⟩, ⟨(.some 21), (.cvI .u64 (.tmp 20)), .none⟩, ⟨(.some 4), (.mov (.tmp 19)), .none⟩, ⟨(.some 5), (.mov (.tmp 21)), .none⟩]
def p61_5 : List PO := [⟨(.some 23), (.mov (.tmp 0)), .none⟩, ⟨(.some 24), (.mov (.tmp 1)), .none⟩, ⟨(.some 25), (.call 80 [(.tmp 23), (.tmp 24)]), .none⟩, ⟨(.some 22), (.mov (.tmp 25)), .none⟩, ⟨(.some 26), (.ext (.tmp 22) 0), .none⟩, ⟨(.some 27), (.ext (.tmp 22) 1), .none⟩, ⟨(.some 8), (.mov (.tmp 26)), .none⟩, ⟨(.some 9), (.mov (.tmp 27)), .none⟩]
def p61_6 : List PO := [⟨(.some 28), (.mov (.tmp 8)), .none⟩, ⟨(.some 29), (.mov (.tmp 9)), .none⟩, ⟨(.some 4), (.mov (.tmp 28)), .none⟩, ⟨(.some 5), (.mov (.tmp 29)), .none⟩]
def c61_1 : PCode := (.keep [0, 1] [] [] (.seq (.reg p61_5) (.seq (.reg p61_6) .ret)))
def c61_b : PCode := (.seq (.reg p61_2) (.seq (.cond (.const (.bool .false)) (.seq (.reg p61_3) (.seq (.reg p61_4) .ret)) .skip) c61_1))
def c61 : FCode := ⟨30, c61_b, [(.tmp 4), (.tmp 5)], some ([4, 5], [], []), false⟩
theorem c61_ok : compF Go.Proofs.Tryd.prog [100006, 100012, 100014, 16, 27, 28, 29, 30, 32, 36, 41, 42, 44, 46, 48, 50, 51, 52, 53, 57, 58, 59, 60, 67, 69, 70, 72, 73, 75, 76, 78, 81, 82, 83, 85] 61 = some (eraseF c61) := by kernel_rfl
def p34_5 : List PO := [⟨(.some 4), (.nilS 46 4), .none⟩]
def p34_6 : List PO := [⟨(.some 9), (.mov (.tmp 1)), .none⟩, ⟨(.some 10), (.cmpI .lss (.tmp 9) (.const (.int .i64 0))), .none⟩]
def p34_7 : List PO := [⟨(.some 11), (.mx []), .none⟩, ⟨.none, (.mx []), .none⟩]
def p34_8 : List PO := [⟨(.some 13), (.mov (.tmp 0)), .none⟩, ⟨(.some 14), (.len .false (.tmp 13)), .none⟩, ⟨(.some 15), (.cvI .u64 (.tmp 14)), .none⟩, ⟨(.some 16), (.mov (.tmp 1)), .none⟩, ⟨(.some 17), (.cvI .u64 (.tmp 16)), .none⟩, ⟨(.some 18), (.call 61 [(.tmp 15), (.tmp 17)]), .none⟩, ⟨(.some 12), (.mov (.tmp 18)), .none⟩, ⟨(.some 19), (.ext (.tmp 12) 0), .none⟩, ⟨(.some 20), (.ext (.tmp 12) 1), .none⟩, ⟨(.some 5), (.mov (.tmp 19)), .none⟩, ⟨(.some 6), (.mov (.tmp 20)), .none⟩]
def p34_9 : List PO := [⟨(.some 21), (.mov (.tmp 5)), .none⟩, ⟨(.some 22), (.cmpI .gtr (.tmp 21) (.const (.int .u64 0))), .none⟩, ⟨(.some 23), (.mov (.tmp 22)), .none⟩, ⟨(.some 24), (.mov (.tmp 6)), (.some (23, .false))⟩, ⟨(.some 25), (.cmpI .gtr (.tmp 24) (.const (.int .u64 9223372036854775807))), (.some (23, .false))⟩, ⟨(.some 26), (.pick (.tmp 23) (.const (.bool .true)) (.tmp 25)), .none⟩]
def p34_10 : List PO := [⟨(.some 27), (.mx []), .none⟩, ⟨.none, (.mx []), .none⟩]
def p34_11 : List PO := [⟨(.some 28), (.mov (.tmp 6)), .none⟩, ⟨(.some 29), (.cvI .i64 (.tmp 28)), .none⟩, ⟨(.some 30), (.mks 46 4 32 [(4, (.int .i64 0))] (.tmp 29) (.tmp 29)), .none⟩, ⟨(.some 7), (.mov (.tmp 30)), .none⟩]
def p34_12 : List PO := [⟨(.some 31), (.mov (.tmp 7)), .none⟩, ⟨(.some 32), (.mov (.tmp 0)), .none⟩, ⟨(.some 33), (.cpy 4 (.tmp 31) (.tmp 32)), .none⟩, ⟨(.some 8), (.mov (.tmp 33)), .none⟩]
def p34_13 : List PO := [⟨(.some 34), (.mov (.tmp 8)), .none⟩, ⟨(.some 35), (.mov (.tmp 7)), .none⟩, ⟨(.some 36), (.len .false (.tmp 35)), .none⟩, ⟨(.some 37), (.cmpI .lss (.tmp 34) (.tmp 36)), .none⟩]
def p34_14 : List PO := [⟨(.some 38), (.mov (.tmp 8)), .none⟩, ⟨(.some 39), (.mov (.tmp 7)), .none⟩, ⟨(.some 40), (.mov (.tmp 8)), .none⟩, ⟨(.some 41), (.slS 46 4 (.tmp 39) (.some (.tmp 40)) .none), .none⟩, ⟨(.some 42), (.mov (.tmp 7)), .none⟩, ⟨(.some 43), (.mov (.tmp 8)), .none⟩, ⟨(.some 44), (.slS 46 4 (.tmp 42) .none (.some (.tmp 43))), .none⟩, ⟨(.some 45), (.cpy 4 (.tmp 41) (.tmp 44)), .none⟩, ⟨(.some 46), (.arI .add (.tmp 38) (.tmp 45)), .none⟩, ⟨(.some 8), (.mov (.tmp 46)), .none⟩]
def c34_1 : PCode := (.keep [7, 8] [(248, .id 248)] [] (.block 1 (.regD p34_14 [])))
def c34_2 : PCode := (.keep [7, 8] [(248, .id 248)] [] (.seq (.seq (.reg p34_13) (.cond (.tmp 37) .skip (.keep [7] [(248, .id 248)] [] (.exit 0)))) c34_1))
def p34_15 : List PO := [⟨(.some 47), (.mov (.tmp 7)), .none⟩, ⟨(.some 4), (.mov (.tmp 47)), .none⟩]
def c34_3 : PCode := (.keep [0, 6] [] [] (.seq (.reg p34_11) (.seq (.reg p34_12) (.seq (.block 0 (.loop c34_2)) (.seq (.reg p34_15) .ret)))))
def c34_4 : PCode := (.keep [0, 1] [] [] (.seq (.reg p34_8) (.seq (.seq (.reg p34_9) (.cond (.tmp 26) (.reg p34_10) .skip)) c34_3)))
def c34_b : PCode := (.seq (.reg p34_5) (.seq (.seq (.reg p34_6) (.cond (.tmp 10) (.reg p34_7) .skip)) c34_4))
def c34 : FCode := ⟨48, c34_b, [(.tmp 4)], some ([4], [(248, .id 248)], []), false⟩
theorem c34_ok : compF Go.Proofs.Tryd.prog [100006, 100012, 100014, 16, 27, 28, 29, 30, 32, 36, 41, 42, 44, 46, 48, 50, 51, 52, 53, 57, 58, 59, 60, 67, 69, 70, 72, 73, 75, 76, 78, 81, 82, 83, 85] 34 = some (eraseF c34) := by kernel_rfl
def p19_1 : List PO := [⟨(.some 5), (.box 3 (.tmp 2)), .none⟩, ⟨(.some 6), (.alloc [(2, (.int .i64 0)), (1, (.slice .none 0 0))]), .none⟩]
def p19_2 : List PO := [⟨(.some 7), (.mov (.tmp 0)), .none⟩, ⟨(.some 8), (.mov (.tmp 1)), .none⟩, ⟨(.some 9), (.load .true 3 (.tmp 5)), .none⟩, ⟨(.some 10), (.call 35 [(.tmp 9)]), .none⟩, ⟨(.some 11), (.bsl 46 4 1 [(4, (.int .i64 0))] [(0, (4, (.tmp 10)))]), .none⟩, ⟨(.some 12), (.mov (.tmp 0)), .none⟩, ⟨(.some 13), (.mov (.tmp 1)), .none⟩, ⟨(.some 14), (.arI .mul (.tmp 12) (.tmp 13)), .none⟩, ⟨(.some 15), (.call 34 [(.tmp 11), (.tmp 14)]), .none⟩, ⟨(.some 16), (.build [(2, (.int .i64 0)), (1, (.slice .none 0 0))] [(0, (1, (.tmp 7))), (1, (1, (.tmp 8))), (2, (1, (.tmp 15)))]), .none⟩, ⟨.none, (.store 3 (.tmp 6) (.tmp 16)), .none⟩]
def c19_b : PCode := (.seq (.reg p19_1) (.seq (.reg p19_2) .ret))
def c19 : FCode := ⟨17, c19_b, [(.cell 6 .true 3)], some ([6], [(56, .id 56), (128, .id 128)], []), false⟩
theorem c19_ok : compF Go.Proofs.Tryd.prog [100006, 100012, 100014, 16, 27, 28, 29, 30, 32, 36, 41, 42, 44, 46, 48, 50, 51, 52, 53, 57, 58, 59, 60, 67, 69, 70, 72, 73, 75, 76, 78, 81, 82, 83, 85] 19 = some (eraseF c19) := by kernel_rfl
def p9_2 : List PO := [⟨(.some 5), (.box 3 (.tmp 2)), .none⟩, ⟨(.some 6), (.alloc [(2, (.int .i64 0)), (1, (.slice .none 0 0))]), .none⟩, ⟨(.some 7), (.mov (.const (.int .i64 0))), .none⟩]
def p9_3 : List PO := [⟨(.some 10), (.mov (.tmp 0)), .none⟩, ⟨(.some 11), (.mov (.tmp 1)), .none⟩, ⟨(.some 12), (.call 17 [(.tmp 10), (.tmp 11)]), .none⟩, ⟨(.some 8), (.mov (.tmp 12)), .none⟩]
def p9_4 : List PO := [⟨(.some 13), (.mov (.tmp 8)), .none⟩, ⟨(.some 14), (.cmpI .neq (.tmp 13) (.const (.int .i64 0))), .none⟩]
def p9_5 : List PO := [⟨(.some 15), (.build [(2, (.int .i64 0)), (1, (.slice .none 0 0))] []), .none⟩, ⟨(.some 16), (.mov (.tmp 8)), .none⟩, ⟨.none, (.store 3 (.tmp 6) (.tmp 15)), .none⟩, ⟨(.some 7), (.mov (.tmp 16)), .none⟩]
def p9_6 : List PO := [⟨(.some 17), (.load .true 3 (.tmp 5)), .none⟩, ⟨(.some 18), (.call 18 [(.tmp 17)]), .none⟩, ⟨(.some 9), (.mov (.tmp 18)), .none⟩]
def p9_7 : List PO := [⟨(.some 19), (.mov (.tmp 9)), .none⟩, ⟨(.some 20), (.cmpI .neq (.tmp 19) (.const (.int .i64 0))), .none⟩]
def p9_8 : List PO := [⟨(.some 21), (.build [(2, (.int .i64 0)), (1, (.slice .none 0 0))] []), .none⟩, ⟨(.some 22), (.mov (.tmp 9)), .none⟩, ⟨.none, (.store 3 (.tmp 6) (.tmp 21)), .none⟩, ⟨(.some 7), (.mov (.tmp 22)), .none⟩]
def p9_9 : List PO := [⟨(.some 23), (.mov (.tmp 0)), .none⟩, ⟨(.some 24), (.mov (.tmp 1)), .none⟩, ⟨(.some 25), (.load .true 3 (.tmp 5)), .none⟩, ⟨(.some 26), (.call 19 [(.tmp 23), (.tmp 24), (.tmp 25)]), .none⟩, ⟨.none, (.store 3 (.tmp 6) (.tmp 26)), .none⟩, ⟨(.some 7), (.mov (.const (.int .i64 0))), .none⟩]
def c9_1 : PCode := (.keep [0, 1, 5, 6] [(48, .id 48), (56, .id 56)] [.cell 56 2 0 0 1] (.seq (.seq (.reg p9_6) (.seq (.reg p9_7) (.cond (.tmp 20) (.seq (.reg p9_8) .ret) .skip))) (.seq (.reg p9_9) .ret)))
def c9_b : PCode := (.seq (.reg p9_2) (.seq (.seq (.reg p9_3) (.seq (.reg p9_4) (.cond (.tmp 14) (.seq (.reg p9_5) .ret) .skip))) c9_1))
def c9 : FCode := ⟨27, c9_b, [(.cell 6 .true 3), (.tmp 7)], some ([6, 7], [(56, .id 56), (216, (.cell 56 2))], [.cell 56 2 216 46 4]), false⟩
theorem c9_ok : compF Go.Proofs.Tryd.prog [100006, 100012, 100014, 16, 27, 28, 29, 30, 32, 36, 41, 42, 44, 46, 48, 50, 51, 52, 53, 57, 58, 59, 60, 67, 69, 70, 72, 73, 75, 76, 78, 81, 82, 83, 85] 9 = some (eraseF c9) := by kernel_rfl
def p20_1 : List PO := [⟨(.some 2), (.nilS 46 4), .none⟩]
def p20_2 : List PO := [⟨(.some 3), (.mov (.tmp 0)), .none⟩, ⟨(.some 4), (.isN .false (.tmp 3)), .none⟩]
def p20_3 : List PO := [⟨(.some 2), (.nilS 46 4), .none⟩]
def p20_4 : List PO := [⟨(.some 5), (.bsl 46 4 0 [] []), .none⟩, ⟨(.some 6), (.mov (.tmp 0)), .none⟩, ⟨(.some 7), (.app 46 4 32 (.tmp 5) (.tmp 6)), .none⟩, ⟨(.some 2), (.mov (.tmp 7)), .none⟩]
def c20_b : PCode := (.seq (.reg p20_1) (.seq (.seq (.reg p20_2) (.cond (.tmp 4) (.seq (.reg p20_3) .ret) .skip)) (.seq (.reg p20_4) .ret)))
def c20 : FCode := ⟨8, c20_b, [(.tmp 2)], some ([2], [(97, (.slot 2 none))], []), true⟩
theorem c20_ok : compF Go.Proofs.Tryd.prog [100006, 100012, 100014, 16, 27, 28, 29, 30, 32, 36, 41, 42, 44, 46, 48, 50, 51, 52, 53, 57, 58, 59, 60, 67, 69, 70, 72, 73, 75, 76, 78, 81, 82, 83, 85] 20 = some (eraseF c20) := by kernel_rfl
def p10_1 : List PO := [⟨(.some 1), (.box 3 (.tmp 0)), .none⟩, ⟨(.some 2), (.alloc [(2, (.int .i64 0)), (1, (.slice .none 0 0))]), .none⟩]
def p10_2 : List PO := [⟨(.some 3), (.fld 2 (.tmp 1)), .none⟩, ⟨(.some 4), (.load .false 1 (.tmp 3)), .none⟩, ⟨(.some 5), (.call 20 [(.tmp 4)]), .none⟩, ⟨(.some 6), (.fld 2 (.tmp 1)), .none⟩, ⟨.none, (.store 1 (.tmp 6) (.tmp 5)), .none⟩]
def p10_3 : List PO := [⟨(.some 7), (.load .true 3 (.tmp 1)), .none⟩, ⟨.none, (.store 3 (.tmp 2) (.tmp 7)), .none⟩]
def c10_b : PCode := (.seq (.reg p10_1) (.seq (.reg p10_2) (.seq (.reg p10_3) .ret)))
def c10 : FCode := ⟨8, c10_b, [(.cell 2 .true 3)], some ([2], [(24, .id 24), (48, .id 48)], []), false⟩
theorem c10_ok : compF Go.Proofs.Tryd.prog [100006, 100012, 100014, 16, 27, 28, 29, 30, 32, 36, 41, 42, 44, 46, 48, 50, 51, 52, 53, 57, 58, 59, 60, 67, 69, 70, 72, 73, 75, 76, 78, 81, 82, 83, 85] 10 = some (eraseF c10) := by kernel_rfl
def p11_3 : List PO := [⟨(.some 0), (.alloc [(4, (.int .u64 0))]), .none⟩]
def p11_4 : List PO := [⟨(.some 1), (.alloc [(4, (.int .u64 0))]), .none⟩]
def p11_5 : List PO := [⟨(.some 2), (.mov (.const (.int .i64 8))), .none⟩]
def p11_6 : List PO := [⟨(.some 3), (.mov (.tmp 2)), .none⟩, ⟨(.some 4), (.cmpI .leq (.tmp 3) (.const (.int .i64 248))), .none⟩]
def p11_7 : List PO := [⟨(.some 7), (.mov (.tmp 2)), .none⟩, ⟨(.some 8), (.arI .quo (.tmp 7) (.const (.int .i64 64))), .none⟩, ⟨(.some 9), (.fld 0 (.tmp 1)), .none⟩, ⟨(.some 10), (.ixA 4 1 (.tmp 9) (.tmp 8)), .none⟩, ⟨(.some 11), (.load .false 1 (.tmp 10)), .none⟩, ⟨(.some 12), (.mov (.tmp 2)), .none⟩, ⟨(.some 13), (.arI .rem (.tmp 12) (.const (.int .i64 64))), .none⟩, ⟨(.some 14), (.sh .shl (.const (.int .u64 1)) (.tmp 13)), .none⟩, ⟨(.some 15), (.arI .or (.tmp 11) (.tmp 14)), .none⟩, ⟨(.some 16), (.fld 0 (.tmp 1)), .none⟩, ⟨(.some 17), (.ixA 4 1 (.tmp 16) (.tmp 8)), .none⟩, ⟨.none, (.store 1 (.tmp 17) (.tmp 15)), .none⟩]
def p11_8 : List PO := [⟨(.some 5), (.mov (.tmp 2)), .none⟩, ⟨(.some 6), (.arI .add (.tmp 5) (.const (.int .i64 8))), .none⟩, ⟨(.some 2), (.mov (.tmp 6)), .none⟩]
def c11_1 : PCode := (.keep [0, 1, 2] [(8, .id 8), (16, .id 16)] [] (.seq (.block 1 (.regD p11_7 [])) (.reg p11_8)))
def c11_2 : PCode := (.keep [0, 1, 2] [(8, .id 8), (16, .id 16)] [] (.seq (.seq (.reg p11_6) (.cond (.tmp 4) .skip (.keep [0, 1] [(8, .id 8), (16, .id 16)] [] (.exit 0)))) c11_1))
def p11_9 : List PO := [⟨(.some 18), (.load .true 4 (.tmp 1)), .none⟩, ⟨.none, (.store 4 (.tmp 0) (.tmp 18)), .none⟩]
def c11_b : PCode := (.seq (.reg p11_3) (.seq (.reg p11_4) (.seq (.seq (.reg p11_5) (.block 0 (.loop c11_2))) (.seq (.reg p11_9) .ret))))
def c11 : FCode := ⟨19, c11_b, [(.cell 0 .true 4)], some ([0], [(8, .id 8)], []), false⟩
theorem c11_ok : compF Go.Proofs.Tryd.prog [100006, 100012, 100014, 16, 27, 28, 29, 30, 32, 36, 41, 42, 44, 46, 48, 50, 51, 52, 53, 57, 58, 59, 60, 67, 69, 70, 72, 73, 75, 76, 78, 81, 82, 83, 85] 11 = some (eraseF c11) := by kernel_rfl
def p4_2 : List PO := [⟨(.some 4), (.alloc [(2, (.int .i64 0)), (1, (.slice .none 0 0)), (2, (.int .i64 0)), (1, (.bool .false)), (6, (.int .i64 0)), (4, (.int .u64 0)), (8, (.int .i64 0)), (1, (.bool .false)), (5, (.int .i64 0)), (1, (.slice .none 0 0)), (1, (.string ⟨#[]⟩)), (1, (.slice .none 0 0))]), .none⟩, ⟨(.some 5), (.mov (.const (.int .i64 0))), .none⟩]
def p4_3 : List PO := [⟨(.some 10), (.mov (.tmp 0)), .none⟩, ⟨(.some 11), (.mov (.tmp 1)), .none⟩, ⟨(.some 12), (.build [(3, (.int .i64 0))] []), .none⟩, ⟨(.some 13), (.call 9 [(.tmp 10), (.tmp 11), (.tmp 12)]), .none⟩, ⟨(.some 9), (.mov (.tmp 13)), .none⟩, ⟨(.some 14), (.ext (.tmp 9) 0), .none⟩, ⟨(.some 15), (.ext (.tmp 9) 1), .none⟩, ⟨(.some 6), (.alloc [(2, (.int .i64 0)), (1, (.slice .none 0 0))]), .none⟩, ⟨.none, (.store 3 (.tmp 6) (.tmp 14)), .none⟩, ⟨(.some 7), (.mov (.tmp 15)), .none⟩]
def p4_4 : List PO := [⟨(.some 16), (.mov (.tmp 7)), .none⟩, ⟨(.some 17), (.cmpI .neq (.tmp 16) (.const (.int .i64 0))), .none⟩]
def p4_5 : List PO := [⟨(.some 18), (.build [(2, (.int .i64 0)), (1, (.slice .none 0 0)), (2, (.int .i64 0)), (1, (.bool .false)), (6, (.int .i64 0)), (4, (.int .u64 0)), (8, (.int .i64 0)), (1, (.bool .false)), (5, (.int .i64 0)), (1, (.slice .none 0 0)), (1, (.string ⟨#[]⟩)), (1, (.slice .none 0 0))] []), .none⟩, ⟨(.some 19), (.mov (.tmp 7)), .none⟩, ⟨.none, (.store 33 (.tmp 4) (.tmp 18)), .none⟩, ⟨(.some 5), (.mov (.tmp 19)), .none⟩]
def p4_6 : List PO := [⟨(.some 20), (.build [(2, (.int .i64 0))] [(0, (1, (.const (.int .i64 1)))), (1, (1, (.const (.int .i64 1))))]), .none⟩, ⟨(.some 8), (.alloc [(2, (.int .i64 0))]), .none⟩, ⟨.none, (.store 2 (.tmp 8) (.tmp 20)), .none⟩]
def p4_7 : List PO := [⟨(.some 21), (.load .true 3 (.tmp 6)), .none⟩, ⟨(.some 22), (.load .true 3 (.tmp 6)), .none⟩, ⟨(.some 23), (.call 10 [(.tmp 22)]), .none⟩, ⟨(.some 24), (.mov (.tmp 1)), .none⟩, ⟨(.some 25), (.call 11 []), .none⟩, ⟨(.some 26), (.load .true 2 (.tmp 8)), .none⟩, ⟨(.some 27), (.load .true 2 (.tmp 8)), .none⟩, ⟨(.some 28), (.build [(5, (.int .i64 0)), (1, (.bool .false)), (3, (.int .i64 0))] [(6, (2, (.tmp 27)))]), .none⟩, ⟨(.some 29), (.build [(2, (.int .i64 0)), (1, (.slice .none 0 0)), (2, (.int .i64 0)), (1, (.bool .false)), (6, (.int .i64 0)), (4, (.int .u64 0)), (8, (.int .i64 0)), (1, (.bool .false)), (5, (.int .i64 0)), (1, (.slice .none 0 0)), (1, (.string ⟨#[]⟩)), (1, (.slice .none 0 0))] [(0, (3, (.tmp 21))), (28, (3, (.tmp 23))), (7, (1, (.tmp 24))), (11, (1, (.const (.int .i64 12)))), (12, (4, (.tmp 25))), (16, (2, (.tmp 26))), (19, (9, (.tmp 28)))]), .none⟩, ⟨.none, (.store 33 (.tmp 4) (.tmp 29)), .none⟩, ⟨(.some 5), (.mov (.const (.int .i64 0))), .none⟩]
def c4_1 : PCode := (.keep [1, 4, 6] [(40, .id 40), (56, .id 56), (112, .id 112)] [.cell 40 2 0 0 1, .cell 40 30 0 0 1, .cell 40 32 0 0 1] (.seq (.reg p4_6) (.seq (.regD p4_7 [(0, 2), (0, 4), (2, 5), (4, 5), (2, 6), (4, 6)]) .ret)))
def c4_b : PCode := (.seq (.reg p4_2) (.seq (.reg p4_3) (.seq (.seq (.reg p4_4) (.cond (.tmp 17) (.seq (.reg p4_5) .ret) .skip)) c4_1)))
def c4 : FCode := ⟨30, c4_b, [(.cell 4 .true 33), (.tmp 5)], some ([4, 5], [(40, .id 40), (273, (.cell 40 2)), (192, (.cell 40 30))], [.cell 40 2 273 46 4, .cell 40 30 192 46 4]), false⟩
theorem c4_ok : compF Go.Proofs.Tryd.prog [100006, 100012, 100014, 16, 27, 28, 29, 30, 32, 36, 41, 42, 44, 46, 48, 50, 51, 52, 53, 57, 58, 59, 60, 67, 69, 70, 72, 73, 75, 76, 78, 81, 82, 83, 85] 4 = some (eraseF c4) := by kernel_rfl
def p7_3 : List PO := [⟨(.some 2), (.nilS 55 6), .none⟩]
def p7_4 : List PO := [⟨(.some 3), (.nilS 55 6), .none⟩]
def p7_5 : List PO := [⟨(.some 6), (.mov (.tmp 0)), .none⟩, ⟨(.some 7), (.rng (.tmp 6)), .none⟩]
def p7_6 : List PO := [⟨(.some 8), (.nxt (.tmp 7)), .none⟩, ⟨(.some 9), (.ext (.tmp 8) 0), .none⟩]
def p7_7 : List PO := [⟨(.some 10), (.ext (.tmp 8) 2), .none⟩, ⟨(.some 5), (.mov (.tmp 10)), .none⟩]
def p7_8 : List PO := [⟨(.some 11), (.mov (.tmp 3)), .none⟩, ⟨(.some 12), (.mov (.tmp 5)), .none⟩, ⟨(.some 13), (.cvI .i64 (.tmp 12)), .none⟩, ⟨(.some 14), (.build [(3, (.int .i64 0)), (1, (.string ⟨#[]⟩)), (1, (.slice .none 0 0)), (1, (.string ⟨#[]⟩))] [(0, (1, (.const (.int .i64 1)))), (1, (1, (.tmp 13)))]), .none⟩, ⟨(.some 15), (.bsl 55 6 1 [(3, (.int .i64 0)), (1, (.string ⟨#[]⟩)), (1, (.slice .none 0 0)), (1, (.string ⟨#[]⟩))] [(0, (6, (.tmp 14)))]), .none⟩, ⟨(.some 16), (.app 55 6 80 (.tmp 11) (.tmp 15)), .none⟩, ⟨(.some 3), (.mov (.tmp 16)), .none⟩]
def c7_1 : PCode := (.keep [3, 7, 8] [(32, .id 32), (64, .id 64)] [] (.block 1 (.seq (.reg p7_7) (.reg p7_8))))
def c7_2 : PCode := (.keep [3, 7] [(32, .id 32), (64, .id 64)] [] (.seq (.reg p7_6) (.seq (.cond (.tmp 9) .skip (.keep [3] [(32, .id 32)] [] (.exit 0))) c7_1)))
def p7_9 : List PO := [⟨(.some 17), (.mov (.tmp 3)), .none⟩, ⟨(.some 2), (.mov (.tmp 17)), .none⟩]
def c7_b : PCode := (.seq (.reg p7_3) (.seq (.reg p7_4) (.seq (.seq (.reg p7_5) (.block 0 (.loop c7_2))) (.seq (.reg p7_9) .ret))))
def c7 : FCode := ⟨18, c7_b, [(.tmp 2)], some ([2], [(32, .id 32)], []), false⟩
theorem c7_ok : compF Go.Proofs.Tryd.prog [100006, 100012, 100014, 16, 27, 28, 29, 30, 32, 36, 41, 42, 44, 46, 48, 50, 51, 52, 53, 57, 58, 59, 60, 67, 69, 70, 72, 73, 75, 76, 78, 81, 82, 83, 85] 7 = some (eraseF c7) := by kernel_rfl
def p36_1 : List PO := [⟨(.some 2), (.box 3 (.tmp 0)), .none⟩, ⟨(.some 4), (.nilS 46 4), .none⟩]
def p36_2 : List PO := [⟨(.some 5), (.fld 2 (.tmp 2)), .none⟩, ⟨(.some 6), (.load .false 1 (.tmp 5)), .none⟩, ⟨(.some 7), (.mov (.tmp 1)), .none⟩, ⟨(.some 8), (.fld 0 (.tmp 2)), .none⟩, ⟨(.some 9), (.load .false 1 (.tmp 8)), .none⟩, ⟨(.some 10), (.arI .mul (.tmp 7) (.tmp 9)), .none⟩, ⟨(.some 11), (.mov (.tmp 1)), .none⟩, ⟨(.some 12), (.arI .add (.tmp 11) (.const (.int .i64 1))), .none⟩, ⟨(.some 13), (.fld 0 (.tmp 2)), .none⟩, ⟨(.some 14), (.load .false 1 (.tmp 13)), .none⟩, ⟨(.some 15), (.arI .mul (.tmp 12) (.tmp 14)), .none⟩, ⟨(.some 16), (.slS 46 4 (.tmp 6) (.some (.tmp 10)) (.some (.tmp 15))), .none⟩, ⟨(.some 4), (.mov (.tmp 16)), .none⟩]
def c36_b : PCode := (.seq (.reg p36_1) (.seq (.reg p36_2) .ret))
def c36 : FCode := ⟨17, c36_b, [(.tmp 4)], some ([4, 2000000], [(0, .id 0)], []), false⟩
theorem c36_ok : compF Go.Proofs.Tryd.prog [100006, 100012, 100014, 16, 27, 28, 29, 30, 32, 36, 41, 42, 44, 46, 48, 50, 51, 52, 53, 57, 58, 59, 60, 67, 69, 70, 72, 73, 75, 76, 78, 81, 82, 83, 85] 36 = some (eraseF c36) := by kernel_rfl
def p62_4 : List PO := [⟨(.some 4), (.mov (.const (.bool .false))), .none⟩]
def p62_5 : List PO := [⟨(.some 7), (.mov (.tmp 1)), .none⟩, ⟨(.some 8), (.len .false (.tmp 7)), .none⟩, ⟨(.some 9), (.mov (.const (.int .i64 0))), .none⟩]
def p62_6 : List PO := [⟨(.some 10), (.cmpI .lss (.tmp 9) (.tmp 8)), .none⟩]
def p62_7 : List PO := [⟨(.some 11), (.ixS 31 2 (.tmp 7) (.tmp 9)), .none⟩, ⟨(.some 12), (.load .true 2 (.tmp 11)), .none⟩, ⟨(.some 6), (.alloc [(2, (.int .i64 0))]), .none⟩, ⟨.none, (.store 2 (.tmp 6) (.tmp 12)), .none⟩]
def p62_8 : List PO := [⟨(.some 13), (.mov (.tmp 0)), .none⟩, ⟨(.some 14), (.ixA 2 1 (.tmp 6) (.const (.int .i64 0))), .none⟩, ⟨(.some 15), (.load .false 1 (.tmp 14)), .none⟩, ⟨(.some 16), (.cmpI .geq (.tmp 13) (.tmp 15)), .none⟩, ⟨(.some 17), (.mov (.tmp 16)), .none⟩, ⟨(.some 18), (.mov (.tmp 0)), (.some (17, .true))⟩, ⟨(.some 19), (.ixA 2 1 (.tmp 6) (.const (.int .i64 1))), (.some (17, .true))⟩, ⟨(.some 20), (.load .false 1 (.tmp 19)), (.some (17, .true))⟩, ⟨(.some 21), (.cmpI .leq (.tmp 18) (.tmp 20)), (.some (17, .true))⟩, ⟨(.some 22), (.pick (.tmp 17) (.tmp 21) (.const (.bool .false))), .none⟩]
def p62_9 : List PO := [⟨(.some 4), (.mov (.const (.bool .true))), .none⟩]
def p62_10 : List PO := [⟨(.some 23), (.arI .add (.tmp 9) (.const (.int .i64 1))), .none⟩, ⟨(.some 9), (.mov (.tmp 23)), .none⟩]
def c62_1 : PCode := (.keep [0, 7, 8, 9] [] [] (.seq (.block 1 (.seq (.reg p62_7) (.seq (.reg p62_8) (.cond (.tmp 22) (.seq (.reg p62_9) .ret) .skip)))) (.reg p62_10)))
def c62_2 : PCode := (.keep [0, 7, 8, 9, 10] [] [] (.seq (.cond (.tmp 10) .skip (.keep [] [] [] (.exit 0))) c62_1))
def c62_3 : PCode := (.keep [0, 7, 8, 9] [] [] (.seq (.reg p62_6) c62_2))
def p62_11 : List PO := [⟨(.some 4), (.mov (.const (.bool .false))), .none⟩]
def c62_b : PCode := (.seq (.reg p62_4) (.seq (.seq (.reg p62_5) (.block 0 (.loop c62_3))) (.seq (.reg p62_11) .ret)))
def c62 : FCode := ⟨24, c62_b, [(.tmp 4)], some ([4], [], []), false⟩
theorem c62_ok : compF Go.Proofs.Tryd.prog [100006, 100012, 100014, 16, 27, 28, 29, 30, 32, 36, 41, 42, 44, 46, 48, 50, 51, 52, 53, 57, 58, 59, 60, 67, 69, 70, 72, 73, 75, 76, 78, 81, 82, 83, 85] 62 = some (eraseF c62) := by kernel_rfl
def p37_3 : List PO := [⟨(.some 2), (.mov (.const (.int .i64 0))), .none⟩]
def p37_4 : List PO := [⟨(.some 5), (.build [(2, (.int .i64 0))] [(0, (1, (.const (.int .i64 0)))), (1, (1, (.const (.int .i64 31))))]), .none⟩, ⟨(.some 6), (.build [(2, (.int .i64 0))] [(0, (1, (.const (.int .i64 127)))), (1, (1, (.const (.int .i64 159))))]), .none⟩, ⟨(.some 7), (.build [(2, (.int .i64 0))] [(0, (1, (.const (.int .i64 768)))), (1, (1, (.const (.int .i64 879))))]), .none⟩, ⟨(.some 8), (.build [(2, (.int .i64 0))] [(0, (1, (.const (.int .i64 8203)))), (1, (1, (.const (.int .i64 8207))))]), .none⟩, ⟨(.some 9), (.build [(2, (.int .i64 0))] [(0, (1, (.const (.int .i64 55296)))), (1, (1, (.const (.int .i64 57343))))]), .none⟩, ⟨(.some 10), (.build [(2, (.int .i64 0))] [(0, (1, (.const (.int .i64 65024)))), (1, (1, (.const (.int .i64 65039))))]), .none⟩, ⟨(.some 11), (.build [(12, (.int .i64 0))] [(0, (2, (.tmp 5))), (2, (2, (.tmp 6))), (4, (2, (.tmp 7))), (6, (2, (.tmp 8))), (8, (2, (.tmp 9))), (10, (2, (.tmp 10)))]), .none⟩, ⟨(.some 3), (.alloc [(12, (.int .i64 0))]), .none⟩, ⟨.none, (.store 12 (.tmp 3) (.tmp 11)), .none⟩]
def p37_5 : List PO := [⟨(.some 12), (.build [(2, (.int .i64 0))] [(0, (1, (.const (.int .i64 4352)))), (1, (1, (.const (.int .i64 4447))))]), .none⟩, ⟨(.some 13), (.build [(2, (.int .i64 0))] [(0, (1, (.const (.int .i64 11904)))), (1, (1, (.const (.int .i64 12350))))]), .none⟩, ⟨(.some 14), (.build [(2, (.int .i64 0))] [(0, (1, (.const (.int .i64 12353)))), (1, (1, (.const (.int .i64 19903))))]), .none⟩, ⟨(.some 15), (.build [(2, (.int .i64 0))] [(0, (1, (.const (.int .i64 19968)))), (1, (1, (.const (.int .i64 42191))))]), .none⟩, ⟨(.some 16), (.build [(2, (.int .i64 0))] [(0, (1, (.const (.int .i64 44032)))), (1, (1, (.const (.int .i64 55203))))]), .none⟩, ⟨(.some 17), (.build [(2, (.int .i64 0))] [(0, (1, (.const (.int .i64 63744)))), (1, (1, (.const (.int .i64 64255))))]), .none⟩, ⟨(.some 18), (.build [(2, (.int .i64 0))] [(0, (1, (.const (.int .i64 65072)))), (1, (1, (.const (.int .i64 65135))))]), .none⟩, ⟨(.some 19), (.build [(2, (.int .i64 0))] [(0, (1, (.const (.int .i64 65280)))), (1, (1, (.const (.int .i64 65376))))]), .none⟩, ⟨(.some 20), (.build [(2, (.int .i64 0))] [(0, (1, (.const (.int .i64 65504)))), (1, (1, (.const (.int .i64 65510))))]), .none⟩, ⟨(.some 21), (.build [(2, (.int .i64 0))] [(0, (1, (.const (.int .i64 127744)))), (1, (1, (.const (.int .i64 128591))))]), .none⟩, ⟨(.some 22), (.build [(2, (.int .i64 0))] [(0, (1, (.const (.int .i64 129280)))), (1, (1, (.const (.int .i64 129535))))]), .none⟩, ⟨(.some 23), (.build [(2, (.int .i64 0))] [(0, (1, (.const (.int .i64 131072)))), (1, (1, (.const (.int .i64 262141))))]), .none⟩, ⟨(.some 24), (.build [(24, (.int .i64 0))] [(0, (2, (.tmp 12))), (2, (2, (.tmp 13))), (4, (2, (.tmp 14))), (6, (2, (.tmp 15))), (8, (2, (.tmp 16))), (10, (2, (.tmp 17))), (12, (2, (.tmp 18))), (14, (2, (.tmp 19))), (16, (2, (.tmp 20))), (18, (2, (.tmp 21))), (20, (2, (.tmp 22))), (22, (2, (.tmp 23)))]), .none⟩, ⟨(.some 4), (.alloc [(24, (.int .i64 0))]), .none⟩, ⟨.none, (.store 24 (.tmp 4) (.tmp 24)), .none⟩]
def p37_6 : List PO := [⟨(.some 26), (.mov (.tmp 0)), .none⟩, ⟨(.some 27), (.cmpI .lss (.tmp 26) (.const (.int .i64 0))), .none⟩, ⟨(.some 28), (.mov (.tmp 27)), .none⟩, ⟨(.some 29), (.mov (.tmp 0)), (.some (28, .false))⟩, ⟨(.some 30), (.cmpI .gtr (.tmp 29) (.const (.int .i64 1114111))), (.some (28, .false))⟩, ⟨(.some 31), (.pick (.tmp 28) (.const (.bool .true)) (.tmp 30)), .none⟩, ⟨(.some 32), (.mov (.tmp 31)), .none⟩, ⟨(.some 33), (.mov (.tmp 0)), (.some (32, .false))⟩, ⟨(.some 34), (.slA 6 2 (.tmp 3) .none .none), (.some (32, .false))⟩, ⟨(.some 35), (.call 62 [(.tmp 33), (.tmp 34)]), (.some (32, .false))⟩, ⟨(.some 36), (.pick (.tmp 32) (.const (.bool .true)) (.tmp 35)), .none⟩, ⟨(.some 25), (.mov (.tmp 36)), .none⟩]
def p37_7 : List PO := [⟨(.some 2), (.mov (.const (.int .i64 0))), .none⟩]
def p37_8 : List PO := [⟨(.some 38), (.mov (.tmp 0)), .none⟩, ⟨(.some 39), (.slA 12 2 (.tmp 4) .none .none), .none⟩, ⟨(.some 40), (.call 62 [(.tmp 38), (.tmp 39)]), .none⟩, ⟨(.some 37), (.mov (.tmp 40)), .none⟩]
def p37_9 : List PO := [⟨(.some 2), (.mov (.const (.int .i64 2))), .none⟩]
def c37_1 : PCode := (.keep [0, 4, 25] [(40, .id 40)] [] (.cond (.tmp 25) (.seq (.reg p37_7) .ret) (.seq (.reg p37_8) (.cond (.tmp 37) (.seq (.reg p37_9) .ret) .skip))))
def p37_10 : List PO := [⟨(.some 2), (.mov (.const (.int .i64 1))), .none⟩]
def c37_2 : PCode := (.seq (.reg p37_10) .ret)
def c37_b : PCode := (.seq (.reg p37_3) (.seq (.reg p37_4) (.seq (.reg p37_5) (.seq (.block 0 (.seq (.reg p37_6) c37_1)) c37_2))))
def c37 : FCode := ⟨41, c37_b, [(.tmp 2)], some ([2], [], []), false⟩
theorem c37_ok : compF Go.Proofs.Tryd.prog [100006, 100012, 100014, 16, 27, 28, 29, 30, 32, 36, 41, 42, 44, 46, 48, 50, 51, 52, 53, 57, 58, 59, 60, 67, 69, 70, 72, 73, 75, 76, 78, 81, 82, 83, 85] 37 = some (eraseF c37) := by kernel_rfl
def p63_1 : List PO := [⟨(.some 3), (.mov (.const (.bool .false))), .none⟩]
def p63_2 : List PO := [⟨(.some 4), (.mov (.tmp 0)), .none⟩, ⟨(.some 5), (.load .false 1 (.tmp 1)), .none⟩, ⟨(.some 6), (.len .false (.tmp 5)), .none⟩, ⟨(.some 7), (.cmpI .lss (.tmp 4) (.tmp 6)), .none⟩, ⟨(.some 8), (.mov (.tmp 7)), .none⟩, ⟨(.some 9), (.load .false 1 (.tmp 1)), (.some (8, .true))⟩, ⟨(.some 10), (.mov (.tmp 0)), (.some (8, .true))⟩, ⟨(.some 11), (.ixS 46 4 (.tmp 9) (.tmp 10)), (.some (8, .true))⟩, ⟨(.some 12), (.fld 0 (.tmp 11)), (.some (8, .true))⟩, ⟨(.some 13), (.load .false 1 (.tmp 12)), (.some (8, .true))⟩, ⟨(.some 14), (.cmpI .eql (.tmp 13) (.const (.int .i64 0))), (.some (8, .true))⟩, ⟨(.some 15), (.pick (.tmp 8) (.tmp 14) (.const (.bool .false))), .none⟩, ⟨(.some 16), (.mov (.tmp 15)), .none⟩, ⟨(.some 17), (.load .false 1 (.tmp 1)), (.some (16, .true))⟩, ⟨(.some 18), (.mov (.tmp 0)), (.some (16, .true))⟩, ⟨(.some 19), (.ixS 46 4 (.tmp 17) (.tmp 18)), (.some (16, .true))⟩, ⟨(.some 20), (.fld 1 (.tmp 19)), (.some (16, .true))⟩, ⟨(.some 21), (.load .true 3 (.tmp 20)), (.some (16, .true))⟩, ⟨(.some 22), (.load .false 1 (.tmp 1)), (.some (16, .true))⟩, ⟨(.some 23), (.mov (.tmp 0)), (.some (16, .true))⟩, ⟨(.some 24), (.arI .sub (.tmp 23) (.const (.int .i64 1))), (.some (16, .true))⟩, ⟨(.some 25), (.ixS 46 4 (.tmp 22) (.tmp 24)), (.some (16, .true))⟩, ⟨(.some 26), (.fld 1 (.tmp 25)), (.some (16, .true))⟩, ⟨(.some 27), (.load .true 3 (.tmp 26)), (.some (16, .true))⟩, ⟨(.some 28), (.eqA .false [(3, .int)] (.tmp 21) (.tmp 27)), (.some (16, .true))⟩, ⟨(.some 29), (.pick (.tmp 16) (.tmp 28) (.const (.bool .false))), .none⟩, ⟨(.some 3), (.mov (.tmp 29)), .none⟩]
def c63_b : PCode := (.seq (.reg p63_1) (.seq (.regD p63_2 []) .ret))
def c63 : FCode := ⟨30, c63_b, [(.tmp 3)], some ([3], [], []), false⟩
theorem c63_ok : compF Go.Proofs.Tryd.prog [100006, 100012, 100014, 16, 27, 28, 29, 30, 32, 36, 41, 42, 44, 46, 48, 50, 51, 52, 53, 57, 58, 59, 60, 67, 69, 70, 72, 73, 75, 76, 78, 81, 82, 83, 85] 63 = some (eraseF c63) := by kernel_rfl
def p38_2 : List PO := [⟨(.some 2), (.box 1 (.tmp 0)), .none⟩, ⟨(.some 4), (.mov (.const (.bool .false))), .none⟩]
def p38_3 : List PO := [⟨(.some 6), (.mkF 63 [(.tmp 2)]), .none⟩, ⟨(.some 5), (.mov (.tmp 6)), .none⟩]
def p38_4 : List PO := [⟨(.some 7), (.load .false 1 (.tmp 2)), .none⟩, ⟨(.some 8), (.mov (.tmp 1)), .none⟩, ⟨(.some 9), (.ixS 46 4 (.tmp 7) (.tmp 8)), .none⟩, ⟨(.some 10), (.fld 0 (.tmp 9)), .none⟩, ⟨(.some 11), (.load .false 1 (.tmp 10)), .none⟩, ⟨(.some 12), (.cmpI .eql (.tmp 11) (.const (.int .i64 0))), .none⟩]
def p38_5 : List PO := [⟨(.some 13), (.mov (.tmp 1)), .none⟩, ⟨(.some 14), (.cmpI .eql (.tmp 13) (.const (.int .i64 0))), .none⟩, ⟨(.some 15), (.mov (.tmp 14)), .none⟩, ⟨(.some 16), (.load .false 1 (.tmp 2)), (.some (15, .false))⟩, ⟨(.some 17), (.mov (.tmp 1)), (.some (15, .false))⟩, ⟨(.some 18), (.arI .sub (.tmp 17) (.const (.int .i64 1))), (.some (15, .false))⟩, ⟨(.some 19), (.ixS 46 4 (.tmp 16) (.tmp 18)), (.some (15, .false))⟩, ⟨(.some 20), (.fld 0 (.tmp 19)), (.some (15, .false))⟩, ⟨(.some 21), (.load .false 1 (.tmp 20)), (.some (15, .false))⟩, ⟨(.some 22), (.call 37 [(.tmp 21)]), (.some (15, .false))⟩, ⟨(.some 23), (.cmpI .neq (.tmp 22) (.const (.int .i64 2))), (.some (15, .false))⟩, ⟨(.some 24), (.pick (.tmp 15) (.const (.bool .true)) (.tmp 23)), .none⟩, ⟨(.some 25), (.mov (.tmp 24)), .none⟩, ⟨(.some 26), (.mov (.tmp 5)), (.some (25, .false))⟩, ⟨(.some 27), (.mov (.tmp 1)), (.some (25, .false))⟩, ⟨(.some 28), (.callv (.tmp 26) [(.tmp 27)]), (.some (25, .false))⟩, ⟨(.some 29), (.un .not (.tmp 28)), (.some (25, .false))⟩, ⟨(.some 30), (.pick (.tmp 25) (.const (.bool .true)) (.tmp 29)), .none⟩, ⟨(.some 4), (.mov (.tmp 30)), .none⟩]
def p38_6 : List PO := [⟨(.some 31), (.load .false 1 (.tmp 2)), .none⟩, ⟨(.some 32), (.mov (.tmp 1)), .none⟩, ⟨(.some 33), (.ixS 46 4 (.tmp 31) (.tmp 32)), .none⟩, ⟨(.some 34), (.fld 0 (.tmp 33)), .none⟩, ⟨(.some 35), (.load .false 1 (.tmp 34)), .none⟩, ⟨(.some 36), (.call 37 [(.tmp 35)]), .none⟩, ⟨(.some 37), (.cmpI .eql (.tmp 36) (.const (.int .i64 2))), .none⟩, ⟨(.some 38), (.mov (.tmp 37)), .none⟩, ⟨(.some 39), (.mov (.tmp 5)), (.some (38, .true))⟩, ⟨(.some 40), (.mov (.tmp 1)), (.some (38, .true))⟩, ⟨(.some 41), (.arI .add (.tmp 40) (.const (.int .i64 1))), (.some (38, .true))⟩, ⟨(.some 42), (.callv (.tmp 39) [(.tmp 41)]), (.some (38, .true))⟩, ⟨(.some 43), (.un .not (.tmp 42)), (.some (38, .true))⟩, ⟨(.some 44), (.pick (.tmp 38) (.tmp 43) (.const (.bool .false))), .none⟩, ⟨(.some 4), (.mov (.tmp 44)), .none⟩]
def c38_1 : PCode := (.keep [1, 2, 5] [(24, .id 24)] [] (.seq (.reg p38_6) .ret))
def c38_b : PCode := (.seq (.reg p38_2) (.seq (.reg p38_3) (.seq (.seq (.reg p38_4) (.cond (.tmp 12) (.seq (.reg p38_5) .ret) .skip)) c38_1)))
def c38 : FCode := ⟨45, c38_b, [(.tmp 4)], some ([4], [], []), false⟩
theorem c38_ok : compF Go.Proofs.Tryd.prog [100006, 100012, 100014, 16, 27, 28, 29, 30, 32, 36, 41, 42, 44, 46, 48, 50, 51, 52, 53, 57, 58, 59, 60, 67, 69, 70, 72, 73, 75, 76, 78, 81, 82, 83, 85] 38 = some (eraseF c38) := by kernel_rfl
def p21_9 : List PO := [⟨(.some 1), (.box 3 (.tmp 0)), .none⟩, ⟨(.some 2), (.mov (.const (.int .i64 0))), .none⟩]
def p21_10 : List PO := [⟨(.some 8), (.fld 0 (.tmp 1)), .none⟩, ⟨(.some 9), (.load .false 1 (.tmp 8)), .none⟩, ⟨(.some 10), (.fld 1 (.tmp 1)), .none⟩, ⟨(.some 11), (.load .false 1 (.tmp 10)), .none⟩, ⟨(.some 12), (.call 17 [(.tmp 9), (.tmp 11)]), .none⟩, ⟨(.some 3), (.mov (.tmp 12)), .none⟩]
def p21_11 : List PO := [⟨(.some 13), (.mov (.tmp 3)), .none⟩, ⟨(.some 14), (.cmpI .neq (.tmp 13) (.const (.int .i64 0))), .none⟩]
def p21_12 : List PO := [⟨(.some 15), (.mov (.tmp 3)), .none⟩, ⟨(.some 2), (.mov (.tmp 15)), .none⟩]
def p21_13 : List PO := [⟨(.some 16), (.fld 2 (.tmp 1)), .none⟩, ⟨(.some 17), (.load .false 1 (.tmp 16)), .none⟩, ⟨(.some 18), (.len .false (.tmp 17)), .none⟩, ⟨(.some 19), (.fld 0 (.tmp 1)), .none⟩, ⟨(.some 20), (.load .false 1 (.tmp 19)), .none⟩, ⟨(.some 21), (.fld 1 (.tmp 1)), .none⟩, ⟨(.some 22), (.load .false 1 (.tmp 21)), .none⟩, ⟨(.some 23), (.arI .mul (.tmp 20) (.tmp 22)), .none⟩, ⟨(.some 24), (.cmpI .neq (.tmp 18) (.tmp 23)), .none⟩]
def p21_14 : List PO := [⟨(.some 2), (.mov (.const (.int .i64 4))), .none⟩]
def p21_15 : List PO := [⟨(.some 25), (.fld 1 (.tmp 1)), .none⟩, ⟨(.some 26), (.load .false 1 (.tmp 25)), .none⟩, ⟨(.some 27), (.mov (.const (.int .i64 0))), .none⟩]
def p21_16 : List PO := [⟨(.some 28), (.cmpI .lss (.tmp 27) (.tmp 26)), .none⟩]
def p21_17 : List PO := [⟨(.some 29), (.mov (.tmp 27)), .none⟩, ⟨(.some 4), (.mov (.tmp 29)), .none⟩]
def p21_18 : List PO := [⟨(.some 30), (.load .true 3 (.tmp 1)), .none⟩, ⟨(.some 31), (.mov (.tmp 4)), .none⟩, ⟨(.some 32), (.callr 36 [(.tmp 30), (.tmp 31)]), .none⟩, ⟨(.some 5), (.mov (.tmp 32)), .none⟩]
def p21_19 : List PO := [⟨(.some 33), (.mov (.tmp 5)), .none⟩, ⟨(.some 34), (.len .false (.tmp 33)), .none⟩, ⟨(.some 35), (.mov (.const (.int .i64 0))), .none⟩]
def p21_20 : List PO := [⟨(.some 36), (.cmpI .lss (.tmp 35) (.tmp 34)), .none⟩]
def p21_21 : List PO := [⟨(.some 37), (.mov (.tmp 35)), .none⟩, ⟨(.some 38), (.ixS 46 4 (.tmp 33) (.tmp 35)), .none⟩, ⟨(.some 39), (.load .true 4 (.tmp 38)), .none⟩, ⟨(.some 7), (.alloc [(4, (.int .i64 0))]), .none⟩, ⟨(.some 6), (.mov (.tmp 37)), .none⟩, ⟨.none, (.store 4 (.tmp 7) (.tmp 39)), .none⟩]
def p21_22 : List PO := [⟨(.some 40), (.fld 1 (.tmp 7)), .none⟩, ⟨(.some 41), (.load .true 3 (.tmp 40)), .none⟩, ⟨(.some 42), (.call 18 [(.tmp 41)]), .none⟩, ⟨(.some 43), (.cmpI .neq (.tmp 42) (.const (.int .i64 0))), .none⟩, ⟨(.some 44), (.mov (.tmp 43)), .none⟩, ⟨(.some 45), (.fld 0 (.tmp 7)), (.some (44, .false))⟩, ⟨(.some 46), (.load .false 1 (.tmp 45)), (.some (44, .false))⟩, ⟨(.some 47), (.cmpI .neq (.tmp 46) (.const (.int .i64 0))), (.some (44, .false))⟩, ⟨(.some 48), (.mov (.tmp 47)), (.some (44, .false))⟩, ⟨(.some 49), (.fld 0 (.tmp 7)), (.some (48, .true))⟩, ⟨(.some 50), (.load .false 1 (.tmp 49)), (.some (48, .true))⟩, ⟨(.some 51), (.call 37 [(.tmp 50)]), (.some (48, .true))⟩, ⟨(.some 52), (.cmpI .eql (.tmp 51) (.const (.int .i64 0))), (.some (48, .true))⟩, ⟨(.some 53), (.pick (.tmp 48) (.tmp 52) (.const (.bool .false))), (.some (44, .false))⟩, ⟨(.some 54), (.pick (.tmp 44) (.const (.bool .true)) (.tmp 53)), .none⟩, ⟨(.some 55), (.mov (.tmp 54)), .none⟩, ⟨(.some 56), (.mov (.tmp 5)), (.some (55, .false))⟩, ⟨(.some 57), (.mov (.tmp 6)), (.some (55, .false))⟩, ⟨(.some 58), (.call 38 [(.tmp 56), (.tmp 57)]), (.some (55, .false))⟩, ⟨(.some 59), (.pick (.tmp 55) (.const (.bool .true)) (.tmp 58)), .none⟩]
def p21_23 : List PO := [⟨(.some 2), (.mov (.const (.int .i64 4))), .none⟩]
def p21_24 : List PO := [⟨(.some 60), (.arI .add (.tmp 35) (.const (.int .i64 1))), .none⟩, ⟨(.some 35), (.mov (.tmp 60)), .none⟩]
def c21_1 : PCode := (.keep [1, 5, 26, 27, 33, 34, 35] [(16, .id 16)] [] (.seq (.block 3 (.seq (.reg p21_21) (.seq (.reg p21_22) (.cond (.tmp 59) (.seq (.reg p21_23) .ret) .skip)))) (.reg p21_24)))
def c21_2 : PCode := (.keep [1, 5, 26, 27, 33, 34, 35, 36] [(16, .id 16)] [] (.seq (.cond (.tmp 36) .skip (.keep [1, 26, 27] [(16, .id 16)] [] (.exit 2))) c21_1))
def c21_3 : PCode := (.keep [1, 5, 26, 27, 33, 34, 35] [(16, .id 16)] [] (.seq (.reg p21_20) c21_2))
def p21_25 : List PO := [⟨(.some 61), (.arI .add (.tmp 27) (.const (.int .i64 1))), .none⟩, ⟨(.some 27), (.mov (.tmp 61)), .none⟩]
def c21_4 : PCode := (.keep [1, 26, 27] [(16, .id 16)] [] (.seq (.block 1 (.seq (.reg p21_17) (.seq (.reg p21_18) (.seq (.reg p21_19) (.block 2 (.loop c21_3)))))) (.reg p21_25)))
def c21_5 : PCode := (.keep [1, 26, 27, 28] [(16, .id 16)] [] (.seq (.cond (.tmp 28) .skip (.keep [] [] [] (.exit 0))) c21_4))
def c21_6 : PCode := (.keep [1, 26, 27] [(16, .id 16)] [] (.seq (.reg p21_16) c21_5))
def p21_26 : List PO := [⟨(.some 2), (.mov (.const (.int .i64 0))), .none⟩]
def c21_7 : PCode := (.keep [1] [(16, .id 16)] [] (.seq (.seq (.reg p21_15) (.block 0 (.loop c21_6))) (.seq (.reg p21_26) .ret)))
def c21_8 : PCode := (.keep [1] [(16, .id 16)] [] (.seq (.seq (.reg p21_13) (.cond (.tmp 24) (.seq (.reg p21_14) .ret) .skip)) c21_7))
def c21_b : PCode := (.seq (.reg p21_9) (.seq (.seq (.reg p21_10) (.seq (.reg p21_11) (.cond (.tmp 14) (.seq (.reg p21_12) .ret) .skip))) c21_8))
def c21 : FCode := ⟨62, c21_b, [(.tmp 2)], some ([2], [], []), false⟩
theorem c21_ok : compF Go.Proofs.Tryd.prog [100006, 100012, 100014, 16, 27, 28, 29, 30, 32, 36, 41, 42, 44, 46, 48, 50, 51, 52, 53, 57, 58, 59, 60, 67, 69, 70, 72, 73, 75, 76, 78, 81, 82, 83, 85] 21 = some (eraseF c21) := by kernel_rfl
def p22_1 : List PO := [⟨(.some 6), (.mov (.const (.bool .false))), .none⟩]
def p22_2 : List PO := [⟨(.some 7), (.mov (.tmp 0)), .none⟩, ⟨(.some 8), (.mov (.tmp 1)), .none⟩, ⟨(.some 9), (.cmpI .geq (.tmp 7) (.tmp 8)), .none⟩, ⟨(.some 10), (.mov (.tmp 9)), .none⟩, ⟨(.some 11), (.mov (.tmp 0)), (.some (10, .true))⟩, ⟨(.some 12), (.mov (.tmp 2)), (.some (10, .true))⟩, ⟨(.some 13), (.cmpI .leq (.tmp 11) (.tmp 12)), (.some (10, .true))⟩, ⟨(.some 14), (.pick (.tmp 10) (.tmp 13) (.const (.bool .false))), .none⟩, ⟨(.some 6), (.mov (.tmp 14)), .none⟩]
def c22_b : PCode := (.seq (.reg p22_1) (.seq (.reg p22_2) .ret))
def c22 : FCode := ⟨15, c22_b, [(.tmp 6)], some ([6], [], []), false⟩
theorem c22_ok : compF Go.Proofs.Tryd.prog [100006, 100012, 100014, 16, 27, 28, 29, 30, 32, 36, 41, 42, 44, 46, 48, 50, 51, 52, 53, 57, 58, 59, 60, 67, 69, 70, 72, 73, 75, 76, 78, 81, 82, 83, 85] 22 = some (eraseF c22) := by kernel_rfl
def p23_1 : List PO := [⟨(.some 2), (.mov (.const (.bool .false))), .none⟩]
def p23_2 : List PO := [⟨(.some 3), (.mov (.tmp 0)), .none⟩, ⟨(.some 4), (.cmpI .geq (.tmp 3) (.const (.int .i64 1))), .none⟩, ⟨(.some 5), (.mov (.tmp 4)), .none⟩, ⟨(.some 6), (.mov (.tmp 0)), (.some (5, .true))⟩, ⟨(.some 7), (.cmpI .leq (.tmp 6) (.const (.int .i64 4))), (.some (5, .true))⟩, ⟨(.some 8), (.pick (.tmp 5) (.tmp 7) (.const (.bool .false))), .none⟩, ⟨(.some 2), (.mov (.tmp 8)), .none⟩]
def c23_b : PCode := (.seq (.reg p23_1) (.seq (.reg p23_2) .ret))
def c23 : FCode := ⟨9, c23_b, [(.tmp 2)], some ([2], [], []), false⟩
theorem c23_ok : compF Go.Proofs.Tryd.prog [100006, 100012, 100014, 16, 27, 28, 29, 30, 32, 36, 41, 42, 44, 46, 48, 50, 51, 52, 53, 57, 58, 59, 60, 67, 69, 70, 72, 73, 75, 76, 78, 81, 82, 83, 85] 23 = some (eraseF c23) := by kernel_rfl
def p24_4 : List PO := [⟨(.some 2), (.mov (.const (.bool .false))), .none⟩]
def p24_5 : List PO := [⟨(.some 5), (.mov (.tmp 0)), .none⟩, ⟨(.some 6), (.len .false (.tmp 5)), .none⟩, ⟨(.some 7), (.mov (.const (.int .i64 0))), .none⟩]
def p24_6 : List PO := [⟨(.some 8), (.cmpI .lss (.tmp 7) (.tmp 6)), .none⟩]
def p24_7 : List PO := [⟨(.some 9), (.ixS 73 1 (.tmp 5) (.tmp 7)), .none⟩, ⟨(.some 10), (.load .true 1 (.tmp 9)), .none⟩, ⟨(.some 4), (.alloc [(1, (.slice .none 0 0))]), .none⟩, ⟨.none, (.store 1 (.tmp 4) (.tmp 10)), .none⟩]
def p24_8 : List PO := [⟨(.some 11), (.fld 0 (.tmp 4)), .none⟩, ⟨(.some 12), (.load .false 1 (.tmp 11)), .none⟩, ⟨(.some 13), (.len .false (.tmp 12)), .none⟩, ⟨(.some 14), (.fld 0 (.tmp 4)), .none⟩, ⟨(.some 15), (.load .false 1 (.tmp 14)), .none⟩, ⟨(.some 16), (.build [(2, (.int .i64 0)), (1, (.slice .none 0 0))] [(0, (1, (.tmp 13))), (1, (1, (.const (.int .i64 1)))), (2, (1, (.tmp 15)))]), .none⟩, ⟨(.some 17), (.call 21 [(.tmp 16)]), .none⟩, ⟨(.some 18), (.cmpI .neq (.tmp 17) (.const (.int .i64 0))), .none⟩]
def p24_9 : List PO := [⟨(.some 2), (.mov (.const (.bool .false))), .none⟩]
def p24_10 : List PO := [⟨(.some 19), (.arI .add (.tmp 7) (.const (.int .i64 1))), .none⟩, ⟨(.some 7), (.mov (.tmp 19)), .none⟩]
def c24_1 : PCode := (.keep [0, 5, 6, 7] [] [] (.seq (.block 1 (.seq (.reg p24_7) (.seq (.reg p24_8) (.cond (.tmp 18) (.seq (.reg p24_9) .ret) .skip)))) (.reg p24_10)))
def c24_2 : PCode := (.keep [0, 5, 6, 7, 8] [] [] (.seq (.cond (.tmp 8) .skip (.keep [0] [] [] (.exit 0))) c24_1))
def c24_3 : PCode := (.keep [0, 5, 6, 7] [] [] (.seq (.reg p24_6) c24_2))
def p24_11 : List PO := [⟨(.some 20), (.mov (.tmp 0)), .none⟩, ⟨(.some 21), (.len .false (.tmp 20)), .none⟩, ⟨(.some 22), (.cmpI .leq (.tmp 21) (.const (.int .i64 40))), .none⟩, ⟨(.some 2), (.mov (.tmp 22)), .none⟩]
def c24_b : PCode := (.seq (.reg p24_4) (.seq (.seq (.reg p24_5) (.block 0 (.loop c24_3))) (.seq (.reg p24_11) .ret)))
def c24 : FCode := ⟨23, c24_b, [(.tmp 2)], some ([2], [], []), false⟩
theorem c24_ok : compF Go.Proofs.Tryd.prog [100006, 100012, 100014, 16, 27, 28, 29, 30, 32, 36, 41, 42, 44, 46, 48, 50, 51, 52, 53, 57, 58, 59, 60, 67, 69, 70, 72, 73, 75, 76, 78, 81, 82, 83, 85] 24 = some (eraseF c24) := by kernel_rfl
def p13_10 : List PO := [⟨(.some 1), (.box 33 (.tmp 0)), .none⟩, ⟨(.some 2), (.mov (.const (.int .i64 0))), .none⟩]
def p13_11 : List PO := [⟨(.some 7), (.fld 0 (.tmp 1)), .none⟩, ⟨(.some 8), (.load .true 3 (.tmp 7)), .none⟩, ⟨(.some 9), (.fld 28 (.tmp 1)), .none⟩, ⟨(.some 10), (.load .true 3 (.tmp 9)), .none⟩, ⟨(.some 3), (.alloc [(2, (.int .i64 0)), (1, (.slice .none 0 0))]), .none⟩, ⟨(.some 4), (.alloc [(2, (.int .i64 0)), (1, (.slice .none 0 0))]), .none⟩, ⟨.none, (.store 3 (.tmp 3) (.tmp 8)), .none⟩, ⟨.none, (.store 3 (.tmp 4) (.tmp 10)), .none⟩]
def p13_12 : List PO := [⟨(.some 11), (.load .true 3 (.tmp 3)), .none⟩, ⟨(.some 12), (.call 21 [(.tmp 11)]), .none⟩, ⟨(.some 13), (.cmpI .eql (.tmp 12) (.const (.int .i64 0))), .none⟩, ⟨(.some 14), (.mov (.tmp 13)), .none⟩, ⟨(.some 15), (.load .true 3 (.tmp 4)), (.some (14, .true))⟩, ⟨(.some 16), (.call 21 [(.tmp 15)]), (.some (14, .true))⟩, ⟨(.some 17), (.cmpI .eql (.tmp 16) (.const (.int .i64 0))), (.some (14, .true))⟩, ⟨(.some 18), (.pick (.tmp 14) (.tmp 17) (.const (.bool .false))), .none⟩, ⟨(.some 19), (.mov (.tmp 18)), .none⟩, ⟨(.some 20), (.fld 0 (.tmp 3)), (.some (19, .true))⟩, ⟨(.some 21), (.load .false 1 (.tmp 20)), (.some (19, .true))⟩, ⟨(.some 22), (.fld 0 (.tmp 4)), (.some (19, .true))⟩, ⟨(.some 23), (.load .false 1 (.tmp 22)), (.some (19, .true))⟩, ⟨(.some 24), (.cmpI .eql (.tmp 21) (.tmp 23)), (.some (19, .true))⟩, ⟨(.some 25), (.pick (.tmp 19) (.tmp 24) (.const (.bool .false))), .none⟩, ⟨(.some 26), (.mov (.tmp 25)), .none⟩, ⟨(.some 27), (.fld 1 (.tmp 3)), (.some (26, .true))⟩, ⟨(.some 28), (.load .false 1 (.tmp 27)), (.some (26, .true))⟩, ⟨(.some 29), (.fld 1 (.tmp 4)), (.some (26, .true))⟩, ⟨(.some 30), (.load .false 1 (.tmp 29)), (.some (26, .true))⟩, ⟨(.some 31), (.cmpI .eql (.tmp 28) (.tmp 30)), (.some (26, .true))⟩, ⟨(.some 32), (.pick (.tmp 26) (.tmp 31) (.const (.bool .false))), .none⟩, ⟨(.some 5), (.mov (.tmp 32)), .none⟩]
def p13_13 : List PO := [⟨(.some 33), (.mov (.tmp 5)), .none⟩, ⟨(.some 34), (.mov (.tmp 33)), .none⟩, ⟨(.some 35), (.fld 3 (.tmp 1)), (.some (34, .true))⟩, ⟨(.some 36), (.load .false 1 (.tmp 35)), (.some (34, .true))⟩, ⟨(.some 37), (.fld 1 (.tmp 3)), (.some (34, .true))⟩, ⟨(.some 38), (.load .false 1 (.tmp 37)), (.some (34, .true))⟩, ⟨(.some 39), (.arI .sub (.tmp 38) (.const (.int .i64 1))), (.some (34, .true))⟩, ⟨(.some 40), (.call 22 [(.tmp 36), (.const (.int .i64 0)), (.tmp 39)]), (.some (34, .true))⟩, ⟨(.some 41), (.pick (.tmp 34) (.tmp 40) (.const (.bool .false))), .none⟩, ⟨(.some 42), (.mov (.tmp 41)), .none⟩, ⟨(.some 43), (.fld 4 (.tmp 1)), (.some (42, .true))⟩, ⟨(.some 44), (.load .false 1 (.tmp 43)), (.some (42, .true))⟩, ⟨(.some 45), (.fld 0 (.tmp 3)), (.some (42, .true))⟩, ⟨(.some 46), (.load .false 1 (.tmp 45)), (.some (42, .true))⟩, ⟨(.some 47), (.arI .sub (.tmp 46) (.const (.int .i64 1))), (.some (42, .true))⟩, ⟨(.some 48), (.call 22 [(.tmp 44), (.const (.int .i64 0)), (.tmp 47)]), (.some (42, .true))⟩, ⟨(.some 49), (.pick (.tmp 42) (.tmp 48) (.const (.bool .false))), .none⟩, ⟨(.some 50), (.mov (.tmp 49)), .none⟩, ⟨(.some 51), (.fld 5 (.tmp 1)), (.some (50, .true))⟩, ⟨(.some 52), (.load .false 1 (.tmp 51)), (.some (50, .true))⟩, ⟨(.some 53), (.un .not (.tmp 52)), (.some (50, .true))⟩, ⟨(.some 54), (.mov (.tmp 53)), (.some (50, .true))⟩, ⟨(.some 55), (.fld 4 (.tmp 1)), (.some (54, .false))⟩, ⟨(.some 56), (.load .false 1 (.tmp 55)), (.some (54, .false))⟩, ⟨(.some 57), (.fld 0 (.tmp 3)), (.some (54, .false))⟩, ⟨(.some 58), (.load .false 1 (.tmp 57)), (.some (54, .false))⟩, ⟨(.some 59), (.arI .sub (.tmp 58) (.const (.int .i64 1))), (.some (54, .false))⟩, ⟨(.some 60), (.cmpI .eql (.tmp 56) (.tmp 59)), (.some (54, .false))⟩, ⟨(.some 61), (.pick (.tmp 54) (.const (.bool .true)) (.tmp 60)), (.some (50, .true))⟩, ⟨(.some 62), (.pick (.tmp 50) (.tmp 61) (.const (.bool .false))), .none⟩, ⟨(.some 5), (.mov (.tmp 62)), .none⟩]
def p13_14 : List PO := [⟨(.some 63), (.mov (.tmp 5)), .none⟩, ⟨(.some 64), (.mov (.tmp 63)), .none⟩, ⟨(.some 65), (.fld 6 (.tmp 1)), (.some (64, .true))⟩, ⟨(.some 66), (.load .false 1 (.tmp 65)), (.some (64, .true))⟩, ⟨(.some 67), (.fld 7 (.tmp 1)), (.some (64, .true))⟩, ⟨(.some 68), (.load .false 1 (.tmp 67)), (.some (64, .true))⟩, ⟨(.some 69), (.arI .sub (.tmp 68) (.const (.int .i64 1))), (.some (64, .true))⟩, ⟨(.some 70), (.call 22 [(.tmp 66), (.const (.int .i64 0)), (.tmp 69)]), (.some (64, .true))⟩, ⟨(.some 71), (.pick (.tmp 64) (.tmp 70) (.const (.bool .false))), .none⟩, ⟨(.some 72), (.mov (.tmp 71)), .none⟩, ⟨(.some 73), (.fld 7 (.tmp 1)), (.some (72, .true))⟩, ⟨(.some 74), (.load .false 1 (.tmp 73)), (.some (72, .true))⟩, ⟨(.some 75), (.fld 1 (.tmp 3)), (.some (72, .true))⟩, ⟨(.some 76), (.load .false 1 (.tmp 75)), (.some (72, .true))⟩, ⟨(.some 77), (.cmpI .leq (.tmp 74) (.tmp 76)), (.some (72, .true))⟩, ⟨(.some 78), (.pick (.tmp 72) (.tmp 77) (.const (.bool .false))), .none⟩, ⟨(.some 5), (.mov (.tmp 78)), .none⟩]
def p13_15 : List PO := [⟨(.some 79), (.mov (.tmp 5)), .none⟩, ⟨(.some 80), (.mov (.tmp 79)), .none⟩, ⟨(.some 81), (.fld 8 (.tmp 1)), (.some (80, .true))⟩, ⟨(.some 82), (.load .true 3 (.tmp 81)), (.some (80, .true))⟩, ⟨(.some 83), (.call 18 [(.tmp 82)]), (.some (80, .true))⟩, ⟨(.some 84), (.cmpI .eql (.tmp 83) (.const (.int .i64 0))), (.some (80, .true))⟩, ⟨(.some 85), (.pick (.tmp 80) (.tmp 84) (.const (.bool .false))), .none⟩, ⟨(.some 86), (.mov (.tmp 85)), .none⟩, ⟨(.some 87), (.fld 19 (.tmp 1)), (.some (86, .true))⟩, ⟨(.some 88), (.fld 2 (.tmp 87)), (.some (86, .true))⟩, ⟨(.some 89), (.load .true 3 (.tmp 88)), (.some (86, .true))⟩, ⟨(.some 90), (.call 18 [(.tmp 89)]), (.some (86, .true))⟩, ⟨(.some 91), (.cmpI .eql (.tmp 90) (.const (.int .i64 0))), (.some (86, .true))⟩, ⟨(.some 92), (.pick (.tmp 86) (.tmp 91) (.const (.bool .false))), .none⟩, ⟨(.some 93), (.mov (.tmp 92)), .none⟩, ⟨(.some 94), (.fld 11 (.tmp 1)), (.some (93, .true))⟩, ⟨(.some 95), (.load .false 1 (.tmp 94)), (.some (93, .true))⟩, ⟨(.some 96), (.call 22 [(.tmp 95), (.const (.int .i64 0)), (.const (.int .i64 2047))]), (.some (93, .true))⟩, ⟨(.some 97), (.pick (.tmp 93) (.tmp 96) (.const (.bool .false))), .none⟩, ⟨(.some 5), (.mov (.tmp 97)), .none⟩]
def p13_16 : List PO := [⟨(.some 98), (.mov (.const (.int .i64 0))), .none⟩]
def p13_17 : List PO := [⟨(.some 99), (.cmpI .lss (.tmp 98) (.const (.int .i64 2))), .none⟩]
def p13_18 : List PO := [⟨(.some 100), (.mov (.tmp 98)), .none⟩, ⟨(.some 6), (.mov (.tmp 100)), .none⟩]
def p13_19 : List PO := [⟨(.some 101), (.mov (.tmp 5)), .none⟩, ⟨(.some 102), (.mov (.tmp 101)), .none⟩, ⟨(.some 103), (.mov (.tmp 6)), (.some (102, .true))⟩, ⟨(.some 104), (.fld 16 (.tmp 1)), (.some (102, .true))⟩, ⟨(.some 105), (.ixA 2 1 (.tmp 104) (.tmp 103)), (.some (102, .true))⟩, ⟨(.some 106), (.load .false 1 (.tmp 105)), (.some (102, .true))⟩, ⟨(.some 107), (.call 23 [(.tmp 106)]), (.some (102, .true))⟩, ⟨(.some 108), (.pick (.tmp 102) (.tmp 107) (.const (.bool .false))), .none⟩, ⟨(.some 109), (.mov (.tmp 108)), .none⟩, ⟨(.some 110), (.mov (.tmp 6)), (.some (109, .true))⟩, ⟨(.some 111), (.fld 19 (.tmp 1)), (.some (109, .true))⟩, ⟨(.some 112), (.fld 6 (.tmp 111)), (.some (109, .true))⟩, ⟨(.some 113), (.ixA 2 1 (.tmp 112) (.tmp 110)), (.some (109, .true))⟩, ⟨(.some 114), (.load .false 1 (.tmp 113)), (.some (109, .true))⟩, ⟨(.some 115), (.call 23 [(.tmp 114)]), (.some (109, .true))⟩, ⟨(.some 116), (.pick (.tmp 109) (.tmp 115) (.const (.bool .false))), .none⟩, ⟨(.some 5), (.mov (.tmp 116)), .none⟩]
def p13_20 : List PO := [⟨(.some 117), (.arI .add (.tmp 98) (.const (.int .i64 1))), .none⟩, ⟨(.some 98), (.mov (.tmp 117)), .none⟩]
def c13_4 : PCode := (.keep [1, 5, 98] [(16, .id 16)] [] (.seq (.block 1 (.seq (.reg p13_18) (.reg p13_19))) (.reg p13_20)))
def c13_5 : PCode := (.loop (.seq (.reg p13_17) (.seq (.cond (.tmp 99) .skip (.exit 0)) c13_4)))
def p13_21 : List PO := [⟨(.some 118), (.mov (.tmp 5)), .none⟩, ⟨(.some 119), (.mov (.tmp 118)), .none⟩, ⟨(.some 120), (.fld 18 (.tmp 1)), (.some (119, .true))⟩, ⟨(.some 121), (.load .false 1 (.tmp 120)), (.some (119, .true))⟩, ⟨(.some 122), (.call 22 [(.tmp 121), (.const (.int .i64 0)), (.const (.int .i64 1))]), (.some (119, .true))⟩, ⟨(.some 123), (.pick (.tmp 119) (.tmp 122) (.const (.bool .false))), .none⟩, ⟨(.some 124), (.mov (.tmp 123)), .none⟩, ⟨(.some 125), (.fld 19 (.tmp 1)), (.some (124, .true))⟩, ⟨(.some 126), (.fld 8 (.tmp 125)), (.some (124, .true))⟩, ⟨(.some 127), (.load .false 1 (.tmp 126)), (.some (124, .true))⟩, ⟨(.some 128), (.call 22 [(.tmp 127), (.const (.int .i64 0)), (.const (.int .i64 1))]), (.some (124, .true))⟩, ⟨(.some 129), (.pick (.tmp 124) (.tmp 128) (.const (.bool .false))), .none⟩, ⟨(.some 5), (.mov (.tmp 129)), .none⟩]
def p13_22 : List PO := [⟨(.some 130), (.mov (.tmp 5)), .none⟩, ⟨(.some 131), (.mov (.tmp 130)), .none⟩, ⟨(.some 132), (.fld 19 (.tmp 1)), (.some (131, .true))⟩, ⟨(.some 133), (.fld 0 (.tmp 132)), (.some (131, .true))⟩, ⟨(.some 134), (.load .false 1 (.tmp 133)), (.some (131, .true))⟩, ⟨(.some 135), (.call 22 [(.tmp 134), (.const (.int .i64 0)), (.const (.int .i64 59))]), (.some (131, .true))⟩, ⟨(.some 136), (.pick (.tmp 131) (.tmp 135) (.const (.bool .false))), .none⟩, ⟨(.some 137), (.mov (.tmp 136)), .none⟩, ⟨(.some 138), (.fld 19 (.tmp 1)), (.some (137, .true))⟩, ⟨(.some 139), (.fld 1 (.tmp 138)), (.some (137, .true))⟩, ⟨(.some 140), (.load .false 1 (.tmp 139)), (.some (137, .true))⟩, ⟨(.some 141), (.call 22 [(.tmp 140), (.const (.int .i64 0)), (.const (.int .i64 159))]), (.some (137, .true))⟩, ⟨(.some 142), (.pick (.tmp 137) (.tmp 141) (.const (.bool .false))), .none⟩, ⟨(.some 5), (.mov (.tmp 142)), .none⟩]
def p13_23 : List PO := [⟨(.some 143), (.mov (.tmp 5)), .none⟩, ⟨(.some 144), (.mov (.tmp 143)), .none⟩, ⟨(.some 145), (.fld 31 (.tmp 1)), (.some (144, .true))⟩, ⟨(.some 146), (.load .false 1 (.tmp 145)), (.some (144, .true))⟩, ⟨(.some 147), (.len .true (.tmp 146)), (.some (144, .true))⟩, ⟨(.some 148), (.cmpI .leq (.tmp 147) (.const (.int .i64 256))), (.some (144, .true))⟩, ⟨(.some 149), (.pick (.tmp 144) (.tmp 148) (.const (.bool .false))), .none⟩, ⟨(.some 150), (.mov (.tmp 149)), .none⟩, ⟨(.some 151), (.fld 32 (.tmp 1)), (.some (150, .true))⟩, ⟨(.some 152), (.load .false 1 (.tmp 151)), (.some (150, .true))⟩, ⟨(.some 153), (.call 24 [(.tmp 152)]), (.some (150, .true))⟩, ⟨(.some 154), (.pick (.tmp 150) (.tmp 153) (.const (.bool .false))), .none⟩, ⟨(.some 5), (.mov (.tmp 154)), .none⟩]
def p13_24 : List PO := [⟨(.some 155), (.mov (.tmp 5)), .none⟩, ⟨(.some 156), (.un .not (.tmp 155)), .none⟩]
def p13_25 : List PO := [⟨(.some 2), (.mov (.const (.int .i64 4))), .none⟩]
def p13_26 : List PO := [⟨(.some 2), (.mov (.const (.int .i64 0))), .none⟩]
def c13_1 : PCode := (.keep [1, 5] [(16, .id 16)] [] (.seq (.reg p13_23) (.seq (.seq (.reg p13_24) (.cond (.tmp 156) (.seq (.reg p13_25) .ret) .skip)) (.seq (.reg p13_26) .ret))))
def c13_2 : PCode := (.keep [1, 5] [(16, .id 16)] [] (.seq (.reg p13_22) c13_1))
def c13_3 : PCode := (.keep [1, 5] [(16, .id 16)] [] (.seq (.reg p13_21) c13_2))
def c13_6 : PCode := (.keep [1, 5] [(16, .id 16)] [] (.seq (.seq (.reg p13_16) (.block 0 c13_5)) c13_3))
def c13_7 : PCode := (.keep [1, 5] [(16, .id 16)] [] (.seq (.reg p13_15) c13_6))
def c13_8 : PCode := (.keep [1, 3, 5] [(16, .id 16), (32, .id 32)] [] (.seq (.reg p13_14) c13_7))
def c13_9 : PCode := (.keep [1, 3, 5] [(16, .id 16), (32, .id 32)] [] (.seq (.reg p13_13) c13_8))
def c13_b : PCode := (.seq (.reg p13_10) (.seq (.regD p13_11 [(1, 4), (3, 4), (1, 5), (3, 5), (4, 5), (3, 6)]) (.seq (.reg p13_12) c13_9)))
def c13 : FCode := ⟨157, c13_b, [(.tmp 2)], some ([2], [], []), false⟩
theorem c13_ok : compF Go.Proofs.Tryd.prog [100006, 100012, 100014, 16, 27, 28, 29, 30, 32, 36, 41, 42, 44, 46, 48, 50, 51, 52, 53, 57, 58, 59, 60, 67, 69, 70, 72, 73, 75, 76, 78, 81, 82, 83, 85] 13 = some (eraseF c13) := by kernel_rfl
def p14_4 : List PO := [⟨(.some 1), (.box 33 (.tmp 0)), .none⟩, ⟨(.some 2), (.alloc [(2, (.int .i64 0)), (1, (.slice .none 0 0)), (2, (.int .i64 0)), (1, (.bool .false)), (6, (.int .i64 0)), (4, (.int .u64 0)), (8, (.int .i64 0)), (1, (.bool .false)), (5, (.int .i64 0)), (1, (.slice .none 0 0)), (1, (.string ⟨#[]⟩)), (1, (.slice .none 0 0))]), .none⟩]
def p14_5 : List PO := [⟨(.some 6), (.fld 0 (.tmp 1)), .none⟩, ⟨(.some 7), (.load .true 3 (.tmp 6)), .none⟩, ⟨(.some 8), (.call 10 [(.tmp 7)]), .none⟩, ⟨(.some 9), (.fld 28 (.tmp 1)), .none⟩, ⟨(.some 10), (.load .true 3 (.tmp 9)), .none⟩, ⟨(.some 11), (.call 10 [(.tmp 10)]), .none⟩, ⟨(.some 12), (.fld 0 (.tmp 1)), .none⟩, ⟨.none, (.store 3 (.tmp 12) (.tmp 8)), .none⟩, ⟨(.some 13), (.fld 28 (.tmp 1)), .none⟩, ⟨.none, (.store 3 (.tmp 13) (.tmp 11)), .none⟩]
def p14_6 : List PO := [⟨(.some 3), (.nilS 73 1), .none⟩]
def p14_7 : List PO := [⟨(.some 14), (.fld 32 (.tmp 1)), .none⟩, ⟨(.some 15), (.load .false 1 (.tmp 14)), .none⟩, ⟨(.some 16), (.len .false (.tmp 15)), .none⟩, ⟨(.some 17), (.mov (.const (.int .i64 0))), .none⟩]
def p14_8 : List PO := [⟨(.some 18), (.cmpI .lss (.tmp 17) (.tmp 16)), .none⟩]
def p14_9 : List PO := [⟨(.some 19), (.ixS 73 1 (.tmp 15) (.tmp 17)), .none⟩, ⟨(.some 20), (.load .true 1 (.tmp 19)), .none⟩, ⟨(.some 5), (.alloc [(1, (.slice .none 0 0))]), .none⟩, ⟨.none, (.store 1 (.tmp 5) (.tmp 20)), .none⟩]
def p14_10 : List PO := [⟨(.some 21), (.mov (.tmp 3)), .none⟩, ⟨(.some 22), (.fld 0 (.tmp 5)), .none⟩, ⟨(.some 23), (.load .false 1 (.tmp 22)), .none⟩, ⟨(.some 24), (.call 20 [(.tmp 23)]), .none⟩, ⟨(.some 25), (.build [(1, (.slice .none 0 0))] [(0, (1, (.tmp 24)))]), .none⟩, ⟨(.some 26), (.bsl 73 1 1 [(1, (.slice .none 0 0))] [(0, (1, (.tmp 25)))]), .none⟩, ⟨(.some 27), (.app 73 1 24 (.tmp 21) (.tmp 26)), .none⟩, ⟨(.some 3), (.mov (.tmp 27)), .none⟩]
def p14_11 : List PO := [⟨(.some 28), (.arI .add (.tmp 17) (.const (.int .i64 1))), .none⟩, ⟨(.some 17), (.mov (.tmp 28)), .none⟩]
def c14_1 : PCode := (.keep [1, 2, 3, 15, 16, 17] [(16, .id 16), (72, .id 72), (96, .id 96), (24, .id 24), (32, .id 32)] [] (.seq (.block 1 (.seq (.reg p14_9) (.reg p14_10))) (.reg p14_11)))
def c14_2 : PCode := (.keep [1, 2, 3, 15, 16, 17, 18] [(16, .id 16), (72, .id 72), (96, .id 96), (24, .id 24), (32, .id 32)] [] (.seq (.cond (.tmp 18) .skip (.keep [1, 2, 3] [(16, .id 16), (72, .id 72), (96, .id 96), (24, .id 24), (32, .id 32)] [] (.exit 0))) c14_1))
def c14_3 : PCode := (.keep [1, 2, 3, 15, 16, 17] [(16, .id 16), (72, .id 72), (96, .id 96), (24, .id 24), (32, .id 32)] [.cell 24 2 0 0 1, .cell 24 30 0 0 1, .cell 24 32 0 0 1] (.seq (.reg p14_8) c14_2))
def p14_12 : List PO := [⟨(.some 29), (.mov (.tmp 3)), .none⟩, ⟨(.some 30), (.fld 32 (.tmp 1)), .none⟩, ⟨.none, (.store 1 (.tmp 30) (.tmp 29)), .none⟩]
def p14_13 : List PO := [⟨(.some 31), (.load .true 33 (.tmp 1)), .none⟩, ⟨.none, (.store 33 (.tmp 2) (.tmp 31)), .none⟩]
def c14_b : PCode := (.seq (.reg p14_4) (.seq (.regD p14_5 [(2, 4)]) (.seq (.reg p14_6) (.seq (.seq (.reg p14_7) (.block 0 (.loop c14_3))) (.seq (.reg p14_12) (.seq (.reg p14_13) .ret))))))
def c14 : FCode := ⟨32, c14_b, [(.cell 2 .true 33)], some ([2], [(24, .id 24), (72, .id 72), (96, .id 96), (32, .id 32)], []), false⟩
theorem c14_ok : compF Go.Proofs.Tryd.prog [100006, 100012, 100014, 16, 27, 28, 29, 30, 32, 36, 41, 42, 44, 46, 48, 50, 51, 52, 53, 57, 58, 59, 60, 67, 69, 70, 72, 73, 75, 76, 78, 81, 82, 83, 85] 14 = some (eraseF c14) := by kernel_rfl
def p26_1 : List PO := [⟨(.some 2), (.mov (.const (.bool .false))), .none⟩]
def p26_2 : List PO := [⟨(.some 3), (.mov (.tmp 0)), .none⟩, ⟨(.some 4), (.call 22 [(.tmp 3), (.const (.int .i64 (-1))), (.const (.int .i64 16383))]), .none⟩, ⟨(.some 5), (.un .not (.tmp 4)), .none⟩, ⟨(.some 2), (.mov (.tmp 5)), .none⟩]
def c26_b : PCode := (.seq (.reg p26_1) (.seq (.reg p26_2) .ret))
def c26 : FCode := ⟨6, c26_b, [(.tmp 2)], some ([2], [], []), false⟩
theorem c26_ok : compF Go.Proofs.Tryd.prog [100006, 100012, 100014, 16, 27, 28, 29, 30, 32, 36, 41, 42, 44, 46, 48, 50, 51, 52, 53, 57, 58, 59, 60, 67, 69, 70, 72, 73, 75, 76, 78, 81, 82, 83, 85] 26 = some (eraseF c26) := by kernel_rfl
def p39_4 : List PO := [⟨(.some 4), (.mov (.const (.int .i64 0))), .none⟩]
def p39_5 : List PO := [⟨(.some 6), (.mov (.tmp 0)), .none⟩, ⟨(.some 7), (.len .false (.tmp 6)), .none⟩, ⟨(.some 8), (.mov (.const (.int .i64 0))), .none⟩]
def p39_6 : List PO := [⟨(.some 9), (.cmpI .lss (.tmp 8) (.tmp 7)), .none⟩]
def p39_7 : List PO := [⟨(.some 10), (.mov (.tmp 8)), .none⟩, ⟨(.some 5), (.mov (.tmp 10)), .none⟩]
def p39_8 : List PO := [⟨(.some 11), (.mov (.tmp 1)), .none⟩, ⟨(.some 12), (.mov (.tmp 0)), .none⟩, ⟨(.some 13), (.mov (.tmp 5)), .none⟩, ⟨(.some 14), (.ixS 3 1 (.tmp 12) (.tmp 13)), .none⟩, ⟨(.some 15), (.load .false 1 (.tmp 14)), .none⟩, ⟨(.some 16), (.callv (.tmp 11) [(.tmp 15)]), .none⟩]
def p39_9 : List PO := [⟨(.some 17), (.mov (.tmp 5)), .none⟩, ⟨(.some 4), (.mov (.tmp 17)), .none⟩]
def p39_10 : List PO := [⟨(.some 18), (.arI .add (.tmp 8) (.const (.int .i64 1))), .none⟩, ⟨(.some 8), (.mov (.tmp 18)), .none⟩]
def c39_1 : PCode := (.keep [0, 1, 7, 8] [] [] (.seq (.block 1 (.seq (.reg p39_7) (.seq (.reg p39_8) (.cond (.tmp 16) (.seq (.reg p39_9) .ret) .skip)))) (.reg p39_10)))
def c39_2 : PCode := (.keep [0, 1, 7, 8, 9] [] [] (.seq (.cond (.tmp 9) .skip (.keep [] [] [] (.exit 0))) c39_1))
def c39_3 : PCode := (.keep [0, 1, 7, 8] [] [] (.seq (.reg p39_6) c39_2))
def p39_11 : List PO := [⟨(.some 4), (.mov (.const (.int .i64 (-1)))), .none⟩]
def c39_b : PCode := (.seq (.reg p39_4) (.seq (.seq (.reg p39_5) (.block 0 (.loop c39_3))) (.seq (.reg p39_11) .ret)))
def c39 : FCode := ⟨19, c39_b, [(.tmp 4)], some ([4], [], []), false⟩
theorem c39_ok : compF Go.Proofs.Tryd.prog [100006, 100012, 100014, 16, 27, 28, 29, 30, 32, 36, 41, 42, 44, 46, 48, 50, 51, 52, 53, 57, 58, 59, 60, 67, 69, 70, 72, 73, 75, 76, 78, 81, 82, 83, 85] 39 = some (eraseF c39) := by kernel_rfl
def p25_1 : List PO := [⟨(.some 4), (.mov (.const (.bool .false))), .none⟩]
def p25_2 : List PO := [⟨(.some 5), (.mov (.tmp 0)), .none⟩, ⟨(.some 6), (.mov (.tmp 1)), .none⟩, ⟨(.some 7), (.call 39 [(.tmp 5), (.tmp 6)]), .none⟩, ⟨(.some 8), (.cmpI .geq (.tmp 7) (.const (.int .i64 0))), .none⟩, ⟨(.some 4), (.mov (.tmp 8)), .none⟩]
def c25_b : PCode := (.seq (.reg p25_1) (.seq (.reg p25_2) .ret))
def c25 : FCode := ⟨9, c25_b, [(.tmp 4)], some ([4], [], []), false⟩
theorem c25_ok : compF Go.Proofs.Tryd.prog [100006, 100012, 100014, 16, 27, 28, 29, 30, 32, 36, 41, 42, 44, 46, 48, 50, 51, 52, 53, 57, 58, 59, 60, 67, 69, 70, 72, 73, 75, 76, 78, 81, 82, 83, 85] 25 = some (eraseF c25) := by kernel_rfl
def p15_4 : List PO := [⟨(.some 2), (.mov (.const (.int .i64 0))), .none⟩]
def p15_5 : List PO := [⟨(.some 5), (.mov (.tmp 0)), .none⟩, ⟨(.some 6), (.len .false (.tmp 5)), .none⟩, ⟨(.some 7), (.mov (.const (.int .i64 0))), .none⟩]
def p15_6 : List PO := [⟨(.some 8), (.cmpI .lss (.tmp 7) (.tmp 6)), .none⟩]
def p15_7 : List PO := [⟨(.some 9), (.ixS 55 6 (.tmp 5) (.tmp 7)), .none⟩, ⟨(.some 10), (.load .true 6 (.tmp 9)), .none⟩, ⟨(.some 4), (.alloc [(3, (.int .i64 0)), (1, (.string ⟨#[]⟩)), (1, (.slice .none 0 0)), (1, (.string ⟨#[]⟩))]), .none⟩, ⟨.none, (.store 6 (.tmp 4) (.tmp 10)), .none⟩]
def p15_8 : List PO := [⟨(.some 11), (.fld 4 (.tmp 4)), .none⟩, ⟨(.some 12), (.load .false 1 (.tmp 11)), .none⟩, ⟨(.some 13), (.len .false (.tmp 12)), .none⟩, ⟨(.some 14), (.cmpI .gtr (.tmp 13) (.const (.int .i64 32))), .none⟩, ⟨(.some 15), (.mov (.tmp 14)), .none⟩, ⟨(.some 16), (.fld 5 (.tmp 4)), (.some (15, .false))⟩, ⟨(.some 17), (.load .false 1 (.tmp 16)), (.some (15, .false))⟩, ⟨(.some 18), (.len .true (.tmp 17)), (.some (15, .false))⟩, ⟨(.some 19), (.cmpI .gtr (.tmp 18) (.const (.int .i64 256))), (.some (15, .false))⟩, ⟨(.some 20), (.pick (.tmp 15) (.const (.bool .true)) (.tmp 19)), .none⟩, ⟨(.some 21), (.mov (.tmp 20)), .none⟩, ⟨(.some 22), (.fld 4 (.tmp 4)), (.some (21, .false))⟩, ⟨(.some 23), (.load .false 1 (.tmp 22)), (.some (21, .false))⟩, ⟨(.some 24), (.call 25 [(.tmp 23), (.func 26)]), (.some (21, .false))⟩, ⟨(.some 25), (.pick (.tmp 21) (.const (.bool .true)) (.tmp 24)), .none⟩]
def p15_9 : List PO := [⟨(.some 2), (.mov (.const (.int .i64 1))), .none⟩]
def p15_10 : List PO := [⟨(.some 26), (.arI .add (.tmp 7) (.const (.int .i64 1))), .none⟩, ⟨(.some 7), (.mov (.tmp 26)), .none⟩]
def c15_1 : PCode := (.keep [5, 6, 7] [] [] (.seq (.block 1 (.seq (.reg p15_7) (.seq (.reg p15_8) (.cond (.tmp 25) (.seq (.reg p15_9) .ret) .skip)))) (.reg p15_10)))
def c15_2 : PCode := (.keep [5, 6, 7, 8] [] [] (.seq (.cond (.tmp 8) .skip (.keep [] [] [] (.exit 0))) c15_1))
def c15_3 : PCode := (.keep [5, 6, 7] [] [] (.seq (.reg p15_6) c15_2))
def p15_11 : List PO := [⟨(.some 2), (.mov (.const (.int .i64 0))), .none⟩]
def c15_b : PCode := (.seq (.reg p15_4) (.seq (.seq (.reg p15_5) (.block 0 (.loop c15_3))) (.seq (.reg p15_11) .ret)))
def c15 : FCode := ⟨27, c15_b, [(.tmp 2)], some ([2], [], []), false⟩
theorem c15_ok : compF Go.Proofs.Tryd.prog [100006, 100012, 100014, 16, 27, 28, 29, 30, 32, 36, 41, 42, 44, 46, 48, 50, 51, 52, 53, 57, 58, 59, 60, 67, 69, 70, 72, 73, 75, 76, 78, 81, 82, 83, 85] 15 = some (eraseF c15) := by kernel_rfl
def p64_3 : List PO := [⟨(.some 4), (.mov (.const (.int .i64 0))), .none⟩]
def p64_4 : List PO := [⟨(.some 6), (.build [(32, (.int .i64 0))] [(0, (1, (.const (.int .i64 160)))), (1, (1, (.const (.int .i64 9670)))), (2, (1, (.const (.int .i64 9618)))), (3, (1, (.const (.int .i64 9225)))), (4, (1, (.const (.int .i64 9228)))), (5, (1, (.const (.int .i64 9229)))), (6, (1, (.const (.int .i64 9226)))), (7, (1, (.const (.int .i64 176)))), (8, (1, (.const (.int .i64 177)))), (9, (1, (.const (.int .i64 9252)))), (10, (1, (.const (.int .i64 9227)))), (11, (1, (.const (.int .i64 9496)))), (12, (1, (.const (.int .i64 9488)))), (13, (1, (.const (.int .i64 9484)))), (14, (1, (.const (.int .i64 9492)))), (15, (1, (.const (.int .i64 9532)))), (16, (1, (.const (.int .i64 9146)))), (17, (1, (.const (.int .i64 9147)))), (18, (1, (.const (.int .i64 9472)))), (19, (1, (.const (.int .i64 9148)))), (20, (1, (.const (.int .i64 9149)))), (21, (1, (.const (.int .i64 9500)))), (22, (1, (.const (.int .i64 9508)))), (23, (1, (.const (.int .i64 9524)))), (24, (1, (.const (.int .i64 9516)))), (25, (1, (.const (.int .i64 9474)))), (26, (1, (.const (.int .i64 8804)))), (27, (1, (.const (.int .i64 8805)))), (28, (1, (.const (.int .i64 960)))), (29, (1, (.const (.int .i64 8800)))), (30, (1, (.const (.int .i64 163)))), (31, (1, (.const (.int .i64 183))))]), .none⟩, ⟨(.some 5), (.alloc [(32, (.int .i64 0))]), .none⟩, ⟨.none, (.store 32 (.tmp 5) (.tmp 6)), .none⟩]
def p64_5 : List PO := [⟨(.some 8), (.mov (.tmp 0)), .none⟩, ⟨(.some 9), (.cmpI .eql (.tmp 8) (.const (.int .i64 2))), .none⟩, ⟨(.some 7), (.mov (.tmp 9)), .none⟩]
def p64_6 : List PO := [⟨(.some 10), (.mov (.tmp 1)), .none⟩, ⟨(.some 11), (.cvI .i64 (.tmp 10)), .none⟩, ⟨(.some 4), (.mov (.tmp 11)), .none⟩]
def p64_7 : List PO := [⟨(.some 13), (.mov (.tmp 1)), .none⟩, ⟨(.some 14), (.cmpI .gtr (.tmp 13) (.const (.int .u8 127))), .none⟩, ⟨(.some 12), (.mov (.tmp 14)), .none⟩]
def p64_8 : List PO := [⟨(.some 4), (.mov (.const (.int .i64 65533))), .none⟩]
def p64_9 : List PO := [⟨(.some 16), (.mov (.tmp 0)), .none⟩, ⟨(.some 17), (.cmpI .eql (.tmp 16) (.const (.int .i64 4))), .none⟩, ⟨(.some 18), (.mov (.tmp 17)), .none⟩, ⟨(.some 19), (.mov (.tmp 1)), (.some (18, .true))⟩, ⟨(.some 20), (.cmpI .eql (.tmp 19) (.const (.int .u8 35))), (.some (18, .true))⟩, ⟨(.some 21), (.pick (.tmp 18) (.tmp 20) (.const (.bool .false))), .none⟩, ⟨(.some 15), (.mov (.tmp 21)), .none⟩]
def p64_10 : List PO := [⟨(.some 4), (.mov (.const (.int .i64 163))), .none⟩]
def p64_11 : List PO := [⟨(.some 23), (.mov (.tmp 0)), .none⟩, ⟨(.some 24), (.cmpI .eql (.tmp 23) (.const (.int .i64 3))), .none⟩, ⟨(.some 25), (.mov (.tmp 24)), .none⟩, ⟨(.some 26), (.mov (.tmp 1)), (.some (25, .true))⟩, ⟨(.some 27), (.cmpI .geq (.tmp 26) (.const (.int .u8 95))), (.some (25, .true))⟩, ⟨(.some 28), (.pick (.tmp 25) (.tmp 27) (.const (.bool .false))), .none⟩, ⟨(.some 29), (.mov (.tmp 28)), .none⟩, ⟨(.some 30), (.mov (.tmp 1)), (.some (29, .true))⟩, ⟨(.some 31), (.cmpI .leq (.tmp 30) (.const (.int .u8 126))), (.some (29, .true))⟩, ⟨(.some 32), (.pick (.tmp 29) (.tmp 31) (.const (.bool .false))), .none⟩, ⟨(.some 22), (.mov (.tmp 32)), .none⟩]
def p64_12 : List PO := [⟨(.some 33), (.mov (.tmp 1)), .none⟩, ⟨(.some 34), (.arI .sub (.tmp 33) (.const (.int .u8 95))), .none⟩, ⟨(.some 35), (.ixA 32 1 (.tmp 5) (.tmp 34)), .none⟩, ⟨(.some 36), (.load .false 1 (.tmp 35)), .none⟩, ⟨(.some 4), (.mov (.tmp 36)), .none⟩]
def c64_1 : PCode := (.keep [0, 1, 5] [(48, .id 48)] [] (.seq (.reg p64_11) (.cond (.tmp 22) (.seq (.reg p64_12) .ret) .skip)))
def c64_13 : PCode := (.block 0 (.seq (.reg p64_5) (.cond (.tmp 7) (.seq (.reg p64_6) .ret) (.seq (.reg p64_7) (.cond (.tmp 12) (.seq (.reg p64_8) .ret) (.seq (.reg p64_9) (.cond (.tmp 15) (.seq (.reg p64_10) .ret) c64_1)))))))
def p64_14 : List PO := [⟨(.some 37), (.mov (.tmp 1)), .none⟩, ⟨(.some 38), (.cvI .i64 (.tmp 37)), .none⟩, ⟨(.some 4), (.mov (.tmp 38)), .none⟩]
def c64_2 : PCode := (.seq (.reg p64_14) .ret)
def c64_b : PCode := (.seq (.reg p64_3) (.seq (.reg p64_4) (.seq c64_13 c64_2)))
def c64 : FCode := ⟨39, c64_b, [(.tmp 4)], some ([4], [], []), false⟩
theorem c64_ok : compF Go.Proofs.Tryd.prog [100006, 100012, 100014, 16, 27, 28, 29, 30, 32, 36, 41, 42, 44, 46, 48, 50, 51, 52, 53, 57, 58, 59, 60, 67, 69, 70, 72, 73, 75, 76, 78, 81, 82, 83, 85] 64 = some (eraseF c64) := by kernel_rfl
def p40_1 : List PO := [⟨(.some 4), (.mov (.const (.int .i64 0))), .none⟩, ⟨(.some 5), (.mov (.const (.int .i64 0))), .none⟩]
def p40_2 : List PO := [⟨(.some 6), (.mov (.tmp 0)), .none⟩, ⟨(.some 7), (.call 23 [(.tmp 6)]), .none⟩, ⟨(.some 8), (.un .not (.tmp 7)), .none⟩]
def p40_3 : List PO := [⟨(.some 4), (.mov (.const (.int .i64 0))), .none⟩, ⟨(.some 5), (.mov (.const (.int .i64 6))), .none⟩]
def p40_4 : List PO := [⟨(.some 9), (.mov (.tmp 0)), .none⟩, ⟨(.some 10), (.mov (.tmp 1)), .none⟩, ⟨(.some 11), (.call 64 [(.tmp 9), (.tmp 10)]), .none⟩, ⟨(.some 4), (.mov (.tmp 11)), .none⟩, ⟨(.some 5), (.mov (.const (.int .i64 0))), .none⟩]
def c40_b : PCode := (.seq (.reg p40_1) (.seq (.seq (.reg p40_2) (.cond (.tmp 8) (.seq (.reg p40_3) .ret) .skip)) (.seq (.reg p40_4) .ret)))
def c40 : FCode := ⟨12, c40_b, [(.tmp 4), (.tmp 5)], some ([4, 5], [], []), false⟩
theorem c40_ok : compF Go.Proofs.Tryd.prog [100006, 100012, 100014, 16, 27, 28, 29, 30, 32, 36, 41, 42, 44, 46, 48, 50, 51, 52, 53, 57, 58, 59, 60, 67, 69, 70, 72, 73, 75, 76, 78, 81, 82, 83, 85] 40 = some (eraseF c40) := by kernel_rfl
def p65_1 : List PO := [⟨(.some 6), (.mov (.const (.int .i64 0))), .none⟩]
def p65_2 : List PO := [⟨(.some 7), (.mov (.tmp 1)), .none⟩, ⟨(.some 8), (.mov (.tmp 0)), .none⟩, ⟨(.some 9), (.mov (.tmp 2)), .none⟩, ⟨(.some 10), (.mn [(.tmp 8), (.tmp 9)]), .none⟩, ⟨(.some 11), (.mx [(.tmp 7), (.tmp 10)]), .none⟩, ⟨(.some 6), (.mov (.tmp 11)), .none⟩]
def c65_b : PCode := (.seq (.reg p65_1) (.seq (.reg p65_2) .ret))
def c65 : FCode := ⟨12, c65_b, [(.tmp 6)], some ([6], [], []), false⟩
theorem c65_ok : compF Go.Proofs.Tryd.prog [100006, 100012, 100014, 16, 27, 28, 29, 30, 32, 36, 41, 42, 44, 46, 48, 50, 51, 52, 53, 57, 58, 59, 60, 67, 69, 70, 72, 73, 75, 76, 78, 81, 82, 83, 85] 65 = some (eraseF c65) := by kernel_rfl
def p41_1 : List PO := [⟨(.some 4), (.mov (.tmp 0)), .none⟩, ⟨(.some 5), (.nilC (.tmp 4)), .none⟩, ⟨(.some 6), (.fld 0 (.tmp 5)), .none⟩, ⟨(.some 7), (.fld 5 (.tmp 6)), .none⟩, ⟨.none, (.store 1 (.tmp 7) (.const (.bool .false))), .none⟩]
def p41_2 : List PO := [⟨(.some 8), (.mov (.tmp 0)), .none⟩, ⟨(.some 9), (.mov (.tmp 1)), .none⟩, ⟨(.some 10), (.mov (.tmp 0)), .none⟩, ⟨(.some 11), (.nilC (.tmp 10)), .none⟩, ⟨(.some 12), (.fld 0 (.tmp 11)), .none⟩, ⟨(.some 13), (.fld 0 (.tmp 12)), .none⟩, ⟨(.some 14), (.fld 0 (.tmp 13)), .none⟩, ⟨(.some 15), (.load .false 1 (.tmp 14)), .none⟩, ⟨(.some 16), (.arI .sub (.tmp 15) (.const (.int .i64 1))), .none⟩, ⟨(.some 17), (.call 65 [(.tmp 9), (.const (.int .i64 0)), (.tmp 16)]), .none⟩, ⟨(.some 18), (.nilC (.tmp 8)), .none⟩, ⟨(.some 19), (.fld 0 (.tmp 18)), .none⟩, ⟨(.some 20), (.fld 4 (.tmp 19)), .none⟩, ⟨.none, (.store 1 (.tmp 20) (.tmp 17)), .none⟩]
def c41_b : PCode := (.seq (.reg p41_1) (.reg p41_2))
def c41 : FCode := ⟨21, c41_b, [], some ([2000000], [(0, .id 0), (1, .id 1), (2, .id 2), (3, .id 3)], []), false⟩
theorem c41_ok : compF Go.Proofs.Tryd.prog [100006, 100012, 100014, 16, 27, 28, 29, 30, 32, 36, 41, 42, 44, 46, 48, 50, 51, 52, 53, 57, 58, 59, 60, 67, 69, 70, 72, 73, 75, 76, 78, 81, 82, 83, 85] 41 = some (eraseF c41) := by kernel_rfl
def p43_1 : List PO := [⟨(.some 4), (.mov (.const (.bool .false))), .none⟩]
def p43_2 : List PO := [⟨(.some 5), (.mov (.tmp 0)), .none⟩, ⟨(.some 6), (.nilC (.tmp 5)), .none⟩, ⟨(.some 7), (.fld 0 (.tmp 6)), .none⟩, ⟨(.some 8), (.fld 11 (.tmp 7)), .none⟩, ⟨(.some 9), (.load .false 1 (.tmp 8)), .none⟩, ⟨(.some 10), (.mov (.tmp 1)), .none⟩, ⟨(.some 11), (.arI .and (.tmp 9) (.tmp 10)), .none⟩, ⟨(.some 12), (.cmpI .neq (.tmp 11) (.const (.int .i64 0))), .none⟩, ⟨(.some 4), (.mov (.tmp 12)), .none⟩]
def c43_b : PCode := (.seq (.reg p43_1) (.seq (.reg p43_2) .ret))
def c43 : FCode := ⟨13, c43_b, [(.tmp 4)], some ([4], [], []), false⟩
theorem c43_ok : compF Go.Proofs.Tryd.prog [100006, 100012, 100014, 16, 27, 28, 29, 30, 32, 36, 41, 42, 44, 46, 48, 50, 51, 52, 53, 57, 58, 59, 60, 67, 69, 70, 72, 73, 75, 76, 78, 81, 82, 83, 85] 43 = some (eraseF c43) := by kernel_rfl
def p45_1 : List PO := [⟨(.some 2), (.alloc [(3, (.int .i64 0))]), .none⟩]
def p45_2 : List PO := [⟨(.some 3), (.mov (.tmp 0)), .none⟩, ⟨(.some 4), (.nilC (.tmp 3)), .none⟩, ⟨(.some 5), (.fld 0 (.tmp 4)), .none⟩, ⟨(.some 6), (.fld 8 (.tmp 5)), .none⟩, ⟨(.some 7), (.fld 2 (.tmp 6)), .none⟩, ⟨(.some 8), (.load .false 1 (.tmp 7)), .none⟩, ⟨(.some 9), (.build [(3, (.int .i64 0))] [(2, (1, (.tmp 8)))]), .none⟩, ⟨.none, (.store 3 (.tmp 2) (.tmp 9)), .none⟩]
def c45_b : PCode := (.seq (.reg p45_1) (.seq (.reg p45_2) .ret))
def c45 : FCode := ⟨10, c45_b, [(.cell 2 .true 3)], some ([2], [(24, .id 24)], []), false⟩
theorem c45_ok : compF Go.Proofs.Tryd.prog [100006, 100012, 100014, 16, 27, 28, 29, 30, 32, 36, 41, 42, 44, 46, 48, 50, 51, 52, 53, 57, 58, 59, 60, 67, 69, 70, 72, 73, 75, 76, 78, 81, 82, 83, 85] 45 = some (eraseF c45) := by kernel_rfl
def p42_2 : List PO := [⟨(.some 2), (.mov (.tmp 0)), .none⟩, ⟨(.some 3), (.nilC (.tmp 2)), .none⟩, ⟨(.some 4), (.fld 0 (.tmp 3)), .none⟩, ⟨(.some 5), (.fld 5 (.tmp 4)), .none⟩, ⟨.none, (.store 1 (.tmp 5) (.const (.bool .false))), .none⟩]
def p42_3 : List PO := [⟨(.some 7), (.mov (.tmp 0)), .none⟩, ⟨(.some 8), (.nilC (.tmp 7)), .none⟩, ⟨(.some 9), (.fld 0 (.tmp 8)), .none⟩, ⟨(.some 10), (.fld 3 (.tmp 9)), .none⟩, ⟨(.some 11), (.load .false 1 (.tmp 10)), .none⟩, ⟨(.some 12), (.mov (.tmp 0)), .none⟩, ⟨(.some 13), (.nilC (.tmp 12)), .none⟩, ⟨(.some 14), (.fld 0 (.tmp 13)), .none⟩, ⟨(.some 15), (.fld 7 (.tmp 14)), .none⟩, ⟨(.some 16), (.load .false 1 (.tmp 15)), .none⟩, ⟨(.some 17), (.arI .sub (.tmp 16) (.const (.int .i64 1))), .none⟩, ⟨(.some 18), (.cmpI .eql (.tmp 11) (.tmp 17)), .none⟩, ⟨(.some 6), (.mov (.tmp 18)), .none⟩]
def p42_4 : List PO := [⟨(.some 19), (.mov (.tmp 0)), .none⟩, ⟨(.some 20), (.nilC (.tmp 19)), .none⟩, ⟨(.some 21), (.fld 0 (.tmp 20)), .none⟩, ⟨(.some 22), (.fld 6 (.tmp 21)), .none⟩, ⟨(.some 23), (.load .false 1 (.tmp 22)), .none⟩, ⟨(.some 24), (.cmpI .eql (.tmp 23) (.const (.int .i64 0))), .none⟩, ⟨(.some 25), (.mov (.tmp 24)), .none⟩, ⟨(.some 26), (.mov (.tmp 0)), (.some (25, .true))⟩, ⟨(.some 27), (.call 43 [(.tmp 26), (.const (.int .i64 256))]), (.some (25, .true))⟩, ⟨(.some 28), (.un .not (.tmp 27)), (.some (25, .true))⟩, ⟨(.some 29), (.pick (.tmp 25) (.tmp 28) (.const (.bool .false))), .none⟩]
def p42_5 : List PO := [⟨(.some 30), (.mov (.tmp 0)), .none⟩, ⟨(.some 31), (.mov (.tmp 0)), .none⟩, ⟨(.some 32), (.nilC (.tmp 31)), .none⟩, ⟨(.some 33), (.fld 0 (.tmp 32)), .none⟩, ⟨(.some 34), (.fld 32 (.tmp 33)), .none⟩, ⟨(.some 35), (.load .false 1 (.tmp 34)), .none⟩, ⟨(.some 36), (.mov (.tmp 0)), .none⟩, ⟨(.some 37), (.nilC (.tmp 36)), .none⟩, ⟨(.some 38), (.fld 0 (.tmp 37)), .none⟩, ⟨(.some 39), (.fld 0 (.tmp 38)), .none⟩, ⟨(.some 40), (.load .true 3 (.tmp 39)), .none⟩, ⟨(.some 41), (.call 66 [(.tmp 40), (.const (.int .i64 0))]), .none⟩, ⟨(.some 42), (.build [(1, (.slice .none 0 0))] [(0, (1, (.tmp 41)))]), .none⟩, ⟨(.some 43), (.bsl 73 1 1 [(1, (.slice .none 0 0))] [(0, (1, (.tmp 42)))]), .none⟩, ⟨(.some 44), (.app 73 1 24 (.tmp 35) (.tmp 43)), .none⟩, ⟨(.some 45), (.nilC (.tmp 30)), .none⟩, ⟨(.some 46), (.fld 0 (.tmp 45)), .none⟩, ⟨(.some 47), (.fld 32 (.tmp 46)), .none⟩, ⟨.none, (.store 1 (.tmp 47) (.tmp 44)), .none⟩]
def p42_6 : List PO := [⟨(.some 48), (.mov (.tmp 0)), .none⟩, ⟨(.some 49), (.nilC (.tmp 48)), .none⟩, ⟨(.some 50), (.fld 0 (.tmp 49)), .none⟩, ⟨(.some 51), (.fld 32 (.tmp 50)), .none⟩, ⟨(.some 52), (.load .false 1 (.tmp 51)), .none⟩, ⟨(.some 53), (.len .false (.tmp 52)), .none⟩, ⟨(.some 54), (.cmpI .gtr (.tmp 53) (.const (.int .i64 40))), .none⟩]
def p42_7 : List PO := [⟨(.some 55), (.mov (.tmp 0)), .none⟩, ⟨(.some 56), (.mov (.tmp 0)), .none⟩, ⟨(.some 57), (.nilC (.tmp 56)), .none⟩, ⟨(.some 58), (.fld 0 (.tmp 57)), .none⟩, ⟨(.some 59), (.fld 32 (.tmp 58)), .none⟩, ⟨(.some 60), (.load .false 1 (.tmp 59)), .none⟩, ⟨(.some 61), (.slS 73 1 (.tmp 60) (.some (.const (.int .i64 1))) .none), .none⟩, ⟨(.some 62), (.nilC (.tmp 55)), .none⟩, ⟨(.some 63), (.fld 0 (.tmp 62)), .none⟩, ⟨(.some 64), (.fld 32 (.tmp 63)), .none⟩, ⟨.none, (.store 1 (.tmp 64) (.tmp 61)), .none⟩]
def p42_8 : List PO := [⟨(.some 65), (.mov (.tmp 0)), .none⟩, ⟨(.some 66), (.nilC (.tmp 65)), .none⟩, ⟨(.some 67), (.fld 0 (.tmp 66)), .none⟩, ⟨(.some 68), (.fld 0 (.tmp 67)), .none⟩, ⟨(.some 69), (.load .true 3 (.tmp 68)), .none⟩, ⟨(.some 70), (.mov (.tmp 0)), .none⟩, ⟨(.some 71), (.nilC (.tmp 70)), .none⟩, ⟨(.some 72), (.fld 0 (.tmp 71)), .none⟩, ⟨(.some 73), (.fld 6 (.tmp 72)), .none⟩, ⟨(.some 74), (.load .false 1 (.tmp 73)), .none⟩, ⟨(.some 75), (.mov (.tmp 0)), .none⟩, ⟨(.some 76), (.nilC (.tmp 75)), .none⟩, ⟨(.some 77), (.fld 0 (.tmp 76)), .none⟩, ⟨(.some 78), (.fld 7 (.tmp 77)), .none⟩, ⟨(.some 79), (.load .false 1 (.tmp 78)), .none⟩, ⟨(.some 80), (.mov (.tmp 0)), .none⟩, ⟨(.some 81), (.call 45 [(.tmp 80)]), .none⟩, ⟨(.some 82), (.callr 67 [(.tmp 69), (.tmp 74), (.tmp 79), (.const (.int .i64 1)), (.tmp 81)]), .none⟩]
def c42_1 : PCode := (.keep [0, 1000001, 1000002, 1000003] [(0, .id 0), (1, .id 1), (2, .id 2), (3, .id 3)] [] (.regD p42_8 [(4, 16), (9, 16), (14, 16)]))
def p42_9 : List PO := [⟨(.some 84), (.mov (.tmp 0)), .none⟩, ⟨(.some 85), (.nilC (.tmp 84)), .none⟩, ⟨(.some 86), (.fld 0 (.tmp 85)), .none⟩, ⟨(.some 87), (.fld 3 (.tmp 86)), .none⟩, ⟨(.some 88), (.load .false 1 (.tmp 87)), .none⟩, ⟨(.some 89), (.mov (.tmp 0)), .none⟩, ⟨(.some 90), (.nilC (.tmp 89)), .none⟩, ⟨(.some 91), (.fld 0 (.tmp 90)), .none⟩, ⟨(.some 92), (.fld 0 (.tmp 91)), .none⟩, ⟨(.some 93), (.fld 1 (.tmp 92)), .none⟩, ⟨(.some 94), (.load .false 1 (.tmp 93)), .none⟩, ⟨(.some 95), (.arI .sub (.tmp 94) (.const (.int .i64 1))), .none⟩, ⟨(.some 96), (.cmpI .lss (.tmp 88) (.tmp 95)), .none⟩, ⟨(.some 83), (.mov (.tmp 96)), .none⟩]
def p42_10 : List PO := [⟨(.some 97), (.mov (.tmp 0)), .none⟩, ⟨(.some 98), (.nilC (.tmp 97)), .none⟩, ⟨(.some 99), (.fld 0 (.tmp 98)), .none⟩, ⟨(.some 100), (.fld 3 (.tmp 99)), .none⟩, ⟨(.some 101), (.load .false 1 (.tmp 100)), .none⟩, ⟨(.some 102), (.arI .add (.tmp 101) (.const (.int .i64 1))), .none⟩, ⟨(.some 103), (.nilC (.tmp 97)), .none⟩, ⟨(.some 104), (.fld 0 (.tmp 103)), .none⟩, ⟨(.some 105), (.fld 3 (.tmp 104)), .none⟩, ⟨.none, (.store 1 (.tmp 105) (.tmp 102)), .none⟩]
def c42_11 : PCode := (.cond (.tmp 6) (.seq (.seq (.reg p42_4) (.cond (.tmp 29) (.seq (.regD p42_5 [(5, 11), (5, 13)]) (.seq (.reg p42_6) (.cond (.tmp 54) (.reg p42_7) .skip))) .skip)) c42_1) (.seq (.regD p42_9 []) (.cond (.tmp 83) (.reg p42_10) .skip)))
def c42_b : PCode := (.seq (.reg p42_2) (.block 0 (.seq (.regD p42_3 []) c42_11)))
def c42 : FCode := ⟨106, c42_b, [], some ([1000001, 1000002, 1000003], [(0, .id 0), (1, .id 1), (2, .id 2), (3, .id 3)], []), false⟩
theorem c42_ok : compF Go.Proofs.Tryd.prog [100006, 100012, 100014, 16, 27, 28, 29, 30, 32, 36, 41, 42, 44, 46, 48, 50, 51, 52, 53, 57, 58, 59, 60, 67, 69, 70, 72, 73, 75, 76, 78, 81, 82, 83, 85] 42 = some (eraseF c42) := by kernel_rfl
def p70_4 : List PO := [⟨(.some 4), (.mov (.tmp 0)), .none⟩, ⟨(.some 5), (.call 20 [(.tmp 4)]), .none⟩, ⟨(.some 2), (.mov (.tmp 5)), .none⟩]
def p70_5 : List PO := [⟨(.some 6), (.mov (.tmp 0)), .none⟩, ⟨(.some 7), (.len .false (.tmp 6)), .none⟩, ⟨(.some 8), (.mov (.const (.int .i64 0))), .none⟩]
def p70_6 : List PO := [⟨(.some 9), (.cmpI .lss (.tmp 8) (.tmp 7)), .none⟩]
def p70_7 : List PO := [⟨(.some 10), (.mov (.tmp 8)), .none⟩, ⟨(.some 3), (.mov (.tmp 10)), .none⟩]
def p70_8 : List PO := [⟨(.some 11), (.mov (.tmp 2)), .none⟩, ⟨(.some 12), (.mov (.tmp 3)), .none⟩, ⟨(.some 13), (.call 38 [(.tmp 11), (.tmp 12)]), .none⟩]
def p70_9 : List PO := [⟨(.some 14), (.mov (.tmp 0)), .none⟩, ⟨(.some 15), (.mov (.tmp 3)), .none⟩, ⟨(.some 16), (.mov (.tmp 2)), .none⟩, ⟨(.some 17), (.mov (.tmp 3)), .none⟩, ⟨(.some 18), (.ixS 46 4 (.tmp 16) (.tmp 17)), .none⟩, ⟨(.some 19), (.fld 1 (.tmp 18)), .none⟩, ⟨(.some 20), (.load .true 3 (.tmp 19)), .none⟩, ⟨(.some 21), (.call 35 [(.tmp 20)]), .none⟩, ⟨(.some 22), (.ixS 46 4 (.tmp 14) (.tmp 15)), .none⟩, ⟨.none, (.store 4 (.tmp 22) (.tmp 21)), .none⟩]
def p70_10 : List PO := [⟨(.some 23), (.arI .add (.tmp 8) (.const (.int .i64 1))), .none⟩, ⟨(.some 8), (.mov (.tmp 23)), .none⟩]
def c70_1 : PCode := (.keep [0, 2, 7, 8] [(0, .id 0), (48, .id 48)] [] (.seq (.block 1 (.seq (.reg p70_7) (.seq (.reg p70_8) (.cond (.tmp 13) (.reg p70_9) .skip)))) (.reg p70_10)))
def c70_2 : PCode := (.keep [0, 2, 7, 8, 9] [(0, .id 0), (48, .id 48)] [] (.seq (.cond (.tmp 9) .skip (.keep [] [(0, .id 0)] [] (.exit 0))) c70_1))
def c70_3 : PCode := (.keep [0, 2, 7, 8] [(0, .id 0), (48, .id 48)] [] (.seq (.reg p70_6) c70_2))
def c70_b : PCode := (.seq (.reg p70_4) (.seq (.reg p70_5) (.block 0 (.loop c70_3))))
def c70 : FCode := ⟨24, c70_b, [], some ([2000000], [(0, .id 0)], []), false⟩
theorem c70_ok : compF Go.Proofs.Tryd.prog [100006, 100012, 100014, 16, 27, 28, 29, 30, 32, 36, 41, 42, 44, 46, 48, 50, 51, 52, 53, 57, 58, 59, 60, 67, 69, 70, 72, 73, 75, 76, 78, 81, 82, 83, 85] 70 = some (eraseF c70) := by kernel_rfl
def p46_1 : List PO := [⟨(.some 5), (.box 3 (.tmp 0)), .none⟩, ⟨(.some 9), (.box 3 (.tmp 4)), .none⟩]
def p46_2 : List PO := [⟨(.some 11), (.load .true 3 (.tmp 5)), .none⟩, ⟨(.some 12), (.mov (.tmp 1)), .none⟩, ⟨(.some 13), (.callr 36 [(.tmp 11), (.tmp 12)]), .none⟩, ⟨(.some 10), (.mov (.tmp 13)), .none⟩]
def p46_3 : List PO := [⟨(.some 14), (.mov (.tmp 10)), .none⟩, ⟨(.some 15), (.mov (.tmp 2)), .none⟩, ⟨(.some 16), (.mov (.tmp 3)), .none⟩, ⟨(.some 17), (.load .true 3 (.tmp 9)), .none⟩, ⟨(.some 18), (.build [(4, (.int .i64 0))] [(0, (1, (.tmp 16))), (1, (3, (.tmp 17)))]), .none⟩, ⟨(.some 19), (.ixS 46 4 (.tmp 14) (.tmp 15)), .none⟩, ⟨.none, (.store 4 (.tmp 19) (.tmp 18)), .none⟩]
def p46_4 : List PO := [⟨(.some 20), (.mov (.tmp 3)), .none⟩, ⟨(.some 21), (.call 37 [(.tmp 20)]), .none⟩, ⟨(.some 22), (.cmpI .eql (.tmp 21) (.const (.int .i64 2))), .none⟩]
def p46_5 : List PO := [⟨(.some 23), (.mov (.tmp 10)), .none⟩, ⟨(.some 24), (.mov (.tmp 2)), .none⟩, ⟨(.some 25), (.arI .add (.tmp 24) (.const (.int .i64 1))), .none⟩, ⟨(.some 26), (.load .true 3 (.tmp 9)), .none⟩, ⟨(.some 27), (.build [(4, (.int .i64 0))] [(1, (3, (.tmp 26)))]), .none⟩, ⟨(.some 28), (.ixS 46 4 (.tmp 23) (.tmp 25)), .none⟩, ⟨.none, (.store 4 (.tmp 28) (.tmp 27)), .none⟩]
def p46_6 : List PO := [⟨(.some 29), (.mov (.tmp 10)), .none⟩, ⟨(.some 30), (.callr 70 [(.tmp 29)]), .none⟩]
def c46_b : PCode := (.seq (.reg p46_1) (.seq (.reg p46_2) (.seq (.reg p46_3) (.seq (.seq (.reg p46_4) (.cond (.tmp 22) (.reg p46_5) .skip)) (.reg p46_6)))))
def c46 : FCode := ⟨31, c46_b, [], some ([2000000], [(0, .id 0)], []), false⟩
theorem c46_ok : compF Go.Proofs.Tryd.prog [100006, 100012, 100014, 16, 27, 28, 29, 30, 32, 36, 41, 42, 44, 46, 48, 50, 51, 52, 53, 57, 58, 59, 60, 67, 69, 70, 72, 73, 75, 76, 78, 81, 82, 83, 85] 46 = some (eraseF c46) := by kernel_rfl
def p27_8 : List PO := [⟨(.some 6), (.mov (.tmp 1)), .none⟩, ⟨(.some 7), (.cmpI .geq (.tmp 6) (.const (.int .i64 0))), .none⟩, ⟨(.some 8), (.mov (.tmp 7)), .none⟩, ⟨(.some 9), (.mov (.tmp 1)), (.some (8, .true))⟩, ⟨(.some 10), (.cmpI .leq (.tmp 9) (.const (.int .i64 127))), (.some (8, .true))⟩, ⟨(.some 11), (.pick (.tmp 8) (.tmp 10) (.const (.bool .false))), .none⟩]
def p27_9 : List PO := [⟨(.some 13), (.mov (.tmp 0)), .none⟩, ⟨(.some 14), (.mov (.tmp 0)), .none⟩, ⟨(.some 15), (.nilC (.tmp 14)), .none⟩, ⟨(.some 16), (.fld 0 (.tmp 15)), .none⟩, ⟨(.some 17), (.fld 18 (.tmp 16)), .none⟩, ⟨(.some 18), (.load .false 1 (.tmp 17)), .none⟩, ⟨(.some 19), (.nilC (.tmp 13)), .none⟩, ⟨(.some 20), (.fld 0 (.tmp 19)), .none⟩, ⟨(.some 21), (.fld 16 (.tmp 20)), .none⟩, ⟨(.some 22), (.ixA 2 1 (.tmp 21) (.tmp 18)), .none⟩, ⟨(.some 23), (.load .false 1 (.tmp 22)), .none⟩, ⟨(.some 24), (.mov (.tmp 1)), .none⟩, ⟨(.some 25), (.cvI .u8 (.tmp 24)), .none⟩, ⟨(.some 26), (.call 40 [(.tmp 23), (.tmp 25)]), .none⟩, ⟨(.some 12), (.mov (.tmp 26)), .none⟩, ⟨(.some 27), (.ext (.tmp 12) 0), .none⟩, ⟨(.some 28), (.ext (.tmp 12) 1), .none⟩, ⟨(.some 1), (.mov (.tmp 27)), .none⟩]
def c27_7 : PCode := (.keep [0, 1, 1000001, 1000002, 1000003] [(0, .id 0), (1, .id 1), (2, .id 2), (3, .id 3)] [] .skip)
def p27_10 : List PO := [⟨(.some 29), (.mov (.tmp 1)), .none⟩, ⟨(.some 30), (.call 37 [(.tmp 29)]), .none⟩, ⟨(.some 31), (.mov (.tmp 0)), .none⟩, ⟨(.some 32), (.nilC (.tmp 31)), .none⟩, ⟨(.some 33), (.fld 0 (.tmp 32)), .none⟩, ⟨(.some 34), (.fld 0 (.tmp 33)), .none⟩, ⟨(.some 35), (.fld 0 (.tmp 34)), .none⟩, ⟨(.some 36), (.load .false 1 (.tmp 35)), .none⟩, ⟨(.some 37), (.arI .sub (.tmp 36) (.const (.int .i64 1))), .none⟩, ⟨(.some 4), (.mov (.tmp 30)), .none⟩, ⟨(.some 5), (.mov (.tmp 37)), .none⟩]
def p27_11 : List PO := [⟨(.some 38), (.mov (.tmp 4)), .none⟩, ⟨(.some 39), (.cmpI .eql (.tmp 38) (.const (.int .i64 0))), .none⟩, ⟨(.some 40), (.mov (.tmp 39)), .none⟩, ⟨(.some 41), (.mov (.tmp 4)), (.some (40, .false))⟩, ⟨(.some 42), (.mov (.tmp 0)), (.some (40, .false))⟩, ⟨(.some 43), (.nilC (.tmp 42)), (.some (40, .false))⟩, ⟨(.some 44), (.fld 0 (.tmp 43)), (.some (40, .false))⟩, ⟨(.some 45), (.fld 0 (.tmp 44)), (.some (40, .false))⟩, ⟨(.some 46), (.fld 0 (.tmp 45)), (.some (40, .false))⟩, ⟨(.some 47), (.load .false 1 (.tmp 46)), (.some (40, .false))⟩, ⟨(.some 48), (.cmpI .gtr (.tmp 41) (.tmp 47)), (.some (40, .false))⟩, ⟨(.some 49), (.pick (.tmp 40) (.const (.bool .true)) (.tmp 48)), .none⟩]
def p27_12 : List PO := [⟨(.some 50), (.mov (.tmp 0)), .none⟩, ⟨(.some 51), (.nilC (.tmp 50)), .none⟩, ⟨(.some 52), (.fld 0 (.tmp 51)), .none⟩, ⟨(.some 53), (.fld 5 (.tmp 52)), .none⟩, ⟨(.some 54), (.load .false 1 (.tmp 53)), .none⟩]
def p27_13 : List PO := [⟨(.some 55), (.mov (.tmp 0)), .none⟩, ⟨(.some 56), (.callr 41 [(.tmp 55), (.const (.int .i64 0))]), .none⟩]
def p27_14 : List PO := [⟨(.some 57), (.mov (.tmp 0)), .none⟩, ⟨(.some 58), (.callr 42 [(.tmp 57)]), .none⟩]
def p27_15 : List PO := [⟨(.some 59), (.mov (.tmp 4)), .none⟩, ⟨(.some 60), (.cmpI .eql (.tmp 59) (.const (.int .i64 2))), .none⟩, ⟨(.some 61), (.mov (.tmp 60)), .none⟩, ⟨(.some 62), (.mov (.tmp 0)), (.some (61, .true))⟩, ⟨(.some 63), (.nilC (.tmp 62)), (.some (61, .true))⟩, ⟨(.some 64), (.fld 0 (.tmp 63)), (.some (61, .true))⟩, ⟨(.some 65), (.fld 4 (.tmp 64)), (.some (61, .true))⟩, ⟨(.some 66), (.load .false 1 (.tmp 65)), (.some (61, .true))⟩, ⟨(.some 67), (.mov (.tmp 5)), (.some (61, .true))⟩, ⟨(.some 68), (.cmpI .eql (.tmp 66) (.tmp 67)), (.some (61, .true))⟩, ⟨(.some 69), (.pick (.tmp 61) (.tmp 68) (.const (.bool .false))), .none⟩]
def p27_16 : List PO := [⟨(.some 70), (.mov (.tmp 0)), .none⟩, ⟨(.some 71), (.call 43 [(.tmp 70), (.const (.int .i64 4))]), .none⟩, ⟨(.some 72), (.un .not (.tmp 71)), .none⟩]
def p27_17 : List PO := [⟨(.some 73), (.mov (.tmp 0)), .none⟩, ⟨(.some 74), (.callr 41 [(.tmp 73), (.const (.int .i64 0))]), .none⟩]
def p27_18 : List PO := [⟨(.some 75), (.mov (.tmp 0)), .none⟩, ⟨(.some 76), (.callr 42 [(.tmp 75)]), .none⟩]
def c27_3 : PCode := (.keep [0, 1, 4, 5, 1000001, 1000002, 1000003] [(0, .id 0), (1, .id 1), (2, .id 2), (3, .id 3)] [] .skip)
def p27_19 : List PO := [⟨(.some 77), (.mov (.tmp 0)), .none⟩, ⟨(.some 78), (.call 43 [(.tmp 77), (.const (.int .i64 1))]), .none⟩]
def p27_20 : List PO := [⟨(.some 79), (.mov (.tmp 0)), .none⟩, ⟨(.some 80), (.nilC (.tmp 79)), .none⟩, ⟨(.some 81), (.fld 0 (.tmp 80)), .none⟩, ⟨(.some 82), (.fld 0 (.tmp 81)), .none⟩, ⟨(.some 83), (.load .true 3 (.tmp 82)), .none⟩, ⟨(.some 84), (.mov (.tmp 0)), .none⟩, ⟨(.some 85), (.nilC (.tmp 84)), .none⟩, ⟨(.some 86), (.fld 0 (.tmp 85)), .none⟩, ⟨(.some 87), (.fld 3 (.tmp 86)), .none⟩, ⟨(.some 88), (.load .false 1 (.tmp 87)), .none⟩, ⟨(.some 89), (.mov (.tmp 0)), .none⟩, ⟨(.some 90), (.nilC (.tmp 89)), .none⟩, ⟨(.some 91), (.fld 0 (.tmp 90)), .none⟩, ⟨(.some 92), (.fld 4 (.tmp 91)), .none⟩, ⟨(.some 93), (.load .false 1 (.tmp 92)), .none⟩, ⟨(.some 94), (.mov (.tmp 0)), .none⟩, ⟨(.some 95), (.nilC (.tmp 94)), .none⟩, ⟨(.some 96), (.fld 0 (.tmp 95)), .none⟩, ⟨(.some 97), (.fld 0 (.tmp 96)), .none⟩, ⟨(.some 98), (.fld 0 (.tmp 97)), .none⟩, ⟨(.some 99), (.load .false 1 (.tmp 98)), .none⟩, ⟨(.some 100), (.mov (.tmp 4)), .none⟩, ⟨(.some 101), (.mov (.tmp 0)), .none⟩, ⟨(.some 102), (.call 45 [(.tmp 101)]), .none⟩, ⟨(.some 103), (.callr 44 [(.tmp 83), (.tmp 88), (.tmp 93), (.tmp 99), (.tmp 100), (.tmp 102)]), .none⟩]
def p27_21 : List PO := [⟨(.some 104), (.mov (.tmp 0)), .none⟩, ⟨(.some 105), (.nilC (.tmp 104)), .none⟩, ⟨(.some 106), (.fld 0 (.tmp 105)), .none⟩, ⟨(.some 107), (.fld 0 (.tmp 106)), .none⟩, ⟨(.some 108), (.load .true 3 (.tmp 107)), .none⟩, ⟨(.some 109), (.mov (.tmp 0)), .none⟩, ⟨(.some 110), (.nilC (.tmp 109)), .none⟩, ⟨(.some 111), (.fld 0 (.tmp 110)), .none⟩, ⟨(.some 112), (.fld 3 (.tmp 111)), .none⟩, ⟨(.some 113), (.load .false 1 (.tmp 112)), .none⟩, ⟨(.some 114), (.mov (.tmp 0)), .none⟩, ⟨(.some 115), (.nilC (.tmp 114)), .none⟩, ⟨(.some 116), (.fld 0 (.tmp 115)), .none⟩, ⟨(.some 117), (.fld 4 (.tmp 116)), .none⟩, ⟨(.some 118), (.load .false 1 (.tmp 117)), .none⟩, ⟨(.some 119), (.mov (.tmp 1)), .none⟩, ⟨(.some 120), (.mov (.tmp 0)), .none⟩, ⟨(.some 121), (.nilC (.tmp 120)), .none⟩, ⟨(.some 122), (.fld 0 (.tmp 121)), .none⟩, ⟨(.some 123), (.fld 8 (.tmp 122)), .none⟩, ⟨(.some 124), (.load .true 3 (.tmp 123)), .none⟩, ⟨(.some 125), (.callr 46 [(.tmp 108), (.tmp 113), (.tmp 118), (.tmp 119), (.tmp 124)]), .none⟩]
def p27_22 : List PO := [⟨(.some 126), (.mov (.tmp 0)), .none⟩, ⟨(.some 127), (.nilC (.tmp 126)), .none⟩, ⟨(.some 128), (.fld 0 (.tmp 127)), .none⟩, ⟨(.some 129), (.fld 4 (.tmp 128)), .none⟩, ⟨(.some 130), (.load .false 1 (.tmp 129)), .none⟩, ⟨(.some 131), (.mov (.tmp 4)), .none⟩, ⟨(.some 132), (.arI .add (.tmp 130) (.tmp 131)), .none⟩, ⟨(.some 133), (.nilC (.tmp 126)), .none⟩, ⟨(.some 134), (.fld 0 (.tmp 133)), .none⟩, ⟨(.some 135), (.fld 4 (.tmp 134)), .none⟩, ⟨.none, (.store 1 (.tmp 135) (.tmp 132)), .none⟩]
def p27_23 : List PO := [⟨(.some 136), (.mov (.tmp 0)), .none⟩, ⟨(.some 137), (.nilC (.tmp 136)), .none⟩, ⟨(.some 138), (.fld 0 (.tmp 137)), .none⟩, ⟨(.some 139), (.fld 4 (.tmp 138)), .none⟩, ⟨(.some 140), (.load .false 1 (.tmp 139)), .none⟩, ⟨(.some 141), (.mov (.tmp 5)), .none⟩, ⟨(.some 142), (.cmpI .gtr (.tmp 140) (.tmp 141)), .none⟩]
def p27_24 : List PO := [⟨(.some 143), (.mov (.tmp 0)), .none⟩, ⟨(.some 144), (.mov (.tmp 0)), .none⟩, ⟨(.some 145), (.mov (.tmp 5)), .none⟩, ⟨(.some 146), (.mov (.tmp 0)), .none⟩, ⟨(.some 147), (.call 43 [(.tmp 146), (.const (.int .i64 4))]), .none⟩, ⟨(.some 148), (.nilC (.tmp 143)), .none⟩, ⟨(.some 149), (.fld 0 (.tmp 148)), .none⟩, ⟨(.some 150), (.fld 4 (.tmp 149)), .none⟩, ⟨.none, (.store 1 (.tmp 150) (.tmp 145)), .none⟩, ⟨(.some 151), (.nilC (.tmp 144)), .none⟩, ⟨(.some 152), (.fld 0 (.tmp 151)), .none⟩, ⟨(.some 153), (.fld 5 (.tmp 152)), .none⟩, ⟨.none, (.store 1 (.tmp 153) (.tmp 147)), .none⟩]
def c27_1 : PCode := (.keep [0, 1, 4, 5, 1000001, 1000002, 1000003] [(0, .id 0), (1, .id 1), (2, .id 2), (3, .id 3)] [] (.seq (.regD p27_21 []) (.seq (.reg p27_22) (.seq (.reg p27_23) (.cond (.tmp 142) (.reg p27_24) .skip)))))
def c27_2 : PCode := (.keep [0, 1, 4, 5, 1000001, 1000002, 1000003] [(0, .id 0), (1, .id 1), (2, .id 2), (3, .id 3)] [] (.seq (.seq (.reg p27_19) (.cond (.tmp 78) (.regD p27_20 [(4, 23), (9, 23), (14, 23), (20, 23)]) .skip)) c27_1))
def c27_4 : PCode := (.keep [0, 1, 4, 5, 1000001, 1000002, 1000003] [(0, .id 0), (1, .id 1), (2, .id 2), (3, .id 3)] [] (.seq (.seq (.reg p27_15) (.cond (.tmp 69) (.seq (.seq (.reg p27_16) (.cond (.tmp 72) .ret .skip)) (.seq (.reg p27_17) (.reg p27_18))) c27_3)) c27_2))
def c27_5 : PCode := (.keep [0, 1, 4, 5, 1000001, 1000002, 1000003] [(0, .id 0), (1, .id 1), (2, .id 2), (3, .id 3)] [] (.seq (.seq (.reg p27_12) (.cond (.tmp 54) (.seq (.reg p27_13) (.reg p27_14)) .skip)) c27_4))
def c27_6 : PCode := (.keep [0, 1, 1000001, 1000002, 1000003] [(0, .id 0), (1, .id 1), (2, .id 2), (3, .id 3)] [] (.seq (.regD p27_10 [(1, 7)]) (.seq (.seq (.reg p27_11) (.cond (.tmp 49) .ret .skip)) c27_5)))
def c27_b : PCode := (.seq (.seq (.reg p27_8) (.cond (.tmp 11) (.regD p27_9 []) c27_7)) c27_6)
def c27 : FCode := ⟨154, c27_b, [], some ([1000001, 1000002, 1000003], [(0, .id 0), (1, .id 1), (2, .id 2), (3, .id 3)], []), false⟩
theorem c27_ok : compF Go.Proofs.Tryd.prog [100006, 100012, 100014, 16, 27, 28, 29, 30, 32, 36, 41, 42, 44, 46, 48, 50, 51, 52, 53, 57, 58, 59, 60, 67, 69, 70, 72, 73, 75, 76, 78, 81, 82, 83, 85] 27 = some (eraseF c27) := by kernel_rfl
def p16_2 : List PO := [⟨(.some 3), (.box 6 (.tmp 1)), .none⟩]
def p16_3 : List PO := [⟨(.some 5), (.fld 0 (.tmp 3)), .none⟩, ⟨(.some 6), (.load .false 1 (.tmp 5)), .none⟩, ⟨(.some 7), (.cmpI .eql (.tmp 6) (.const (.int .i64 1))), .none⟩, ⟨(.some 4), (.mov (.tmp 7)), .none⟩]
def p16_4 : List PO := [⟨(.some 8), (.mov (.tmp 0)), .none⟩, ⟨(.some 9), (.fld 1 (.tmp 3)), .none⟩, ⟨(.some 10), (.load .false 1 (.tmp 9)), .none⟩, ⟨(.some 11), (.callr 27 [(.tmp 8), (.tmp 10)]), .none⟩]
def p16_5 : List PO := [⟨(.some 13), (.fld 0 (.tmp 3)), .none⟩, ⟨(.some 14), (.load .false 1 (.tmp 13)), .none⟩, ⟨(.some 15), (.cmpI .eql (.tmp 14) (.const (.int .i64 2))), .none⟩, ⟨(.some 12), (.mov (.tmp 15)), .none⟩]
def p16_6 : List PO := [⟨(.some 16), (.mov (.tmp 0)), .none⟩, ⟨(.some 17), (.fld 1 (.tmp 3)), .none⟩, ⟨(.some 18), (.load .false 1 (.tmp 17)), .none⟩, ⟨(.some 19), (.callr 28 [(.tmp 16), (.tmp 18)]), .none⟩]
def p16_7 : List PO := [⟨(.some 21), (.fld 0 (.tmp 3)), .none⟩, ⟨(.some 22), (.load .false 1 (.tmp 21)), .none⟩, ⟨(.some 23), (.cmpI .eql (.tmp 22) (.const (.int .i64 3))), .none⟩, ⟨(.some 24), (.mov (.tmp 23)), .none⟩, ⟨(.some 25), (.fld 3 (.tmp 3)), (.some (24, .true))⟩, ⟨(.some 26), (.load .false 1 (.tmp 25)), (.some (24, .true))⟩, ⟨(.some 27), (.strO .eql (.tmp 26) (.const (.string ⟨#[]⟩))), (.some (24, .true))⟩, ⟨(.some 28), (.pick (.tmp 24) (.tmp 27) (.const (.bool .false))), .none⟩, ⟨(.some 20), (.mov (.tmp 28)), .none⟩]
def p16_8 : List PO := [⟨(.some 29), (.mov (.tmp 0)), .none⟩, ⟨(.some 30), (.fld 1 (.tmp 3)), .none⟩, ⟨(.some 31), (.load .false 1 (.tmp 30)), .none⟩, ⟨(.some 32), (.callr 29 [(.tmp 29), (.tmp 31)]), .none⟩]
def p16_9 : List PO := [⟨(.some 34), (.fld 0 (.tmp 3)), .none⟩, ⟨(.some 35), (.load .false 1 (.tmp 34)), .none⟩, ⟨(.some 36), (.cmpI .eql (.tmp 35) (.const (.int .i64 3))), .none⟩, ⟨(.some 33), (.mov (.tmp 36)), .none⟩]
def p16_10 : List PO := [⟨(.some 37), (.mov (.tmp 0)), .none⟩, ⟨(.some 38), (.fld 3 (.tmp 3)), .none⟩, ⟨(.some 39), (.load .false 1 (.tmp 38)), .none⟩, ⟨(.some 40), (.fld 1 (.tmp 3)), .none⟩, ⟨(.some 41), (.load .false 1 (.tmp 40)), .none⟩, ⟨(.some 42), (.callr 30 [(.tmp 37), (.tmp 39), (.tmp 41)]), .none⟩]
def p16_11 : List PO := [⟨(.some 44), (.fld 0 (.tmp 3)), .none⟩, ⟨(.some 45), (.load .false 1 (.tmp 44)), .none⟩, ⟨(.some 46), (.cmpI .eql (.tmp 45) (.const (.int .i64 5))), .none⟩, ⟨(.some 43), (.mov (.tmp 46)), .none⟩]
def p16_12 : List PO := [⟨(.some 47), (.fld 5 (.tmp 3)), .none⟩, ⟨(.some 48), (.load .false 1 (.tmp 47)), .none⟩, ⟨(.some 49), (.call 31 [(.tmp 48), (.const (.string ⟨#[48, 59]⟩))]), .none⟩, ⟨(.some 50), (.mov (.tmp 49)), .none⟩, ⟨(.some 51), (.fld 5 (.tmp 3)), (.some (50, .false))⟩, ⟨(.some 52), (.load .false 1 (.tmp 51)), (.some (50, .false))⟩, ⟨(.some 53), (.call 31 [(.tmp 52), (.const (.string ⟨#[50, 59]⟩))]), (.some (50, .false))⟩, ⟨(.some 54), (.pick (.tmp 50) (.const (.bool .true)) (.tmp 53)), .none⟩]
def p16_13 : List PO := [⟨(.some 55), (.mov (.tmp 0)), .none⟩, ⟨(.some 56), (.fld 5 (.tmp 3)), .none⟩, ⟨(.some 57), (.load .false 1 (.tmp 56)), .none⟩, ⟨(.some 58), (.slStr (.tmp 57) (.some (.const (.int .i64 2))) .none), .none⟩, ⟨(.some 59), (.nilC (.tmp 55)), .none⟩, ⟨(.some 60), (.fld 0 (.tmp 59)), .none⟩, ⟨(.some 61), (.fld 31 (.tmp 60)), .none⟩, ⟨.none, (.store 1 (.tmp 61) (.tmp 58)), .none⟩]
def p16_14 : List PO := [⟨(.some 63), (.fld 0 (.tmp 3)), .none⟩, ⟨(.some 64), (.load .false 1 (.tmp 63)), .none⟩, ⟨(.some 65), (.cmpI .eql (.tmp 64) (.const (.int .i64 4))), .none⟩, ⟨(.some 66), (.mov (.tmp 65)), .none⟩, ⟨(.some 67), (.fld 3 (.tmp 3)), (.some (66, .true))⟩, ⟨(.some 68), (.load .false 1 (.tmp 67)), (.some (66, .true))⟩, ⟨(.some 69), (.strO .eql (.tmp 68) (.const (.string ⟨#[]⟩))), (.some (66, .true))⟩, ⟨(.some 70), (.pick (.tmp 66) (.tmp 69) (.const (.bool .false))), .none⟩, ⟨(.some 62), (.mov (.tmp 70)), .none⟩]
def p16_15 : List PO := [⟨(.some 71), (.mov (.tmp 0)), .none⟩, ⟨(.some 72), (.load .true 6 (.tmp 3)), .none⟩, ⟨(.some 73), (.callr 32 [(.tmp 71), (.tmp 72)]), .none⟩]
def c16_1 : PCode := (.keep [0, 3, 1000001, 1000002, 1000003] [(0, .id 0), (1, .id 1), (2, .id 2), (3, .id 3), (32, .id 32)] [] (.seq (.reg p16_9) (.cond (.tmp 33) (.reg p16_10) (.seq (.reg p16_11) (.cond (.tmp 43) (.seq (.reg p16_12) (.cond (.tmp 54) (.reg p16_13) .skip)) (.seq (.reg p16_14) (.cond (.tmp 62) (.reg p16_15) .skip)))))))
def c16_b : PCode := (.seq (.reg p16_2) (.block 0 (.seq (.reg p16_3) (.cond (.tmp 4) (.reg p16_4) (.seq (.reg p16_5) (.cond (.tmp 12) (.reg p16_6) (.seq (.reg p16_7) (.cond (.tmp 20) (.reg p16_8) c16_1))))))))
def c16 : FCode := ⟨74, c16_b, [], some ([1000001, 1000002, 1000003], [(0, .id 0), (1, .id 1), (2, .id 2), (3, .id 3)], []), false⟩
theorem c16_ok : compF Go.Proofs.Tryd.prog [100006, 100012, 100014, 16, 27, 28, 29, 30, 32, 36, 41, 42, 44, 46, 48, 50, 51, 52, 53, 57, 58, 59, 60, 67, 69, 70, 72, 73, 75, 76, 78, 81, 82, 83, 85] 16 = some (eraseF c16) := by kernel_rfl
def p6_7 : List PO := [⟨(.some 2), (.box 33 (.tmp 0)), .none⟩, ⟨(.some 4), (.alloc [(2, (.int .i64 0)), (1, (.slice .none 0 0)), (2, (.int .i64 0)), (1, (.bool .false)), (6, (.int .i64 0)), (4, (.int .u64 0)), (8, (.int .i64 0)), (1, (.bool .false)), (5, (.int .i64 0)), (1, (.slice .none 0 0)), (1, (.string ⟨#[]⟩)), (1, (.slice .none 0 0))]), .none⟩, ⟨(.some 5), (.mov (.const (.string ⟨#[]⟩))), .none⟩, ⟨(.some 6), (.mov (.const (.int .i64 0))), .none⟩]
def p6_8 : List PO := [⟨(.some 12), (.load .true 33 (.tmp 2)), .none⟩, ⟨(.some 13), (.call 13 [(.tmp 12)]), .none⟩, ⟨(.some 7), (.mov (.tmp 13)), .none⟩]
def p6_9 : List PO := [⟨(.some 14), (.mov (.tmp 7)), .none⟩, ⟨(.some 15), (.cmpI .neq (.tmp 14) (.const (.int .i64 0))), .none⟩]
def p6_10 : List PO := [⟨(.some 16), (.load .true 33 (.tmp 2)), .none⟩, ⟨(.some 17), (.callf 14 [(.tmp 16)]), .none⟩, ⟨(.some 18), (.mov (.tmp 7)), .none⟩, ⟨.none, (.store 33 (.tmp 4) (.tmp 17)), .none⟩, ⟨(.some 5), (.mov (.const (.string ⟨#[]⟩))), .none⟩, ⟨(.some 6), (.mov (.tmp 18)), .none⟩]
def p6_11 : List PO := [⟨(.some 19), (.mov (.tmp 1)), .none⟩, ⟨(.some 20), (.call 15 [(.tmp 19)]), .none⟩, ⟨(.some 8), (.mov (.tmp 20)), .none⟩]
def p6_12 : List PO := [⟨(.some 21), (.mov (.tmp 8)), .none⟩, ⟨(.some 22), (.cmpI .neq (.tmp 21) (.const (.int .i64 0))), .none⟩]
def p6_13 : List PO := [⟨(.some 23), (.load .true 33 (.tmp 2)), .none⟩, ⟨(.some 24), (.callf 14 [(.tmp 23)]), .none⟩, ⟨(.some 25), (.mov (.tmp 8)), .none⟩, ⟨.none, (.store 33 (.tmp 4) (.tmp 24)), .none⟩, ⟨(.some 5), (.mov (.const (.string ⟨#[]⟩))), .none⟩, ⟨(.some 6), (.mov (.tmp 25)), .none⟩]
def p6_14 : List PO := [⟨(.some 26), (.load .true 33 (.tmp 2)), .none⟩, ⟨(.some 27), (.callf 14 [(.tmp 26)]), .none⟩, ⟨(.some 28), (.build [(2, (.int .i64 0)), (1, (.slice .none 0 0)), (2, (.int .i64 0)), (1, (.bool .false)), (6, (.int .i64 0)), (4, (.int .u64 0)), (8, (.int .i64 0)), (1, (.bool .false)), (5, (.int .i64 0)), (1, (.slice .none 0 0)), (1, (.string ⟨#[]⟩)), (1, (.slice .none 0 0)), (1, (.string ⟨#[]⟩))] [(0, (33, (.tmp 27)))]), .none⟩, ⟨(.some 29), (.box 34 (.tmp 28)), .none⟩, ⟨(.some 9), (.mov (.tmp 29)), .none⟩]
def p6_15 : List PO := [⟨(.some 30), (.mov (.tmp 1)), .none⟩, ⟨(.some 31), (.len .false (.tmp 30)), .none⟩, ⟨(.some 32), (.mov (.const (.int .i64 0))), .none⟩]
def p6_16 : List PO := [⟨(.some 33), (.cmpI .lss (.tmp 32) (.tmp 31)), .none⟩]
def p6_17 : List PO := [⟨(.some 34), (.ixS 55 6 (.tmp 30) (.tmp 32)), .none⟩, ⟨(.some 35), (.load .true 6 (.tmp 34)), .none⟩, ⟨(.some 11), (.alloc [(3, (.int .i64 0)), (1, (.string ⟨#[]⟩)), (1, (.slice .none 0 0)), (1, (.string ⟨#[]⟩))]), .none⟩, ⟨.none, (.store 6 (.tmp 11) (.tmp 35)), .none⟩]
def p6_18 : List PO := [⟨(.some 36), (.mov (.tmp 9)), .none⟩, ⟨(.some 37), (.load .true 6 (.tmp 11)), .none⟩, ⟨(.some 38), (.callr 16 [(.tmp 36), (.tmp 37)]), .none⟩]
def p6_19 : List PO := [⟨(.some 39), (.arI .add (.tmp 32) (.const (.int .i64 1))), .none⟩, ⟨(.some 32), (.mov (.tmp 39)), .none⟩]
def c6_2 : PCode := (.keep [4, 9, 30, 31, 32] [(40, .id 40), (240, .id 240), (224, .id 224), (225, .id 225), (226, .id 226)] [] (.seq (.block 1 (.seq (.reg p6_17) (.reg p6_18))) (.reg p6_19)))
def c6_3 : PCode := (.keep [4, 9, 30, 31, 32, 33] [(40, .id 40), (240, .id 240), (224, .id 224), (225, .id 225), (226, .id 226)] [] (.seq (.cond (.tmp 33) .skip (.keep [4, 9] [(40, .id 40), (240, .id 240), (224, .id 224), (225, .id 225), (226, .id 226)] [] (.exit 0))) c6_2))
def c6_4 : PCode := (.keep [4, 9, 30, 31, 32] [(40, .id 40), (240, .id 240), (224, .id 224), (225, .id 225), (226, .id 226)] [] (.seq (.reg p6_16) c6_3))
def p6_20 : List PO := [⟨(.some 40), (.mov (.tmp 9)), .none⟩, ⟨(.some 41), (.nilC (.tmp 40)), .none⟩, ⟨(.some 42), (.fld 0 (.tmp 41)), .none⟩, ⟨(.some 43), (.load .true 33 (.tmp 42)), .none⟩, ⟨(.some 44), (.mov (.tmp 9)), .none⟩, ⟨(.some 45), (.nilC (.tmp 44)), .none⟩, ⟨(.some 46), (.fld 33 (.tmp 45)), .none⟩, ⟨(.some 47), (.load .false 1 (.tmp 46)), .none⟩, ⟨.none, (.store 33 (.tmp 4) (.tmp 43)), .none⟩, ⟨(.some 5), (.mov (.tmp 47)), .none⟩, ⟨(.some 6), (.mov (.const (.int .i64 0))), .none⟩]
def c6_1 : PCode := (.keep [4, 9] [(40, .id 40), (240, .id 240), (224, .id 224), (225, .id 225), (226, .id 226)] [] (.seq (.regD p6_20 [(7, 8)]) .ret))
def c6_5 : PCode := (.keep [1, 2, 4] [(24, .id 24), (40, .id 40)] [] (.seq (.reg p6_14) (.seq (.seq (.reg p6_15) (.block 0 (.loop c6_4))) c6_1)))
def c6_6 : PCode := (.keep [1, 2, 4] [(24, .id 24), (40, .id 40)] [.cell 40 2 0 0 1, .cell 40 30 0 0 1, .cell 40 32 0 0 1] (.seq (.seq (.reg p6_11) (.seq (.reg p6_12) (.cond (.tmp 22) (.seq (.reg p6_13) .ret) .skip))) c6_5))
def c6_b : PCode := (.seq (.reg p6_7) (.seq (.seq (.reg p6_8) (.seq (.reg p6_9) (.cond (.tmp 15) (.seq (.reg p6_10) .ret) .skip))) c6_6))
def c6 : FCode := ⟨48, c6_b, [(.cell 4 .true 33), (.tmp 5), (.tmp 6)], some ([4, 5, 6], [(40, .id 40), (420, (.cell 40 2)), (421, (.cell 40 30)), (422, (.cell 40 32))], []), false⟩
theorem c6_ok : compF Go.Proofs.Tryd.prog [100006, 100012, 100014, 16, 27, 28, 29, 30, 32, 36, 41, 42, 44, 46, 48, 50, 51, 52, 53, 57, 58, 59, 60, 67, 69, 70, 72, 73, 75, 76, 78, 81, 82, 83, 85] 6 = some (eraseF c6) := by kernel_rfl
def p8_1 : List PO := [⟨(.some 1), (.box 3 (.tmp 0)), .none⟩, ⟨(.some 2), (.alloc [(4, (.int .i64 0))]), .none⟩]
def p8_2 : List PO := [⟨(.some 3), (.load .true 3 (.tmp 1)), .none⟩, ⟨(.some 4), (.build [(4, (.int .i64 0))] [(0, (1, (.const (.int .i64 32)))), (1, (3, (.tmp 3)))]), .none⟩, ⟨.none, (.store 4 (.tmp 2) (.tmp 4)), .none⟩]
def c8_b : PCode := (.seq (.reg p8_1) (.seq (.reg p8_2) .ret))
def c8 : FCode := ⟨5, c8_b, [(.cell 2 .true 4)], some ([2], [(24, .id 24)], []), false⟩
theorem c8_ok : compF Go.Proofs.Tryd.prog [100006, 100012, 100014, 16, 27, 28, 29, 30, 32, 36, 41, 42, 44, 46, 48, 50, 51, 52, 53, 57, 58, 59, 60, 67, 69, 70, 72, 73, 75, 76, 78, 81, 82, 83, 85] 8 = some (eraseF c8) := by kernel_rfl
def p3_12 : List PO := [⟨(.some 6), (.mov (.const (.bool .false))), .none⟩]
def p3_13 : List PO := [⟨(.some 17), (.mov (.tmp 0)), .none⟩, ⟨(.some 18), (.mov (.tmp 1)), .none⟩, ⟨(.some 19), (.call 4 [(.tmp 17), (.tmp 18)]), .none⟩, ⟨(.some 16), (.mov (.tmp 19)), .none⟩, ⟨(.some 20), (.ext (.tmp 16) 0), .none⟩, ⟨(.some 21), (.ext (.tmp 16) 1), .none⟩, ⟨(.some 7), (.alloc [(2, (.int .i64 0)), (1, (.slice .none 0 0)), (2, (.int .i64 0)), (1, (.bool .false)), (6, (.int .i64 0)), (4, (.int .u64 0)), (8, (.int .i64 0)), (1, (.bool .false)), (5, (.int .i64 0)), (1, (.slice .none 0 0)), (1, (.string ⟨#[]⟩)), (1, (.slice .none 0 0))]), .none⟩, ⟨.none, (.store 33 (.tmp 7) (.tmp 20)), .none⟩, ⟨(.some 8), (.mov (.tmp 21)), .none⟩]
def p3_14 : List PO := [⟨(.some 22), (.call 5 []), .none⟩, ⟨(.some 23), (.un .not (.tmp 22)), .none⟩, ⟨(.some 24), (.mov (.tmp 23)), .none⟩, ⟨(.some 25), (.mov (.tmp 8)), (.some (24, .false))⟩, ⟨(.some 26), (.cmpI .neq (.tmp 25) (.const (.int .i64 0))), (.some (24, .false))⟩, ⟨(.some 27), (.pick (.tmp 24) (.const (.bool .true)) (.tmp 26)), .none⟩, ⟨(.some 28), (.mov (.tmp 27)), .none⟩, ⟨(.some 29), (.mov (.tmp 2)), (.some (28, .false))⟩, ⟨(.some 30), (.len .true (.tmp 29)), (.some (28, .false))⟩, ⟨(.some 31), (.mov (.tmp 0)), (.some (28, .false))⟩, ⟨(.some 32), (.mov (.tmp 1)), (.some (28, .false))⟩, ⟨(.some 33), (.arI .mul (.tmp 31) (.tmp 32)), (.some (28, .false))⟩, ⟨(.some 34), (.cmpI .geq (.tmp 30) (.tmp 33)), (.some (28, .false))⟩, ⟨(.some 35), (.pick (.tmp 28) (.const (.bool .true)) (.tmp 34)), .none⟩]
def p3_15 : List PO := [⟨(.some 36), (.call 5 []), .none⟩, ⟨(.some 6), (.mov (.tmp 36)), .none⟩]
def p3_16 : List PO := [⟨(.some 37), (.mov (.tmp 2)), .none⟩, ⟨(.some 38), (.len .true (.tmp 37)), .none⟩, ⟨(.some 39), (.mov (.const (.int .i64 0))), .none⟩]
def p3_17 : List PO := [⟨(.some 40), (.cmpI .lss (.tmp 39) (.tmp 38)), .none⟩]
def p3_18 : List PO := [⟨(.some 41), (.mov (.tmp 39)), .none⟩, ⟨(.some 9), (.mov (.tmp 41)), .none⟩]
def p3_19 : List PO := [⟨(.some 42), (.mov (.tmp 2)), .none⟩, ⟨(.some 43), (.mov (.tmp 9)), .none⟩, ⟨(.some 44), (.ixStr (.tmp 42) (.tmp 43)), .none⟩, ⟨(.some 45), (.cmpI .lss (.tmp 44) (.const (.int .u8 32))), .none⟩, ⟨(.some 46), (.mov (.tmp 45)), .none⟩, ⟨(.some 47), (.mov (.tmp 2)), (.some (46, .false))⟩, ⟨(.some 48), (.mov (.tmp 9)), (.some (46, .false))⟩, ⟨(.some 49), (.ixStr (.tmp 47) (.tmp 48)), (.some (46, .false))⟩, ⟨(.some 50), (.cmpI .gtr (.tmp 49) (.const (.int .u8 126))), (.some (46, .false))⟩, ⟨(.some 51), (.pick (.tmp 46) (.const (.bool .true)) (.tmp 50)), .none⟩]
def p3_20 : List PO := [⟨(.some 6), (.mov (.const (.bool .true))), .none⟩]
def p3_21 : List PO := [⟨(.some 52), (.arI .add (.tmp 39) (.const (.int .i64 1))), .none⟩, ⟨(.some 39), (.mov (.tmp 52)), .none⟩]
def c3_8 : PCode := (.keep [0, 1, 2, 7, 38, 39] [(64, .id 64), (160, .id 160), (161, .id 161)] [] (.seq (.block 1 (.seq (.reg p3_18) (.seq (.reg p3_19) (.cond (.tmp 51) (.seq (.reg p3_20) .ret) .skip)))) (.reg p3_21)))
def c3_9 : PCode := (.keep [0, 1, 2, 7, 38, 39, 40] [(64, .id 64), (160, .id 160), (161, .id 161)] [] (.seq (.cond (.tmp 40) .skip (.keep [0, 1, 2, 7] [(64, .id 64), (160, .id 160), (161, .id 161)] [] (.exit 0))) c3_8))
def c3_10 : PCode := (.keep [0, 1, 2, 7, 38, 39] [(64, .id 64), (160, .id 160), (161, .id 161)] [] (.seq (.reg p3_17) c3_9))
def p3_22 : List PO := [⟨(.some 54), (.load .true 33 (.tmp 7)), .none⟩, ⟨(.some 55), (.mov (.tmp 2)), .none⟩, ⟨(.some 56), (.call 7 [(.tmp 55)]), .none⟩, ⟨(.some 57), (.callf 6 [(.tmp 54), (.tmp 56)]), .none⟩, ⟨(.some 53), (.mov (.tmp 57)), .none⟩, ⟨(.some 58), (.ext (.tmp 53) 0), .none⟩, ⟨(.some 59), (.ext (.tmp 53) 1), .none⟩, ⟨(.some 60), (.ext (.tmp 53) 2), .none⟩, ⟨(.some 10), (.alloc [(2, (.int .i64 0)), (1, (.slice .none 0 0)), (2, (.int .i64 0)), (1, (.bool .false)), (6, (.int .i64 0)), (4, (.int .u64 0)), (8, (.int .i64 0)), (1, (.bool .false)), (5, (.int .i64 0)), (1, (.slice .none 0 0)), (1, (.string ⟨#[]⟩)), (1, (.slice .none 0 0))]), .none⟩, ⟨.none, (.store 33 (.tmp 10) (.tmp 58)), .none⟩, ⟨(.some 11), (.mov (.tmp 59)), .none⟩, ⟨(.some 8), (.mov (.tmp 60)), .none⟩]
def p3_23 : List PO := [⟨(.some 61), (.mov (.tmp 8)), .none⟩, ⟨(.some 62), (.cmpI .neq (.tmp 61) (.const (.int .i64 0))), .none⟩, ⟨(.some 63), (.mov (.tmp 62)), .none⟩, ⟨(.some 64), (.mov (.tmp 11)), (.some (63, .false))⟩, ⟨(.some 65), (.strO .neq (.tmp 64) (.const (.string ⟨#[]⟩))), (.some (63, .false))⟩, ⟨(.some 66), (.pick (.tmp 63) (.const (.bool .true)) (.tmp 65)), .none⟩, ⟨(.some 67), (.mov (.tmp 66)), .none⟩, ⟨(.some 68), (.fld 0 (.tmp 10)), (.some (67, .false))⟩, ⟨(.some 69), (.fld 2 (.tmp 68)), (.some (67, .false))⟩, ⟨(.some 70), (.load .false 1 (.tmp 69)), (.some (67, .false))⟩, ⟨(.some 71), (.len .false (.tmp 70)), (.some (67, .false))⟩, ⟨(.some 72), (.mov (.tmp 0)), (.some (67, .false))⟩, ⟨(.some 73), (.mov (.tmp 1)), (.some (67, .false))⟩, ⟨(.some 74), (.arI .mul (.tmp 72) (.tmp 73)), (.some (67, .false))⟩, ⟨(.some 75), (.cmpI .neq (.tmp 71) (.tmp 74)), (.some (67, .false))⟩, ⟨(.some 76), (.pick (.tmp 67) (.const (.bool .true)) (.tmp 75)), .none⟩]
def p3_24 : List PO := [⟨(.some 6), (.mov (.const (.bool .false))), .none⟩]
def p3_25 : List PO := [⟨(.some 77), (.fld 0 (.tmp 10)), .none⟩, ⟨(.some 78), (.fld 2 (.tmp 77)), .none⟩, ⟨(.some 79), (.load .false 1 (.tmp 78)), .none⟩, ⟨(.some 80), (.len .false (.tmp 79)), .none⟩, ⟨(.some 81), (.mov (.const (.int .i64 0))), .none⟩]
def p3_26 : List PO := [⟨(.some 82), (.cmpI .lss (.tmp 81) (.tmp 80)), .none⟩]
def p3_27 : List PO := [⟨(.some 83), (.mov (.tmp 81)), .none⟩, ⟨(.some 84), (.ixS 46 4 (.tmp 79) (.tmp 81)), .none⟩, ⟨(.some 85), (.load .true 4 (.tmp 84)), .none⟩, ⟨(.some 13), (.alloc [(4, (.int .i64 0))]), .none⟩, ⟨(.some 12), (.mov (.tmp 83)), .none⟩, ⟨.none, (.store 4 (.tmp 13) (.tmp 85)), .none⟩]
def p3_28 : List PO := [⟨(.some 86), (.build [(3, (.int .i64 0))] []), .none⟩, ⟨(.some 87), (.call 8 [(.tmp 86)]), .none⟩, ⟨(.some 14), (.alloc [(4, (.int .i64 0))]), .none⟩, ⟨.none, (.store 4 (.tmp 14) (.tmp 87)), .none⟩]
def p3_29 : List PO := [⟨(.some 88), (.mov (.tmp 12)), .none⟩, ⟨(.some 89), (.mov (.tmp 2)), .none⟩, ⟨(.some 90), (.len .true (.tmp 89)), .none⟩, ⟨(.some 91), (.cmpI .lss (.tmp 88) (.tmp 90)), .none⟩]
def p3_30 : List PO := [⟨(.some 92), (.mov (.tmp 2)), .none⟩, ⟨(.some 93), (.mov (.tmp 12)), .none⟩, ⟨(.some 94), (.ixStr (.tmp 92) (.tmp 93)), .none⟩, ⟨(.some 95), (.cvI .i64 (.tmp 94)), .none⟩, ⟨(.some 96), (.fld 0 (.tmp 14)), .none⟩, ⟨.none, (.store 1 (.tmp 96) (.tmp 95)), .none⟩]
def p3_31 : List PO := [⟨(.some 97), (.load .true 4 (.tmp 13)), .none⟩, ⟨(.some 98), (.load .true 4 (.tmp 14)), .none⟩, ⟨(.some 99), (.eqA .true [(4, .int)] (.tmp 97) (.tmp 98)), .none⟩]
def p3_32 : List PO := [⟨(.some 6), (.mov (.const (.bool .false))), .none⟩]
def p3_33 : List PO := [⟨(.some 100), (.arI .add (.tmp 81) (.const (.int .i64 1))), .none⟩, ⟨(.some 81), (.mov (.tmp 100)), .none⟩]
def c3_3 : PCode := (.keep [0, 2, 10, 79, 80, 81] [(88, .id 88), (464, .id 464), (465, .id 465), (466, .id 466)] [] (.seq (.block 3 (.seq (.reg p3_27) (.seq (.reg p3_28) (.seq (.seq (.reg p3_29) (.cond (.tmp 91) (.reg p3_30) .skip)) (.seq (.reg p3_31) (.cond (.tmp 99) (.seq (.reg p3_32) .ret) .skip)))))) (.reg p3_33)))
def c3_4 : PCode := (.keep [0, 2, 10, 79, 80, 81, 82] [(88, .id 88), (464, .id 464), (465, .id 465), (466, .id 466)] [] (.seq (.cond (.tmp 82) .skip (.keep [0, 2, 10] [(88, .id 88), (464, .id 464), (465, .id 465), (466, .id 466)] [] (.exit 2))) c3_3))
def c3_5 : PCode := (.keep [0, 2, 10, 79, 80, 81] [(88, .id 88), (464, .id 464), (465, .id 465), (466, .id 466)] [] (.seq (.reg p3_26) c3_4))
def p3_34 : List PO := [⟨(.some 101), (.fld 3 (.tmp 10)), .none⟩, ⟨(.some 102), (.load .false 1 (.tmp 101)), .none⟩, ⟨(.some 103), (.mov (.tmp 0)), .none⟩, ⟨(.some 104), (.arI .mul (.tmp 102) (.tmp 103)), .none⟩, ⟨(.some 105), (.fld 4 (.tmp 10)), .none⟩, ⟨(.some 106), (.load .false 1 (.tmp 105)), .none⟩, ⟨(.some 107), (.arI .add (.tmp 104) (.tmp 106)), .none⟩, ⟨(.some 15), (.mov (.tmp 107)), .none⟩]
def p3_35 : List PO := [⟨(.some 108), (.fld 5 (.tmp 10)), .none⟩, ⟨(.some 109), (.load .false 1 (.tmp 108)), .none⟩]
def p3_36 : List PO := [⟨(.some 110), (.mov (.tmp 15)), .none⟩, ⟨(.some 111), (.arI .add (.tmp 110) (.const (.int .i64 1))), .none⟩, ⟨(.some 15), (.mov (.tmp 111)), .none⟩]
def p3_37 : List PO := [⟨(.some 112), (.mov (.tmp 15)), .none⟩, ⟨(.some 113), (.mov (.tmp 2)), .none⟩, ⟨(.some 114), (.len .true (.tmp 113)), .none⟩, ⟨(.some 115), (.cmpI .eql (.tmp 112) (.tmp 114)), .none⟩, ⟨(.some 116), (.mov (.tmp 115)), .none⟩, ⟨(.some 117), (.fld 32 (.tmp 10)), (.some (116, .true))⟩, ⟨(.some 118), (.load .false 1 (.tmp 117)), (.some (116, .true))⟩, ⟨(.some 119), (.len .false (.tmp 118)), (.some (116, .true))⟩, ⟨(.some 120), (.cmpI .eql (.tmp 119) (.const (.int .i64 0))), (.some (116, .true))⟩, ⟨(.some 121), (.pick (.tmp 116) (.tmp 120) (.const (.bool .false))), .none⟩, ⟨(.some 6), (.mov (.tmp 121)), .none⟩]
def c3_1 : PCode := (.keep [2, 10, 15] [(88, .id 88), (464, .id 464), (465, .id 465), (466, .id 466)] [] (.seq (.reg p3_37) .ret))
def c3_2 : PCode := (.keep [0, 2, 10] [(88, .id 88), (464, .id 464), (465, .id 465), (466, .id 466)] [] (.seq (.reg p3_34) (.seq (.seq (.reg p3_35) (.cond (.tmp 109) (.reg p3_36) .skip)) c3_1)))
def c3_6 : PCode := (.keep [0, 2, 10] [(88, .id 88), (464, .id 464), (465, .id 465), (466, .id 466)] [] (.seq (.seq (.reg p3_25) (.block 2 (.loop c3_5))) c3_2))
def c3_7 : PCode := (.keep [0, 1, 2, 7] [(64, .id 64), (160, .id 160), (161, .id 161)] [] (.seq (.regD p3_22 [(0, 2), (0, 8), (2, 8), (3, 8)]) (.seq (.seq (.reg p3_23) (.cond (.tmp 76) (.seq (.reg p3_24) .ret) .skip)) c3_6)))
def c3_11 : PCode := (.keep [0, 1, 2, 7] [(64, .id 64), (160, .id 160), (161, .id 161)] [] (.seq (.seq (.reg p3_16) (.block 0 (.loop c3_10))) c3_7))
def c3_b : PCode := (.seq (.reg p3_12) (.seq (.reg p3_13) (.seq (.seq (.reg p3_14) (.cond (.tmp 35) (.seq (.reg p3_15) .ret) .skip)) c3_11)))
def c3 : FCode := ⟨122, c3_b, [(.tmp 6)], some ([6], [], []), false⟩
theorem c3_ok : compF Go.Proofs.Tryd.prog [100006, 100012, 100014, 16, 27, 28, 29, 30, 32, 36, 41, 42, 44, 46, 48, 50, 51, 52, 53, 57, 58, 59, 60, 67, 69, 70, 72, 73, 75, 76, 78, 81, 82, 83, 85] 3 = some (eraseF c3) := by kernel_rfl
def codes : Nat → Option FCode
  | 3 => some c3
  | 4 => some c4
  | 6 => some c6
  | 7 => some c7
  | 8 => some c8
  | 9 => some c9
  | 10 => some c10
  | 11 => some c11
  | 13 => some c13
  | 14 => some c14
  | 15 => some c15
  | 16 => some c16
  | 17 => some c17
  | 18 => some c18
  | 19 => some c19
  | 20 => some c20
  | 21 => some c21
  | 22 => some c22
  | 23 => some c23
  | 24 => some c24
  | 25 => some c25
  | 26 => some c26
  | 27 => some c27
  | 33 => some c33
  | 34 => some c34
  | 35 => some c35
  | 36 => some c36
  | 37 => some c37
  | 38 => some c38
  | 39 => some c39
  | 40 => some c40
  | 41 => some c41
  | 42 => some c42
  | 43 => some c43
  | 45 => some c45
  | 46 => some c46
  | 61 => some c61
  | 62 => some c62
  | 63 => some c63
  | 64 => some c64
  | 65 => some c65
  | 70 => some c70
  | 80 => some c80
  | _ => none
theorem codes_ok : ∀ f fc, codes f = some fc → compF Go.Proofs.Tryd.prog [100006, 100012, 100014, 16, 27, 28, 29, 30, 32, 36, 41, 42, 44, 46, 48, 50, 51, 52, 53, 57, 58, 59, 60, 67, 69, 70, 72, 73, 75, 76, 78, 81, 82, 83, 85] f = some (eraseF fc) := by
  intro f fc h
  unfold codes at h
  split at h
  · cases h; exact c3_ok
  · cases h; exact c4_ok
  · cases h; exact c6_ok
  · cases h; exact c7_ok
  · cases h; exact c8_ok
  · cases h; exact c9_ok
  · cases h; exact c10_ok
  · cases h; exact c11_ok
  · cases h; exact c13_ok
  · cases h; exact c14_ok
  · cases h; exact c15_ok
  · cases h; exact c16_ok
  · cases h; exact c17_ok
  · cases h; exact c18_ok
  · cases h; exact c19_ok
  · cases h; exact c20_ok
  · cases h; exact c21_ok
  · cases h; exact c22_ok
  · cases h; exact c23_ok
  · cases h; exact c24_ok
  · cases h; exact c25_ok
  · cases h; exact c26_ok
  · cases h; exact c27_ok
  · cases h; exact c33_ok
  · cases h; exact c34_ok
  · cases h; exact c35_ok
  · cases h; exact c36_ok
  · cases h; exact c37_ok
  · cases h; exact c38_ok
  · cases h; exact c39_ok
  · cases h; exact c40_ok
  · cases h; exact c41_ok
  · cases h; exact c42_ok
  · cases h; exact c43_ok
  · cases h; exact c45_ok
  · cases h; exact c46_ok
  · cases h; exact c61_ok
  · cases h; exact c62_ok
  · cases h; exact c63_ok
  · cases h; exact c64_ok
  · cases h; exact c65_ok
  · cases h; exact c70_ok
  · cases h; exact c80_ok
  · cases h
theorem codes3 : codes 3 = some c3 := rfl
theorem codes4 : codes 4 = some c4 := rfl
theorem codes6 : codes 6 = some c6 := rfl
theorem codes7 : codes 7 = some c7 := rfl
theorem codes8 : codes 8 = some c8 := rfl
theorem codes9 : codes 9 = some c9 := rfl
theorem codes10 : codes 10 = some c10 := rfl
theorem codes11 : codes 11 = some c11 := rfl
theorem codes13 : codes 13 = some c13 := rfl
theorem codes14 : codes 14 = some c14 := rfl
theorem codes15 : codes 15 = some c15 := rfl
theorem codes16 : codes 16 = some c16 := rfl
theorem codes17 : codes 17 = some c17 := rfl
theorem codes18 : codes 18 = some c18 := rfl
theorem codes19 : codes 19 = some c19 := rfl
theorem codes20 : codes 20 = some c20 := rfl
theorem codes21 : codes 21 = some c21 := rfl
theorem codes22 : codes 22 = some c22 := rfl
theorem codes23 : codes 23 = some c23 := rfl
theorem codes24 : codes 24 = some c24 := rfl
theorem codes25 : codes 25 = some c25 := rfl
theorem codes26 : codes 26 = some c26 := rfl
theorem codes27 : codes 27 = some c27 := rfl
theorem codes33 : codes 33 = some c33 := rfl
theorem codes34 : codes 34 = some c34 := rfl
theorem codes35 : codes 35 = some c35 := rfl
theorem codes36 : codes 36 = some c36 := rfl
theorem codes37 : codes 37 = some c37 := rfl
theorem codes38 : codes 38 = some c38 := rfl
theorem codes39 : codes 39 = some c39 := rfl
theorem codes40 : codes 40 = some c40 := rfl
theorem codes41 : codes 41 = some c41 := rfl
theorem codes42 : codes 42 = some c42 := rfl
theorem codes43 : codes 43 = some c43 := rfl
theorem codes45 : codes 45 = some c45 := rfl
theorem codes46 : codes 46 = some c46 := rfl
theorem codes61 : codes 61 = some c61 := rfl
theorem codes62 : codes 62 = some c62 := rfl
theorem codes63 : codes 63 = some c63 := rfl
theorem codes64 : codes 64 = some c64 := rfl
theorem codes65 : codes 65 = some c65 := rfl
theorem codes70 : codes 70 = some c70 := rfl
theorem codes80 : codes 80 = some c80 := rfl
noncomputable def libs : List (Nat × (List PV → Option PV)) := [(5, livesO libLives), (31, ossB libHasPrefix)]
noncomputable abbrev baseL : Orc := libO libs
end Go.Proofs.YtjoccdgmcdkbkaaDoor.Pm
