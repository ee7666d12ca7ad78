/- The small machine's codes of some functions. Printed by dec.py. -/
import Derived.Test.YtgjckmjlocankaaGreatDoorKrz
import Derived.Test.YtgjckmjlocankaaGreatDoorLib1
import Derived.Test.YtgjckmjlocankaaGreatDoorProg
namespace Go.Proofs.YtgjckmjlocankaaGreatDoor.Pm
set_option maxRecDepth 1000000
set_option maxHeartbeats 20000000
set_option linter.unusedVariables false
structure GPen where
  Flags : Int
  Fore : Int
  Back : Int
structure GCell where
  Rune : Int
  Pen : GPen
structure GGrid where
  Wide : Int
  High : Int
  Cells : List GCell
structure GStops where
  Bits : Nat → Int
structure GSaved where
  Row : Int
  Col : Int
  Pen : GPen
  Origin : Bool
  Pages : Int × Int
  Shift : Int
structure GLine where
  Cells : List GCell
structure GScreen where
  Grid : GGrid
  Row : Int
  Col : Int
  Late : Bool
  Top : Int
  Bottom : Int
  Pen : GPen
  Modes : Int
  Stops : GStops
  Pages : Int × Int
  Shift : Int
  Saved : GSaved
  Other : GGrid
  Title : List UInt8
  Past : List GLine
structure GAct where
  Kind : Int
  Code : Int
  Mark : Int
  Inter : List UInt8
  Args : List Int
  Text : List UInt8
def e_GPen : Enc GPen := ⟨3, fun x => [.int .i64 x.Flags, .int .i64 x.Fore, .int .i64 x.Back], fun _ => rfl⟩
def e_GCell : Enc GCell := ⟨4, fun x => [.int .i64 x.Rune, .int .i64 x.Pen.Flags, .int .i64 x.Pen.Fore, .int .i64 x.Pen.Back], fun _ => rfl⟩
def e_A31 : Enc (Int × Int) := ⟨2, fun x => [.int .i64 x.1, .int .i64 x.2], fun _ => rfl⟩
def e_GLine : Enc GLine := ⟨1, fun x => [.sl x.Cells.length (e_GCell.cells x.Cells)], fun _ => rfl⟩
def e_GGrid : Enc GGrid := ⟨3, fun x => [.int .i64 x.Wide, .int .i64 x.High, .sl x.Cells.length (e_GCell.cells x.Cells)], fun _ => rfl⟩
def e_GSaved : Enc GSaved := ⟨9, fun x => [.int .i64 x.Row, .int .i64 x.Col, .int .i64 x.Pen.Flags, .int .i64 x.Pen.Fore, .int .i64 x.Pen.Back, .bool x.Origin, .int .i64 x.Pages.1, .int .i64 x.Pages.2, .int .i64 x.Shift], fun _ => rfl⟩
def bx_GScreen (x : GScreen) (c3 c2 c1 : PV) : List PV := ((.d (.int .i64 x.Grid.Wide)) :: ((.d (.int .i64 x.Grid.High)) :: (c3 :: ((.d (.int .i64 x.Row)) :: ((.d (.int .i64 x.Col)) :: ((.d (.bool x.Late)) :: ((.d (.int .i64 x.Top)) :: ((.d (.int .i64 x.Bottom)) :: ((.d (.int .i64 x.Pen.Flags)) :: ((.d (.int .i64 x.Pen.Fore)) :: ((.d (.int .i64 x.Pen.Back)) :: ((.d (.int .i64 x.Modes)) :: (((eInt .u64).row 4 x.Stops.Bits) ++ ((.d (.int .i64 x.Pages.1)) :: ((.d (.int .i64 x.Pages.2)) :: ((.d (.int .i64 x.Shift)) :: ((.d (.int .i64 x.Saved.Row)) :: ((.d (.int .i64 x.Saved.Col)) :: ((.d (.int .i64 x.Saved.Pen.Flags)) :: ((.d (.int .i64 x.Saved.Pen.Fore)) :: ((.d (.int .i64 x.Saved.Pen.Back)) :: ((.d (.bool x.Saved.Origin)) :: ((.d (.int .i64 x.Saved.Pages.1)) :: ((.d (.int .i64 x.Saved.Pages.2)) :: ((.d (.int .i64 x.Saved.Shift)) :: ((.d (.int .i64 x.Other.Wide)) :: ((.d (.int .i64 x.Other.High)) :: (c2 :: ((.d (.str x.Title)) :: (c1 :: []))))))))))))))))))))))))))))))
def bx_GAct (x : GAct) (c1 : PV) : List PV := ((.d (.int .i64 x.Kind)) :: ((.d (.int .i64 x.Code)) :: ((.d (.int .i64 x.Mark)) :: ((.d (.str x.Inter)) :: (c1 :: ((.d (.str x.Text)) :: []))))))
def p30_1 : List PO := [⟨(.some 4), (.mov (.const (.int .i64 0))), .none⟩]
def p30_2 : List PO := [⟨(.some 5), (.mov (.tmp 0)), .none⟩, ⟨(.some 6), (.cmpI .lss (.tmp 5) (.const (.int .i64 1))), .none⟩, ⟨(.some 7), (.mov (.tmp 6)), .none⟩, ⟨(.some 8), (.mov (.tmp 0)), (.some (7, .false))⟩, ⟨(.some 9), (.cmpI .gtr (.tmp 8) (.const (.int .i64 160))), (.some (7, .false))⟩, ⟨(.some 10), (.pick (.tmp 7) (.const (.bool .true)) (.tmp 9)), .none⟩, ⟨(.some 11), (.mov (.tmp 10)), .none⟩, ⟨(.some 12), (.mov (.tmp 1)), (.some (11, .false))⟩, ⟨(.some 13), (.cmpI .lss (.tmp 12) (.const (.int .i64 1))), (.some (11, .false))⟩, ⟨(.some 14), (.pick (.tmp 11) (.const (.bool .true)) (.tmp 13)), .none⟩, ⟨(.some 15), (.mov (.tmp 14)), .none⟩, ⟨(.some 16), (.mov (.tmp 1)), (.some (15, .false))⟩, ⟨(.some 17), (.cmpI .gtr (.tmp 16) (.const (.int .i64 60))), (.some (15, .false))⟩, ⟨(.some 18), (.pick (.tmp 15) (.const (.bool .true)) (.tmp 17)), .none⟩]
def p30_3 : List PO := [⟨(.some 4), (.mov (.const (.int .i64 1))), .none⟩]
def p30_4 : List PO := [⟨(.some 4), (.mov (.const (.int .i64 0))), .none⟩]
def c30_b : PCode := (.seq (.reg p30_1) (.seq (.seq (.reg p30_2) (.cond (.tmp 18) (.seq (.reg p30_3) .ret) .skip)) (.seq (.reg p30_4) .ret)))
def c30 : FCode := ⟨19, c30_b, [(.tmp 4)], some ([4], [], []), false⟩
theorem c30_ok : compF Go.Proofs.Tryz.prog [10, 11, 100013, 22, 100028, 100029, 46, 100047, 49, 61, 62, 63, 64, 65, 66, 67, 69, 70, 71, 72, 74, 86, 87, 88, 90, 91, 93, 95, 97, 99, 100, 101, 102, 106, 107, 108, 109, 123, 126, 128, 129, 131, 132, 134, 135, 137, 151, 152, 153, 154, 156] 30 = some (eraseF c30) := by kernel_rfl
def p22_1 : List PO := [⟨(.some 2), (.box 3 (.tmp 0)), .none⟩, ⟨(.some 4), (.nilS 44 4), .none⟩]
def p22_2 : List PO := [⟨(.some 5), (.fld 2 (.tmp 2)), .none⟩, ⟨(.some 6), (.load .false 1 (.tmp 5)), .none⟩, ⟨(.some 7), (.mov (.tmp 1)), .none⟩, ⟨(.some 8), (.fld 0 (.tmp 2)), .none⟩, ⟨(.some 9), (.load .false 1 (.tmp 8)), .none⟩, ⟨(.some 10), (.arI .mul (.tmp 7) (.tmp 9)), .none⟩, ⟨(.some 11), (.mov (.tmp 1)), .none⟩, ⟨(.some 12), (.arI .add (.tmp 11) (.const (.int .i64 1))), .none⟩, ⟨(.some 13), (.fld 0 (.tmp 2)), .none⟩, ⟨(.some 14), (.load .false 1 (.tmp 13)), .none⟩, ⟨(.some 15), (.arI .mul (.tmp 12) (.tmp 14)), .none⟩, ⟨(.some 16), (.slS 44 4 (.tmp 6) (.some (.tmp 10)) (.some (.tmp 15))), .none⟩, ⟨(.some 4), (.mov (.tmp 16)), .none⟩]
def c22_b : PCode := (.seq (.reg p22_1) (.seq (.reg p22_2) .ret))
def c22 : FCode := ⟨17, c22_b, [(.tmp 4)], some ([4, 2000000], [], []), false⟩
theorem c22_ok : compF Go.Proofs.Tryz.prog [10, 11, 100013, 22, 100028, 100029, 46, 100047, 49, 61, 62, 63, 64, 65, 66, 67, 69, 70, 71, 72, 74, 86, 87, 88, 90, 91, 93, 95, 97, 99, 100, 101, 102, 106, 107, 108, 109, 123, 126, 128, 129, 131, 132, 134, 135, 137, 151, 152, 153, 154, 156] 22 = some (eraseF c22) := by kernel_rfl
def p33_1 : List PO := [⟨(.some 2), (.mov (.const (.bool .false))), .none⟩]
def p33_2 : List PO := [⟨(.some 3), (.mov (.tmp 0)), .none⟩, ⟨(.some 4), (.cmpI .geq (.tmp 3) (.const (.int .i64 0))), .none⟩, ⟨(.some 5), (.mov (.tmp 4)), .none⟩, ⟨(.some 6), (.mov (.tmp 0)), (.some (5, .true))⟩, ⟨(.some 7), (.cmpI .leq (.tmp 6) (.const (.int .i64 256))), (.some (5, .true))⟩, ⟨(.some 8), (.pick (.tmp 5) (.tmp 7) (.const (.bool .false))), .none⟩, ⟨(.some 9), (.mov (.tmp 8)), .none⟩, ⟨(.some 10), (.mov (.tmp 0)), (.some (9, .false))⟩, ⟨(.some 11), (.cmpI .geq (.tmp 10) (.const (.int .i64 16777216))), (.some (9, .false))⟩, ⟨(.some 12), (.mov (.tmp 11)), (.some (9, .false))⟩, ⟨(.some 13), (.mov (.tmp 0)), (.some (12, .true))⟩, ⟨(.some 14), (.cmpI .lss (.tmp 13) (.const (.int .i64 33554432))), (.some (12, .true))⟩, ⟨(.some 15), (.pick (.tmp 12) (.tmp 14) (.const (.bool .false))), (.some (9, .false))⟩, ⟨(.some 16), (.pick (.tmp 9) (.const (.bool .true)) (.tmp 15)), .none⟩, ⟨(.some 2), (.mov (.tmp 16)), .none⟩]
def c33_b : PCode := (.seq (.reg p33_1) (.seq (.reg p33_2) .ret))
def c33 : FCode := ⟨17, c33_b, [(.tmp 2)], some ([2], [], []), false⟩
theorem c33_ok : compF Go.Proofs.Tryz.prog [10, 11, 100013, 22, 100028, 100029, 46, 100047, 49, 61, 62, 63, 64, 65, 66, 67, 69, 70, 71, 72, 74, 86, 87, 88, 90, 91, 93, 95, 97, 99, 100, 101, 102, 106, 107, 108, 109, 123, 126, 128, 129, 131, 132, 134, 135, 137, 151, 152, 153, 154, 156] 33 = some (eraseF c33) := by kernel_rfl
def p18_1 : List PO := [⟨(.some 1), (.box 3 (.tmp 0)), .none⟩, ⟨(.some 2), (.mov (.const (.int .i64 0))), .none⟩]
def p18_2 : List PO := [⟨(.some 3), (.fld 0 (.tmp 1)), .none⟩, ⟨(.some 4), (.load .false 1 (.tmp 3)), .none⟩, ⟨(.some 5), (.cmpI .lss (.tmp 4) (.const (.int .i64 0))), .none⟩, ⟨(.some 6), (.mov (.tmp 5)), .none⟩, ⟨(.some 7), (.fld 0 (.tmp 1)), (.some (6, .false))⟩, ⟨(.some 8), (.load .false 1 (.tmp 7)), (.some (6, .false))⟩, ⟨(.some 9), (.cmpI .gtr (.tmp 8) (.const (.int .i64 255))), (.some (6, .false))⟩, ⟨(.some 10), (.pick (.tmp 6) (.const (.bool .true)) (.tmp 9)), .none⟩, ⟨(.some 11), (.mov (.tmp 10)), .none⟩, ⟨(.some 12), (.fld 1 (.tmp 1)), (.some (11, .false))⟩, ⟨(.some 13), (.load .false 1 (.tmp 12)), (.some (11, .false))⟩, ⟨(.some 14), (.call 33 [(.tmp 13)]), (.some (11, .false))⟩, ⟨(.some 15), (.un .not (.tmp 14)), (.some (11, .false))⟩, ⟨(.some 16), (.pick (.tmp 11) (.const (.bool .true)) (.tmp 15)), .none⟩, ⟨(.some 17), (.mov (.tmp 16)), .none⟩, ⟨(.some 18), (.fld 2 (.tmp 1)), (.some (17, .false))⟩, ⟨(.some 19), (.load .false 1 (.tmp 18)), (.some (17, .false))⟩, ⟨(.some 20), (.call 33 [(.tmp 19)]), (.some (17, .false))⟩, ⟨(.some 21), (.un .not (.tmp 20)), (.some (17, .false))⟩, ⟨(.some 22), (.pick (.tmp 17) (.const (.bool .true)) (.tmp 21)), .none⟩]
def p18_3 : List PO := [⟨(.some 2), (.mov (.const (.int .i64 4))), .none⟩]
def p18_4 : List PO := [⟨(.some 2), (.mov (.const (.int .i64 0))), .none⟩]
def c18_b : PCode := (.seq (.reg p18_1) (.seq (.seq (.reg p18_2) (.cond (.tmp 22) (.seq (.reg p18_3) .ret) .skip)) (.seq (.reg p18_4) .ret)))
def c18 : FCode := ⟨23, c18_b, [(.tmp 2)], some ([2], [], []), false⟩
theorem c18_ok : compF Go.Proofs.Tryz.prog [10, 11, 100013, 22, 100028, 100029, 46, 100047, 49, 61, 62, 63, 64, 65, 66, 67, 69, 70, 71, 72, 74, 86, 87, 88, 90, 91, 93, 95, 97, 99, 100, 101, 102, 106, 107, 108, 109, 123, 126, 128, 129, 131, 132, 134, 135, 137, 151, 152, 153, 154, 156] 18 = some (eraseF c18) := by kernel_rfl
def p50_4 : List PO := [⟨(.some 4), (.mov (.const (.bool .false))), .none⟩]
def p50_5 : List PO := [⟨(.some 7), (.mov (.tmp 1)), .none⟩, ⟨(.some 8), (.len .false (.tmp 7)), .none⟩, ⟨(.some 9), (.mov (.const (.int .i64 0))), .none⟩]
def p50_6 : List PO := [⟨(.some 10), (.cmpI .lss (.tmp 9) (.tmp 8)), .none⟩]
def p50_7 : List PO := [⟨(.some 11), (.ixS 31 2 (.tmp 7) (.tmp 9)), .none⟩, ⟨(.some 12), (.load .true 2 (.tmp 11)), .none⟩, ⟨(.some 6), (.alloc [(2, (.int .i64 0))]), .none⟩, ⟨.none, (.store 2 (.tmp 6) (.tmp 12)), .none⟩]
def p50_8 : List PO := [⟨(.some 13), (.mov (.tmp 0)), .none⟩, ⟨(.some 14), (.ixA 2 1 (.tmp 6) (.const (.int .i64 0))), .none⟩, ⟨(.some 15), (.load .false 1 (.tmp 14)), .none⟩, ⟨(.some 16), (.cmpI .geq (.tmp 13) (.tmp 15)), .none⟩, ⟨(.some 17), (.mov (.tmp 16)), .none⟩, ⟨(.some 18), (.mov (.tmp 0)), (.some (17, .true))⟩, ⟨(.some 19), (.ixA 2 1 (.tmp 6) (.const (.int .i64 1))), (.some (17, .true))⟩, ⟨(.some 20), (.load .false 1 (.tmp 19)), (.some (17, .true))⟩, ⟨(.some 21), (.cmpI .leq (.tmp 18) (.tmp 20)), (.some (17, .true))⟩, ⟨(.some 22), (.pick (.tmp 17) (.tmp 21) (.const (.bool .false))), .none⟩]
def p50_9 : List PO := [⟨(.some 4), (.mov (.const (.bool .true))), .none⟩]
def p50_10 : List PO := [⟨(.some 23), (.arI .add (.tmp 9) (.const (.int .i64 1))), .none⟩, ⟨(.some 9), (.mov (.tmp 23)), .none⟩]
def c50_1 : PCode := (.keep [0, 7, 8, 9] [] [] (.seq (.block 1 (.seq (.reg p50_7) (.seq (.reg p50_8) (.cond (.tmp 22) (.seq (.reg p50_9) .ret) .skip)))) (.reg p50_10)))
def c50_2 : PCode := (.keep [0, 7, 8, 9, 10] [] [] (.seq (.cond (.tmp 10) .skip (.keep [] [] [] (.exit 0))) c50_1))
def c50_3 : PCode := (.keep [0, 7, 8, 9] [] [] (.seq (.reg p50_6) c50_2))
def p50_11 : List PO := [⟨(.some 4), (.mov (.const (.bool .false))), .none⟩]
def c50_b : PCode := (.seq (.reg p50_4) (.seq (.seq (.reg p50_5) (.block 0 (.loop c50_3))) (.seq (.reg p50_11) .ret)))
def c50 : FCode := ⟨24, c50_b, [(.tmp 4)], some ([4], [], []), false⟩
theorem c50_ok : compF Go.Proofs.Tryz.prog [10, 11, 100013, 22, 100028, 100029, 46, 100047, 49, 61, 62, 63, 64, 65, 66, 67, 69, 70, 71, 72, 74, 86, 87, 88, 90, 91, 93, 95, 97, 99, 100, 101, 102, 106, 107, 108, 109, 123, 126, 128, 129, 131, 132, 134, 135, 137, 151, 152, 153, 154, 156] 50 = some (eraseF c50) := by kernel_rfl
def p31_3 : List PO := [⟨(.some 2), (.mov (.const (.int .i64 0))), .none⟩]
def p31_4 : List PO := [⟨(.some 5), (.build [(2, (.int .i64 0))] [(0, (1, (.const (.int .i64 0)))), (1, (1, (.const (.int .i64 31))))]), .none⟩, ⟨(.some 6), (.build [(2, (.int .i64 0))] [(0, (1, (.const (.int .i64 127)))), (1, (1, (.const (.int .i64 159))))]), .none⟩, ⟨(.some 7), (.build [(2, (.int .i64 0))] [(0, (1, (.const (.int .i64 768)))), (1, (1, (.const (.int .i64 879))))]), .none⟩, ⟨(.some 8), (.build [(2, (.int .i64 0))] [(0, (1, (.const (.int .i64 8203)))), (1, (1, (.const (.int .i64 8207))))]), .none⟩, ⟨(.some 9), (.build [(2, (.int .i64 0))] [(0, (1, (.const (.int .i64 55296)))), (1, (1, (.const (.int .i64 57343))))]), .none⟩, ⟨(.some 10), (.build [(2, (.int .i64 0))] [(0, (1, (.const (.int .i64 65024)))), (1, (1, (.const (.int .i64 65039))))]), .none⟩, ⟨(.some 11), (.build [(12, (.int .i64 0))] [(0, (2, (.tmp 5))), (2, (2, (.tmp 6))), (4, (2, (.tmp 7))), (6, (2, (.tmp 8))), (8, (2, (.tmp 9))), (10, (2, (.tmp 10)))]), .none⟩, ⟨(.some 3), (.alloc [(12, (.int .i64 0))]), .none⟩, ⟨.none, (.store 12 (.tmp 3) (.tmp 11)), .none⟩]
def p31_5 : List PO := [⟨(.some 12), (.build [(2, (.int .i64 0))] [(0, (1, (.const (.int .i64 4352)))), (1, (1, (.const (.int .i64 4447))))]), .none⟩, ⟨(.some 13), (.build [(2, (.int .i64 0))] [(0, (1, (.const (.int .i64 11904)))), (1, (1, (.const (.int .i64 12350))))]), .none⟩, ⟨(.some 14), (.build [(2, (.int .i64 0))] [(0, (1, (.const (.int .i64 12353)))), (1, (1, (.const (.int .i64 19903))))]), .none⟩, ⟨(.some 15), (.build [(2, (.int .i64 0))] [(0, (1, (.const (.int .i64 19968)))), (1, (1, (.const (.int .i64 42191))))]), .none⟩, ⟨(.some 16), (.build [(2, (.int .i64 0))] [(0, (1, (.const (.int .i64 44032)))), (1, (1, (.const (.int .i64 55203))))]), .none⟩, ⟨(.some 17), (.build [(2, (.int .i64 0))] [(0, (1, (.const (.int .i64 63744)))), (1, (1, (.const (.int .i64 64255))))]), .none⟩, ⟨(.some 18), (.build [(2, (.int .i64 0))] [(0, (1, (.const (.int .i64 65072)))), (1, (1, (.const (.int .i64 65135))))]), .none⟩, ⟨(.some 19), (.build [(2, (.int .i64 0))] [(0, (1, (.const (.int .i64 65280)))), (1, (1, (.const (.int .i64 65376))))]), .none⟩, ⟨(.some 20), (.build [(2, (.int .i64 0))] [(0, (1, (.const (.int .i64 65504)))), (1, (1, (.const (.int .i64 65510))))]), .none⟩, ⟨(.some 21), (.build [(2, (.int .i64 0))] [(0, (1, (.const (.int .i64 127744)))), (1, (1, (.const (.int .i64 128591))))]), .none⟩, ⟨(.some 22), (.build [(2, (.int .i64 0))] [(0, (1, (.const (.int .i64 129280)))), (1, (1, (.const (.int .i64 129535))))]), .none⟩, ⟨(.some 23), (.build [(2, (.int .i64 0))] [(0, (1, (.const (.int .i64 131072)))), (1, (1, (.const (.int .i64 262141))))]), .none⟩, ⟨(.some 24), (.build [(24, (.int .i64 0))] [(0, (2, (.tmp 12))), (2, (2, (.tmp 13))), (4, (2, (.tmp 14))), (6, (2, (.tmp 15))), (8, (2, (.tmp 16))), (10, (2, (.tmp 17))), (12, (2, (.tmp 18))), (14, (2, (.tmp 19))), (16, (2, (.tmp 20))), (18, (2, (.tmp 21))), (20, (2, (.tmp 22))), (22, (2, (.tmp 23)))]), .none⟩, ⟨(.some 4), (.alloc [(24, (.int .i64 0))]), .none⟩, ⟨.none, (.store 24 (.tmp 4) (.tmp 24)), .none⟩]
def p31_6 : List PO := [⟨(.some 26), (.mov (.tmp 0)), .none⟩, ⟨(.some 27), (.cmpI .lss (.tmp 26) (.const (.int .i64 0))), .none⟩, ⟨(.some 28), (.mov (.tmp 27)), .none⟩, ⟨(.some 29), (.mov (.tmp 0)), (.some (28, .false))⟩, ⟨(.some 30), (.cmpI .gtr (.tmp 29) (.const (.int .i64 1114111))), (.some (28, .false))⟩, ⟨(.some 31), (.pick (.tmp 28) (.const (.bool .true)) (.tmp 30)), .none⟩, ⟨(.some 32), (.mov (.tmp 31)), .none⟩, ⟨(.some 33), (.mov (.tmp 0)), (.some (32, .false))⟩, ⟨(.some 34), (.slA 6 2 (.tmp 3) .none .none), (.some (32, .false))⟩, ⟨(.some 35), (.call 50 [(.tmp 33), (.tmp 34)]), (.some (32, .false))⟩, ⟨(.some 36), (.pick (.tmp 32) (.const (.bool .true)) (.tmp 35)), .none⟩, ⟨(.some 25), (.mov (.tmp 36)), .none⟩]
def p31_7 : List PO := [⟨(.some 2), (.mov (.const (.int .i64 0))), .none⟩]
def p31_8 : List PO := [⟨(.some 38), (.mov (.tmp 0)), .none⟩, ⟨(.some 39), (.slA 12 2 (.tmp 4) .none .none), .none⟩, ⟨(.some 40), (.call 50 [(.tmp 38), (.tmp 39)]), .none⟩, ⟨(.some 37), (.mov (.tmp 40)), .none⟩]
def p31_9 : List PO := [⟨(.some 2), (.mov (.const (.int .i64 2))), .none⟩]
def c31_1 : PCode := (.keep [0, 4, 25] [(40, .id 40)] [] (.cond (.tmp 25) (.seq (.reg p31_7) .ret) (.seq (.reg p31_8) (.cond (.tmp 37) (.seq (.reg p31_9) .ret) .skip))))
def p31_10 : List PO := [⟨(.some 2), (.mov (.const (.int .i64 1))), .none⟩]
def c31_2 : PCode := (.seq (.reg p31_10) .ret)
def c31_b : PCode := (.seq (.reg p31_3) (.seq (.reg p31_4) (.seq (.reg p31_5) (.seq (.block 0 (.seq (.reg p31_6) c31_1)) c31_2))))
def c31 : FCode := ⟨41, c31_b, [(.tmp 2)], some ([2], [], []), false⟩
theorem c31_ok : compF Go.Proofs.Tryz.prog [10, 11, 100013, 22, 100028, 100029, 46, 100047, 49, 61, 62, 63, 64, 65, 66, 67, 69, 70, 71, 72, 74, 86, 87, 88, 90, 91, 93, 95, 97, 99, 100, 101, 102, 106, 107, 108, 109, 123, 126, 128, 129, 131, 132, 134, 135, 137, 151, 152, 153, 154, 156] 31 = some (eraseF c31) := by kernel_rfl
def p51_1 : List PO := [⟨(.some 3), (.mov (.const (.bool .false))), .none⟩]
def p51_2 : List PO := [⟨(.some 4), (.mov (.tmp 0)), .none⟩, ⟨(.some 5), (.load .false 1 (.tmp 1)), .none⟩, ⟨(.some 6), (.len .false (.tmp 5)), .none⟩, ⟨(.some 7), (.cmpI .lss (.tmp 4) (.tmp 6)), .none⟩, ⟨(.some 8), (.mov (.tmp 7)), .none⟩, ⟨(.some 9), (.load .false 1 (.tmp 1)), (.some (8, .true))⟩, ⟨(.some 10), (.mov (.tmp 0)), (.some (8, .true))⟩, ⟨(.some 11), (.ixS 44 4 (.tmp 9) (.tmp 10)), (.some (8, .true))⟩, ⟨(.some 12), (.fld 0 (.tmp 11)), (.some (8, .true))⟩, ⟨(.some 13), (.load .false 1 (.tmp 12)), (.some (8, .true))⟩, ⟨(.some 14), (.cmpI .eql (.tmp 13) (.const (.int .i64 0))), (.some (8, .true))⟩, ⟨(.some 15), (.pick (.tmp 8) (.tmp 14) (.const (.bool .false))), .none⟩, ⟨(.some 16), (.mov (.tmp 15)), .none⟩, ⟨(.some 17), (.load .false 1 (.tmp 1)), (.some (16, .true))⟩, ⟨(.some 18), (.mov (.tmp 0)), (.some (16, .true))⟩, ⟨(.some 19), (.ixS 44 4 (.tmp 17) (.tmp 18)), (.some (16, .true))⟩, ⟨(.some 20), (.fld 1 (.tmp 19)), (.some (16, .true))⟩, ⟨(.some 21), (.load .true 3 (.tmp 20)), (.some (16, .true))⟩, ⟨(.some 22), (.load .false 1 (.tmp 1)), (.some (16, .true))⟩, ⟨(.some 23), (.mov (.tmp 0)), (.some (16, .true))⟩, ⟨(.some 24), (.arI .sub (.tmp 23) (.const (.int .i64 1))), (.some (16, .true))⟩, ⟨(.some 25), (.ixS 44 4 (.tmp 22) (.tmp 24)), (.some (16, .true))⟩, ⟨(.some 26), (.fld 1 (.tmp 25)), (.some (16, .true))⟩, ⟨(.some 27), (.load .true 3 (.tmp 26)), (.some (16, .true))⟩, ⟨(.some 28), (.eqA .false [(3, .int)] (.tmp 21) (.tmp 27)), (.some (16, .true))⟩, ⟨(.some 29), (.pick (.tmp 16) (.tmp 28) (.const (.bool .false))), .none⟩, ⟨(.some 3), (.mov (.tmp 29)), .none⟩]
def c51_b : PCode := (.seq (.reg p51_1) (.seq (.regD p51_2 []) .ret))
def c51 : FCode := ⟨30, c51_b, [(.tmp 3)], some ([3], [], []), false⟩
theorem c51_ok : compF Go.Proofs.Tryz.prog [10, 11, 100013, 22, 100028, 100029, 46, 100047, 49, 61, 62, 63, 64, 65, 66, 67, 69, 70, 71, 72, 74, 86, 87, 88, 90, 91, 93, 95, 97, 99, 100, 101, 102, 106, 107, 108, 109, 123, 126, 128, 129, 131, 132, 134, 135, 137, 151, 152, 153, 154, 156] 51 = some (eraseF c51) := by kernel_rfl
def p32_2 : List PO := [⟨(.some 2), (.box 1 (.tmp 0)), .none⟩, ⟨(.some 4), (.mov (.const (.bool .false))), .none⟩]
def p32_3 : List PO := [⟨(.some 6), (.mkF 51 [(.tmp 2)]), .none⟩, ⟨(.some 5), (.mov (.tmp 6)), .none⟩]
def p32_4 : List PO := [⟨(.some 7), (.load .false 1 (.tmp 2)), .none⟩, ⟨(.some 8), (.mov (.tmp 1)), .none⟩, ⟨(.some 9), (.ixS 44 4 (.tmp 7) (.tmp 8)), .none⟩, ⟨(.some 10), (.fld 0 (.tmp 9)), .none⟩, ⟨(.some 11), (.load .false 1 (.tmp 10)), .none⟩, ⟨(.some 12), (.cmpI .eql (.tmp 11) (.const (.int .i64 0))), .none⟩]
def p32_5 : List PO := [⟨(.some 13), (.mov (.tmp 1)), .none⟩, ⟨(.some 14), (.cmpI .eql (.tmp 13) (.const (.int .i64 0))), .none⟩, ⟨(.some 15), (.mov (.tmp 14)), .none⟩, ⟨(.some 16), (.load .false 1 (.tmp 2)), (.some (15, .false))⟩, ⟨(.some 17), (.mov (.tmp 1)), (.some (15, .false))⟩, ⟨(.some 18), (.arI .sub (.tmp 17) (.const (.int .i64 1))), (.some (15, .false))⟩, ⟨(.some 19), (.ixS 44 4 (.tmp 16) (.tmp 18)), (.some (15, .false))⟩, ⟨(.some 20), (.fld 0 (.tmp 19)), (.some (15, .false))⟩, ⟨(.some 21), (.load .false 1 (.tmp 20)), (.some (15, .false))⟩, ⟨(.some 22), (.call 31 [(.tmp 21)]), (.some (15, .false))⟩, ⟨(.some 23), (.cmpI .neq (.tmp 22) (.const (.int .i64 2))), (.some (15, .false))⟩, ⟨(.some 24), (.pick (.tmp 15) (.const (.bool .true)) (.tmp 23)), .none⟩, ⟨(.some 25), (.mov (.tmp 24)), .none⟩, ⟨(.some 26), (.mov (.tmp 5)), (.some (25, .false))⟩, ⟨(.some 27), (.mov (.tmp 1)), (.some (25, .false))⟩, ⟨(.some 28), (.callv (.tmp 26) [(.tmp 27)]), (.some (25, .false))⟩, ⟨(.some 29), (.un .not (.tmp 28)), (.some (25, .false))⟩, ⟨(.some 30), (.pick (.tmp 25) (.const (.bool .true)) (.tmp 29)), .none⟩, ⟨(.some 4), (.mov (.tmp 30)), .none⟩]
def p32_6 : List PO := [⟨(.some 31), (.load .false 1 (.tmp 2)), .none⟩, ⟨(.some 32), (.mov (.tmp 1)), .none⟩, ⟨(.some 33), (.ixS 44 4 (.tmp 31) (.tmp 32)), .none⟩, ⟨(.some 34), (.fld 0 (.tmp 33)), .none⟩, ⟨(.some 35), (.load .false 1 (.tmp 34)), .none⟩, ⟨(.some 36), (.call 31 [(.tmp 35)]), .none⟩, ⟨(.some 37), (.cmpI .eql (.tmp 36) (.const (.int .i64 2))), .none⟩, ⟨(.some 38), (.mov (.tmp 37)), .none⟩, ⟨(.some 39), (.mov (.tmp 5)), (.some (38, .true))⟩, ⟨(.some 40), (.mov (.tmp 1)), (.some (38, .true))⟩, ⟨(.some 41), (.arI .add (.tmp 40) (.const (.int .i64 1))), (.some (38, .true))⟩, ⟨(.some 42), (.callv (.tmp 39) [(.tmp 41)]), (.some (38, .true))⟩, ⟨(.some 43), (.un .not (.tmp 42)), (.some (38, .true))⟩, ⟨(.some 44), (.pick (.tmp 38) (.tmp 43) (.const (.bool .false))), .none⟩, ⟨(.some 4), (.mov (.tmp 44)), .none⟩]
def c32_1 : PCode := (.keep [1, 2, 5] [(24, .id 24)] [] (.seq (.reg p32_6) .ret))
def c32_b : PCode := (.seq (.reg p32_2) (.seq (.reg p32_3) (.seq (.seq (.reg p32_4) (.cond (.tmp 12) (.seq (.reg p32_5) .ret) .skip)) c32_1)))
def c32 : FCode := ⟨45, c32_b, [(.tmp 4)], some ([4], [], []), false⟩
theorem c32_ok : compF Go.Proofs.Tryz.prog [10, 11, 100013, 22, 100028, 100029, 46, 100047, 49, 61, 62, 63, 64, 65, 66, 67, 69, 70, 71, 72, 74, 86, 87, 88, 90, 91, 93, 95, 97, 99, 100, 101, 102, 106, 107, 108, 109, 123, 126, 128, 129, 131, 132, 134, 135, 137, 151, 152, 153, 154, 156] 32 = some (eraseF c32) := by kernel_rfl
def p16_9 : List PO := [⟨(.some 1), (.box 3 (.tmp 0)), .none⟩, ⟨(.some 2), (.mov (.const (.int .i64 0))), .none⟩]
def p16_10 : List PO := [⟨(.some 8), (.fld 0 (.tmp 1)), .none⟩, ⟨(.some 9), (.load .false 1 (.tmp 8)), .none⟩, ⟨(.some 10), (.fld 1 (.tmp 1)), .none⟩, ⟨(.some 11), (.load .false 1 (.tmp 10)), .none⟩, ⟨(.some 12), (.call 30 [(.tmp 9), (.tmp 11)]), .none⟩, ⟨(.some 3), (.mov (.tmp 12)), .none⟩]
def p16_11 : List PO := [⟨(.some 13), (.mov (.tmp 3)), .none⟩, ⟨(.some 14), (.cmpI .neq (.tmp 13) (.const (.int .i64 0))), .none⟩]
def p16_12 : List PO := [⟨(.some 15), (.mov (.tmp 3)), .none⟩, ⟨(.some 2), (.mov (.tmp 15)), .none⟩]
def p16_13 : List PO := [⟨(.some 16), (.fld 2 (.tmp 1)), .none⟩, ⟨(.some 17), (.load .false 1 (.tmp 16)), .none⟩, ⟨(.some 18), (.len .false (.tmp 17)), .none⟩, ⟨(.some 19), (.fld 0 (.tmp 1)), .none⟩, ⟨(.some 20), (.load .false 1 (.tmp 19)), .none⟩, ⟨(.some 21), (.fld 1 (.tmp 1)), .none⟩, ⟨(.some 22), (.load .false 1 (.tmp 21)), .none⟩, ⟨(.some 23), (.arI .mul (.tmp 20) (.tmp 22)), .none⟩, ⟨(.some 24), (.cmpI .neq (.tmp 18) (.tmp 23)), .none⟩]
def p16_14 : List PO := [⟨(.some 2), (.mov (.const (.int .i64 4))), .none⟩]
def p16_15 : List PO := [⟨(.some 25), (.fld 1 (.tmp 1)), .none⟩, ⟨(.some 26), (.load .false 1 (.tmp 25)), .none⟩, ⟨(.some 27), (.mov (.const (.int .i64 0))), .none⟩]
def p16_16 : List PO := [⟨(.some 28), (.cmpI .lss (.tmp 27) (.tmp 26)), .none⟩]
def p16_17 : List PO := [⟨(.some 29), (.mov (.tmp 27)), .none⟩, ⟨(.some 4), (.mov (.tmp 29)), .none⟩]
def p16_18 : List PO := [⟨(.some 30), (.load .true 3 (.tmp 1)), .none⟩, ⟨(.some 31), (.mov (.tmp 4)), .none⟩, ⟨(.some 32), (.callr 22 [(.tmp 30), (.tmp 31)]), .none⟩, ⟨(.some 5), (.mov (.tmp 32)), .none⟩]
def p16_19 : List PO := [⟨(.some 33), (.mov (.tmp 5)), .none⟩, ⟨(.some 34), (.len .false (.tmp 33)), .none⟩, ⟨(.some 35), (.mov (.const (.int .i64 0))), .none⟩]
def p16_20 : List PO := [⟨(.some 36), (.cmpI .lss (.tmp 35) (.tmp 34)), .none⟩]
def p16_21 : List PO := [⟨(.some 37), (.mov (.tmp 35)), .none⟩, ⟨(.some 38), (.ixS 44 4 (.tmp 33) (.tmp 35)), .none⟩, ⟨(.some 39), (.load .true 4 (.tmp 38)), .none⟩, ⟨(.some 7), (.alloc [(4, (.int .i64 0))]), .none⟩, ⟨(.some 6), (.mov (.tmp 37)), .none⟩, ⟨.none, (.store 4 (.tmp 7) (.tmp 39)), .none⟩]
def p16_22 : List PO := [⟨(.some 40), (.fld 1 (.tmp 7)), .none⟩, ⟨(.some 41), (.load .true 3 (.tmp 40)), .none⟩, ⟨(.some 42), (.call 18 [(.tmp 41)]), .none⟩, ⟨(.some 43), (.cmpI .neq (.tmp 42) (.const (.int .i64 0))), .none⟩, ⟨(.some 44), (.mov (.tmp 43)), .none⟩, ⟨(.some 45), (.fld 0 (.tmp 7)), (.some (44, .false))⟩, ⟨(.some 46), (.load .false 1 (.tmp 45)), (.some (44, .false))⟩, ⟨(.some 47), (.cmpI .neq (.tmp 46) (.const (.int .i64 0))), (.some (44, .false))⟩, ⟨(.some 48), (.mov (.tmp 47)), (.some (44, .false))⟩, ⟨(.some 49), (.fld 0 (.tmp 7)), (.some (48, .true))⟩, ⟨(.some 50), (.load .false 1 (.tmp 49)), (.some (48, .true))⟩, ⟨(.some 51), (.call 31 [(.tmp 50)]), (.some (48, .true))⟩, ⟨(.some 52), (.cmpI .eql (.tmp 51) (.const (.int .i64 0))), (.some (48, .true))⟩, ⟨(.some 53), (.pick (.tmp 48) (.tmp 52) (.const (.bool .false))), (.some (44, .false))⟩, ⟨(.some 54), (.pick (.tmp 44) (.const (.bool .true)) (.tmp 53)), .none⟩, ⟨(.some 55), (.mov (.tmp 54)), .none⟩, ⟨(.some 56), (.mov (.tmp 5)), (.some (55, .false))⟩, ⟨(.some 57), (.mov (.tmp 6)), (.some (55, .false))⟩, ⟨(.some 58), (.call 32 [(.tmp 56), (.tmp 57)]), (.some (55, .false))⟩, ⟨(.some 59), (.pick (.tmp 55) (.const (.bool .true)) (.tmp 58)), .none⟩]
def p16_23 : List PO := [⟨(.some 2), (.mov (.const (.int .i64 4))), .none⟩]
def p16_24 : List PO := [⟨(.some 60), (.arI .add (.tmp 35) (.const (.int .i64 1))), .none⟩, ⟨(.some 35), (.mov (.tmp 60)), .none⟩]
def c16_1 : PCode := (.keep [1, 5, 26, 27, 33, 34, 35] [(16, .id 16)] [] (.seq (.block 3 (.seq (.reg p16_21) (.seq (.reg p16_22) (.cond (.tmp 59) (.seq (.reg p16_23) .ret) .skip)))) (.reg p16_24)))
def c16_2 : PCode := (.keep [1, 5, 26, 27, 33, 34, 35, 36] [(16, .id 16)] [] (.seq (.cond (.tmp 36) .skip (.keep [1, 26, 27] [(16, .id 16)] [] (.exit 2))) c16_1))
def c16_3 : PCode := (.keep [1, 5, 26, 27, 33, 34, 35] [(16, .id 16)] [] (.seq (.reg p16_20) c16_2))
def p16_25 : List PO := [⟨(.some 61), (.arI .add (.tmp 27) (.const (.int .i64 1))), .none⟩, ⟨(.some 27), (.mov (.tmp 61)), .none⟩]
def c16_4 : PCode := (.keep [1, 26, 27] [(16, .id 16)] [] (.seq (.block 1 (.seq (.reg p16_17) (.seq (.reg p16_18) (.seq (.reg p16_19) (.block 2 (.loop c16_3)))))) (.reg p16_25)))
def c16_5 : PCode := (.keep [1, 26, 27, 28] [(16, .id 16)] [] (.seq (.cond (.tmp 28) .skip (.keep [] [] [] (.exit 0))) c16_4))
def c16_6 : PCode := (.keep [1, 26, 27] [(16, .id 16)] [] (.seq (.reg p16_16) c16_5))
def p16_26 : List PO := [⟨(.some 2), (.mov (.const (.int .i64 0))), .none⟩]
def c16_7 : PCode := (.keep [1] [(16, .id 16)] [] (.seq (.seq (.reg p16_15) (.block 0 (.loop c16_6))) (.seq (.reg p16_26) .ret)))
def c16_8 : PCode := (.keep [1] [(16, .id 16)] [] (.seq (.seq (.reg p16_13) (.cond (.tmp 24) (.seq (.reg p16_14) .ret) .skip)) c16_7))
def c16_b : PCode := (.seq (.reg p16_9) (.seq (.seq (.reg p16_10) (.seq (.reg p16_11) (.cond (.tmp 14) (.seq (.reg p16_12) .ret) .skip))) c16_8))
def c16 : FCode := ⟨62, c16_b, [(.tmp 2)], some ([2], [], []), false⟩
theorem c16_ok : compF Go.Proofs.Tryz.prog [10, 11, 100013, 22, 100028, 100029, 46, 100047, 49, 61, 62, 63, 64, 65, 66, 67, 69, 70, 71, 72, 74, 86, 87, 88, 90, 91, 93, 95, 97, 99, 100, 101, 102, 106, 107, 108, 109, 123, 126, 128, 129, 131, 132, 134, 135, 137, 151, 152, 153, 154, 156] 16 = some (eraseF c16) := by kernel_rfl
def p17_1 : List PO := [⟨(.some 6), (.mov (.const (.bool .false))), .none⟩]
def p17_2 : List PO := [⟨(.some 7), (.mov (.tmp 0)), .none⟩, ⟨(.some 8), (.mov (.tmp 1)), .none⟩, ⟨(.some 9), (.cmpI .geq (.tmp 7) (.tmp 8)), .none⟩, ⟨(.some 10), (.mov (.tmp 9)), .none⟩, ⟨(.some 11), (.mov (.tmp 0)), (.some (10, .true))⟩, ⟨(.some 12), (.mov (.tmp 2)), (.some (10, .true))⟩, ⟨(.some 13), (.cmpI .leq (.tmp 11) (.tmp 12)), (.some (10, .true))⟩, ⟨(.some 14), (.pick (.tmp 10) (.tmp 13) (.const (.bool .false))), .none⟩, ⟨(.some 6), (.mov (.tmp 14)), .none⟩]
def c17_b : PCode := (.seq (.reg p17_1) (.seq (.reg p17_2) .ret))
def c17 : FCode := ⟨15, c17_b, [(.tmp 6)], some ([6], [], []), false⟩
theorem c17_ok : compF Go.Proofs.Tryz.prog [10, 11, 100013, 22, 100028, 100029, 46, 100047, 49, 61, 62, 63, 64, 65, 66, 67, 69, 70, 71, 72, 74, 86, 87, 88, 90, 91, 93, 95, 97, 99, 100, 101, 102, 106, 107, 108, 109, 123, 126, 128, 129, 131, 132, 134, 135, 137, 151, 152, 153, 154, 156] 17 = some (eraseF c17) := by kernel_rfl
def p19_1 : List PO := [⟨(.some 2), (.mov (.const (.bool .false))), .none⟩]
def p19_2 : List PO := [⟨(.some 3), (.mov (.tmp 0)), .none⟩, ⟨(.some 4), (.cmpI .geq (.tmp 3) (.const (.int .i64 1))), .none⟩, ⟨(.some 5), (.mov (.tmp 4)), .none⟩, ⟨(.some 6), (.mov (.tmp 0)), (.some (5, .true))⟩, ⟨(.some 7), (.cmpI .leq (.tmp 6) (.const (.int .i64 4))), (.some (5, .true))⟩, ⟨(.some 8), (.pick (.tmp 5) (.tmp 7) (.const (.bool .false))), .none⟩, ⟨(.some 2), (.mov (.tmp 8)), .none⟩]
def c19_b : PCode := (.seq (.reg p19_1) (.seq (.reg p19_2) .ret))
def c19 : FCode := ⟨9, c19_b, [(.tmp 2)], some ([2], [], []), false⟩
theorem c19_ok : compF Go.Proofs.Tryz.prog [10, 11, 100013, 22, 100028, 100029, 46, 100047, 49, 61, 62, 63, 64, 65, 66, 67, 69, 70, 71, 72, 74, 86, 87, 88, 90, 91, 93, 95, 97, 99, 100, 101, 102, 106, 107, 108, 109, 123, 126, 128, 129, 131, 132, 134, 135, 137, 151, 152, 153, 154, 156] 19 = some (eraseF c19) := by kernel_rfl
def p20_4 : List PO := [⟨(.some 2), (.mov (.const (.bool .false))), .none⟩]
def p20_5 : List PO := [⟨(.some 5), (.mov (.tmp 0)), .none⟩, ⟨(.some 6), (.len .false (.tmp 5)), .none⟩, ⟨(.some 7), (.mov (.const (.int .i64 0))), .none⟩]
def p20_6 : List PO := [⟨(.some 8), (.cmpI .lss (.tmp 7) (.tmp 6)), .none⟩]
def p20_7 : List PO := [⟨(.some 9), (.ixS 83 1 (.tmp 5) (.tmp 7)), .none⟩, ⟨(.some 10), (.load .true 1 (.tmp 9)), .none⟩, ⟨(.some 4), (.alloc [(1, (.slice .none 0 0))]), .none⟩, ⟨.none, (.store 1 (.tmp 4) (.tmp 10)), .none⟩]
def p20_8 : List PO := [⟨(.some 11), (.fld 0 (.tmp 4)), .none⟩, ⟨(.some 12), (.load .false 1 (.tmp 11)), .none⟩, ⟨(.some 13), (.len .false (.tmp 12)), .none⟩, ⟨(.some 14), (.fld 0 (.tmp 4)), .none⟩, ⟨(.some 15), (.load .false 1 (.tmp 14)), .none⟩, ⟨(.some 16), (.build [(2, (.int .i64 0)), (1, (.slice .none 0 0))] [(0, (1, (.tmp 13))), (1, (1, (.const (.int .i64 1)))), (2, (1, (.tmp 15)))]), .none⟩, ⟨(.some 17), (.call 16 [(.tmp 16)]), .none⟩, ⟨(.some 18), (.cmpI .neq (.tmp 17) (.const (.int .i64 0))), .none⟩]
def p20_9 : List PO := [⟨(.some 2), (.mov (.const (.bool .false))), .none⟩]
def p20_10 : List PO := [⟨(.some 19), (.arI .add (.tmp 7) (.const (.int .i64 1))), .none⟩, ⟨(.some 7), (.mov (.tmp 19)), .none⟩]
def c20_1 : PCode := (.keep [0, 5, 6, 7] [] [] (.seq (.block 1 (.seq (.reg p20_7) (.seq (.reg p20_8) (.cond (.tmp 18) (.seq (.reg p20_9) .ret) .skip)))) (.reg p20_10)))
def c20_2 : PCode := (.keep [0, 5, 6, 7, 8] [] [] (.seq (.cond (.tmp 8) .skip (.keep [0] [] [] (.exit 0))) c20_1))
def c20_3 : PCode := (.keep [0, 5, 6, 7] [] [] (.seq (.reg p20_6) c20_2))
def p20_11 : List PO := [⟨(.some 20), (.mov (.tmp 0)), .none⟩, ⟨(.some 21), (.len .false (.tmp 20)), .none⟩, ⟨(.some 22), (.cmpI .leq (.tmp 21) (.const (.int .i64 40))), .none⟩, ⟨(.some 2), (.mov (.tmp 22)), .none⟩]
def c20_b : PCode := (.seq (.reg p20_4) (.seq (.seq (.reg p20_5) (.block 0 (.loop c20_3))) (.seq (.reg p20_11) .ret)))
def c20 : FCode := ⟨23, c20_b, [(.tmp 2)], some ([2], [], []), false⟩
theorem c20_ok : compF Go.Proofs.Tryz.prog [10, 11, 100013, 22, 100028, 100029, 46, 100047, 49, 61, 62, 63, 64, 65, 66, 67, 69, 70, 71, 72, 74, 86, 87, 88, 90, 91, 93, 95, 97, 99, 100, 101, 102, 106, 107, 108, 109, 123, 126, 128, 129, 131, 132, 134, 135, 137, 151, 152, 153, 154, 156] 20 = some (eraseF c20) := by kernel_rfl
def p8_10 : List PO := [⟨(.some 1), (.box 33 (.tmp 0)), .none⟩, ⟨(.some 2), (.mov (.const (.int .i64 0))), .none⟩]
def p8_11 : List PO := [⟨(.some 7), (.fld 0 (.tmp 1)), .none⟩, ⟨(.some 8), (.load .true 3 (.tmp 7)), .none⟩, ⟨(.some 9), (.fld 28 (.tmp 1)), .none⟩, ⟨(.some 10), (.load .true 3 (.tmp 9)), .none⟩, ⟨(.some 3), (.alloc [(2, (.int .i64 0)), (1, (.slice .none 0 0))]), .none⟩, ⟨(.some 4), (.alloc [(2, (.int .i64 0)), (1, (.slice .none 0 0))]), .none⟩, ⟨.none, (.store 3 (.tmp 3) (.tmp 8)), .none⟩, ⟨.none, (.store 3 (.tmp 4) (.tmp 10)), .none⟩]
def p8_12 : List PO := [⟨(.some 11), (.load .true 3 (.tmp 3)), .none⟩, ⟨(.some 12), (.call 16 [(.tmp 11)]), .none⟩, ⟨(.some 13), (.cmpI .eql (.tmp 12) (.const (.int .i64 0))), .none⟩, ⟨(.some 14), (.mov (.tmp 13)), .none⟩, ⟨(.some 15), (.load .true 3 (.tmp 4)), (.some (14, .true))⟩, ⟨(.some 16), (.call 16 [(.tmp 15)]), (.some (14, .true))⟩, ⟨(.some 17), (.cmpI .eql (.tmp 16) (.const (.int .i64 0))), (.some (14, .true))⟩, ⟨(.some 18), (.pick (.tmp 14) (.tmp 17) (.const (.bool .false))), .none⟩, ⟨(.some 19), (.mov (.tmp 18)), .none⟩, ⟨(.some 20), (.fld 0 (.tmp 3)), (.some (19, .true))⟩, ⟨(.some 21), (.load .false 1 (.tmp 20)), (.some (19, .true))⟩, ⟨(.some 22), (.fld 0 (.tmp 4)), (.some (19, .true))⟩, ⟨(.some 23), (.load .false 1 (.tmp 22)), (.some (19, .true))⟩, ⟨(.some 24), (.cmpI .eql (.tmp 21) (.tmp 23)), (.some (19, .true))⟩, ⟨(.some 25), (.pick (.tmp 19) (.tmp 24) (.const (.bool .false))), .none⟩, ⟨(.some 26), (.mov (.tmp 25)), .none⟩, ⟨(.some 27), (.fld 1 (.tmp 3)), (.some (26, .true))⟩, ⟨(.some 28), (.load .false 1 (.tmp 27)), (.some (26, .true))⟩, ⟨(.some 29), (.fld 1 (.tmp 4)), (.some (26, .true))⟩, ⟨(.some 30), (.load .false 1 (.tmp 29)), (.some (26, .true))⟩, ⟨(.some 31), (.cmpI .eql (.tmp 28) (.tmp 30)), (.some (26, .true))⟩, ⟨(.some 32), (.pick (.tmp 26) (.tmp 31) (.const (.bool .false))), .none⟩, ⟨(.some 5), (.mov (.tmp 32)), .none⟩]
def p8_13 : List PO := [⟨(.some 33), (.mov (.tmp 5)), .none⟩, ⟨(.some 34), (.mov (.tmp 33)), .none⟩, ⟨(.some 35), (.fld 3 (.tmp 1)), (.some (34, .true))⟩, ⟨(.some 36), (.load .false 1 (.tmp 35)), (.some (34, .true))⟩, ⟨(.some 37), (.fld 1 (.tmp 3)), (.some (34, .true))⟩, ⟨(.some 38), (.load .false 1 (.tmp 37)), (.some (34, .true))⟩, ⟨(.some 39), (.arI .sub (.tmp 38) (.const (.int .i64 1))), (.some (34, .true))⟩, ⟨(.some 40), (.call 17 [(.tmp 36), (.const (.int .i64 0)), (.tmp 39)]), (.some (34, .true))⟩, ⟨(.some 41), (.pick (.tmp 34) (.tmp 40) (.const (.bool .false))), .none⟩, ⟨(.some 42), (.mov (.tmp 41)), .none⟩, ⟨(.some 43), (.fld 4 (.tmp 1)), (.some (42, .true))⟩, ⟨(.some 44), (.load .false 1 (.tmp 43)), (.some (42, .true))⟩, ⟨(.some 45), (.fld 0 (.tmp 3)), (.some (42, .true))⟩, ⟨(.some 46), (.load .false 1 (.tmp 45)), (.some (42, .true))⟩, ⟨(.some 47), (.arI .sub (.tmp 46) (.const (.int .i64 1))), (.some (42, .true))⟩, ⟨(.some 48), (.call 17 [(.tmp 44), (.const (.int .i64 0)), (.tmp 47)]), (.some (42, .true))⟩, ⟨(.some 49), (.pick (.tmp 42) (.tmp 48) (.const (.bool .false))), .none⟩, ⟨(.some 50), (.mov (.tmp 49)), .none⟩, ⟨(.some 51), (.fld 5 (.tmp 1)), (.some (50, .true))⟩, ⟨(.some 52), (.load .false 1 (.tmp 51)), (.some (50, .true))⟩, ⟨(.some 53), (.un .not (.tmp 52)), (.some (50, .true))⟩, ⟨(.some 54), (.mov (.tmp 53)), (.some (50, .true))⟩, ⟨(.some 55), (.fld 4 (.tmp 1)), (.some (54, .false))⟩, ⟨(.some 56), (.load .false 1 (.tmp 55)), (.some (54, .false))⟩, ⟨(.some 57), (.fld 0 (.tmp 3)), (.some (54, .false))⟩, ⟨(.some 58), (.load .false 1 (.tmp 57)), (.some (54, .false))⟩, ⟨(.some 59), (.arI .sub (.tmp 58) (.const (.int .i64 1))), (.some (54, .false))⟩, ⟨(.some 60), (.cmpI .eql (.tmp 56) (.tmp 59)), (.some (54, .false))⟩, ⟨(.some 61), (.pick (.tmp 54) (.const (.bool .true)) (.tmp 60)), (.some (50, .true))⟩, ⟨(.some 62), (.pick (.tmp 50) (.tmp 61) (.const (.bool .false))), .none⟩, ⟨(.some 5), (.mov (.tmp 62)), .none⟩]
def p8_14 : List PO := [⟨(.some 63), (.mov (.tmp 5)), .none⟩, ⟨(.some 64), (.mov (.tmp 63)), .none⟩, ⟨(.some 65), (.fld 6 (.tmp 1)), (.some (64, .true))⟩, ⟨(.some 66), (.load .false 1 (.tmp 65)), (.some (64, .true))⟩, ⟨(.some 67), (.fld 7 (.tmp 1)), (.some (64, .true))⟩, ⟨(.some 68), (.load .false 1 (.tmp 67)), (.some (64, .true))⟩, ⟨(.some 69), (.arI .sub (.tmp 68) (.const (.int .i64 1))), (.some (64, .true))⟩, ⟨(.some 70), (.call 17 [(.tmp 66), (.const (.int .i64 0)), (.tmp 69)]), (.some (64, .true))⟩, ⟨(.some 71), (.pick (.tmp 64) (.tmp 70) (.const (.bool .false))), .none⟩, ⟨(.some 72), (.mov (.tmp 71)), .none⟩, ⟨(.some 73), (.fld 7 (.tmp 1)), (.some (72, .true))⟩, ⟨(.some 74), (.load .false 1 (.tmp 73)), (.some (72, .true))⟩, ⟨(.some 75), (.fld 1 (.tmp 3)), (.some (72, .true))⟩, ⟨(.some 76), (.load .false 1 (.tmp 75)), (.some (72, .true))⟩, ⟨(.some 77), (.cmpI .leq (.tmp 74) (.tmp 76)), (.some (72, .true))⟩, ⟨(.some 78), (.pick (.tmp 72) (.tmp 77) (.const (.bool .false))), .none⟩, ⟨(.some 5), (.mov (.tmp 78)), .none⟩]
def p8_15 : List PO := [⟨(.some 79), (.mov (.tmp 5)), .none⟩, ⟨(.some 80), (.mov (.tmp 79)), .none⟩, ⟨(.some 81), (.fld 8 (.tmp 1)), (.some (80, .true))⟩, ⟨(.some 82), (.load .true 3 (.tmp 81)), (.some (80, .true))⟩, ⟨(.some 83), (.call 18 [(.tmp 82)]), (.some (80, .true))⟩, ⟨(.some 84), (.cmpI .eql (.tmp 83) (.const (.int .i64 0))), (.some (80, .true))⟩, ⟨(.some 85), (.pick (.tmp 80) (.tmp 84) (.const (.bool .false))), .none⟩, ⟨(.some 86), (.mov (.tmp 85)), .none⟩, ⟨(.some 87), (.fld 19 (.tmp 1)), (.some (86, .true))⟩, ⟨(.some 88), (.fld 2 (.tmp 87)), (.some (86, .true))⟩, ⟨(.some 89), (.load .true 3 (.tmp 88)), (.some (86, .true))⟩, ⟨(.some 90), (.call 18 [(.tmp 89)]), (.some (86, .true))⟩, ⟨(.some 91), (.cmpI .eql (.tmp 90) (.const (.int .i64 0))), (.some (86, .true))⟩, ⟨(.some 92), (.pick (.tmp 86) (.tmp 91) (.const (.bool .false))), .none⟩, ⟨(.some 93), (.mov (.tmp 92)), .none⟩, ⟨(.some 94), (.fld 11 (.tmp 1)), (.some (93, .true))⟩, ⟨(.some 95), (.load .false 1 (.tmp 94)), (.some (93, .true))⟩, ⟨(.some 96), (.call 17 [(.tmp 95), (.const (.int .i64 0)), (.const (.int .i64 2047))]), (.some (93, .true))⟩, ⟨(.some 97), (.pick (.tmp 93) (.tmp 96) (.const (.bool .false))), .none⟩, ⟨(.some 5), (.mov (.tmp 97)), .none⟩]
def p8_16 : List PO := [⟨(.some 98), (.mov (.const (.int .i64 0))), .none⟩]
def p8_17 : List PO := [⟨(.some 99), (.cmpI .lss (.tmp 98) (.const (.int .i64 2))), .none⟩]
def p8_18 : List PO := [⟨(.some 100), (.mov (.tmp 98)), .none⟩, ⟨(.some 6), (.mov (.tmp 100)), .none⟩]
def p8_19 : List PO := [⟨(.some 101), (.mov (.tmp 5)), .none⟩, ⟨(.some 102), (.mov (.tmp 101)), .none⟩, ⟨(.some 103), (.mov (.tmp 6)), (.some (102, .true))⟩, ⟨(.some 104), (.fld 16 (.tmp 1)), (.some (102, .true))⟩, ⟨(.some 105), (.ixA 2 1 (.tmp 104) (.tmp 103)), (.some (102, .true))⟩, ⟨(.some 106), (.load .false 1 (.tmp 105)), (.some (102, .true))⟩, ⟨(.some 107), (.call 19 [(.tmp 106)]), (.some (102, .true))⟩, ⟨(.some 108), (.pick (.tmp 102) (.tmp 107) (.const (.bool .false))), .none⟩, ⟨(.some 109), (.mov (.tmp 108)), .none⟩, ⟨(.some 110), (.mov (.tmp 6)), (.some (109, .true))⟩, ⟨(.some 111), (.fld 19 (.tmp 1)), (.some (109, .true))⟩, ⟨(.some 112), (.fld 6 (.tmp 111)), (.some (109, .true))⟩, ⟨(.some 113), (.ixA 2 1 (.tmp 112) (.tmp 110)), (.some (109, .true))⟩, ⟨(.some 114), (.load .false 1 (.tmp 113)), (.some (109, .true))⟩, ⟨(.some 115), (.call 19 [(.tmp 114)]), (.some (109, .true))⟩, ⟨(.some 116), (.pick (.tmp 109) (.tmp 115) (.const (.bool .false))), .none⟩, ⟨(.some 5), (.mov (.tmp 116)), .none⟩]
def p8_20 : List PO := [⟨(.some 117), (.arI .add (.tmp 98) (.const (.int .i64 1))), .none⟩, ⟨(.some 98), (.mov (.tmp 117)), .none⟩]
def c8_4 : PCode := (.keep [1, 5, 98] [(16, .id 16)] [] (.seq (.block 1 (.seq (.reg p8_18) (.reg p8_19))) (.reg p8_20)))
def c8_5 : PCode := (.loop (.seq (.reg p8_17) (.seq (.cond (.tmp 99) .skip (.exit 0)) c8_4)))
def p8_21 : List PO := [⟨(.some 118), (.mov (.tmp 5)), .none⟩, ⟨(.some 119), (.mov (.tmp 118)), .none⟩, ⟨(.some 120), (.fld 18 (.tmp 1)), (.some (119, .true))⟩, ⟨(.some 121), (.load .false 1 (.tmp 120)), (.some (119, .true))⟩, ⟨(.some 122), (.call 17 [(.tmp 121), (.const (.int .i64 0)), (.const (.int .i64 1))]), (.some (119, .true))⟩, ⟨(.some 123), (.pick (.tmp 119) (.tmp 122) (.const (.bool .false))), .none⟩, ⟨(.some 124), (.mov (.tmp 123)), .none⟩, ⟨(.some 125), (.fld 19 (.tmp 1)), (.some (124, .true))⟩, ⟨(.some 126), (.fld 8 (.tmp 125)), (.some (124, .true))⟩, ⟨(.some 127), (.load .false 1 (.tmp 126)), (.some (124, .true))⟩, ⟨(.some 128), (.call 17 [(.tmp 127), (.const (.int .i64 0)), (.const (.int .i64 1))]), (.some (124, .true))⟩, ⟨(.some 129), (.pick (.tmp 124) (.tmp 128) (.const (.bool .false))), .none⟩, ⟨(.some 5), (.mov (.tmp 129)), .none⟩]
def p8_22 : List PO := [⟨(.some 130), (.mov (.tmp 5)), .none⟩, ⟨(.some 131), (.mov (.tmp 130)), .none⟩, ⟨(.some 132), (.fld 19 (.tmp 1)), (.some (131, .true))⟩, ⟨(.some 133), (.fld 0 (.tmp 132)), (.some (131, .true))⟩, ⟨(.some 134), (.load .false 1 (.tmp 133)), (.some (131, .true))⟩, ⟨(.some 135), (.call 17 [(.tmp 134), (.const (.int .i64 0)), (.const (.int .i64 59))]), (.some (131, .true))⟩, ⟨(.some 136), (.pick (.tmp 131) (.tmp 135) (.const (.bool .false))), .none⟩, ⟨(.some 137), (.mov (.tmp 136)), .none⟩, ⟨(.some 138), (.fld 19 (.tmp 1)), (.some (137, .true))⟩, ⟨(.some 139), (.fld 1 (.tmp 138)), (.some (137, .true))⟩, ⟨(.some 140), (.load .false 1 (.tmp 139)), (.some (137, .true))⟩, ⟨(.some 141), (.call 17 [(.tmp 140), (.const (.int .i64 0)), (.const (.int .i64 159))]), (.some (137, .true))⟩, ⟨(.some 142), (.pick (.tmp 137) (.tmp 141) (.const (.bool .false))), .none⟩, ⟨(.some 5), (.mov (.tmp 142)), .none⟩]
def p8_23 : List PO := [⟨(.some 143), (.mov (.tmp 5)), .none⟩, ⟨(.some 144), (.mov (.tmp 143)), .none⟩, ⟨(.some 145), (.fld 31 (.tmp 1)), (.some (144, .true))⟩, ⟨(.some 146), (.load .false 1 (.tmp 145)), (.some (144, .true))⟩, ⟨(.some 147), (.len .true (.tmp 146)), (.some (144, .true))⟩, ⟨(.some 148), (.cmpI .leq (.tmp 147) (.const (.int .i64 256))), (.some (144, .true))⟩, ⟨(.some 149), (.pick (.tmp 144) (.tmp 148) (.const (.bool .false))), .none⟩, ⟨(.some 150), (.mov (.tmp 149)), .none⟩, ⟨(.some 151), (.fld 32 (.tmp 1)), (.some (150, .true))⟩, ⟨(.some 152), (.load .false 1 (.tmp 151)), (.some (150, .true))⟩, ⟨(.some 153), (.call 20 [(.tmp 152)]), (.some (150, .true))⟩, ⟨(.some 154), (.pick (.tmp 150) (.tmp 153) (.const (.bool .false))), .none⟩, ⟨(.some 5), (.mov (.tmp 154)), .none⟩]
def p8_24 : List PO := [⟨(.some 155), (.mov (.tmp 5)), .none⟩, ⟨(.some 156), (.un .not (.tmp 155)), .none⟩]
def p8_25 : List PO := [⟨(.some 2), (.mov (.const (.int .i64 4))), .none⟩]
def p8_26 : List PO := [⟨(.some 2), (.mov (.const (.int .i64 0))), .none⟩]
def c8_1 : PCode := (.keep [1, 5] [(16, .id 16)] [] (.seq (.reg p8_23) (.seq (.seq (.reg p8_24) (.cond (.tmp 156) (.seq (.reg p8_25) .ret) .skip)) (.seq (.reg p8_26) .ret))))
def c8_2 : PCode := (.keep [1, 5] [(16, .id 16)] [] (.seq (.reg p8_22) c8_1))
def c8_3 : PCode := (.keep [1, 5] [(16, .id 16)] [] (.seq (.reg p8_21) c8_2))
def c8_6 : PCode := (.keep [1, 5] [(16, .id 16)] [] (.seq (.seq (.reg p8_16) (.block 0 c8_5)) c8_3))
def c8_7 : PCode := (.keep [1, 5] [(16, .id 16)] [] (.seq (.reg p8_15) c8_6))
def c8_8 : PCode := (.keep [1, 3, 5] [(16, .id 16), (32, .id 32)] [] (.seq (.reg p8_14) c8_7))
def c8_9 : PCode := (.keep [1, 3, 5] [(16, .id 16), (32, .id 32)] [] (.seq (.reg p8_13) c8_8))
def c8_b : PCode := (.seq (.reg p8_10) (.seq (.regD p8_11 [(1, 4), (3, 4), (1, 5), (3, 5), (4, 5), (3, 6)]) (.seq (.reg p8_12) c8_9)))
def c8 : FCode := ⟨157, c8_b, [(.tmp 2)], some ([2], [], []), false⟩
theorem c8_ok : compF Go.Proofs.Tryz.prog [10, 11, 100013, 22, 100028, 100029, 46, 100047, 49, 61, 62, 63, 64, 65, 66, 67, 69, 70, 71, 72, 74, 86, 87, 88, 90, 91, 93, 95, 97, 99, 100, 101, 102, 106, 107, 108, 109, 123, 126, 128, 129, 131, 132, 134, 135, 137, 151, 152, 153, 154, 156] 8 = some (eraseF c8) := by kernel_rfl
def p6_5 : List PO := [⟨(.some 4), (.mov (.const (.bool .false))), .none⟩]
def p6_6 : List PO := [⟨(.some 6), (.mov (.tmp 0)), .none⟩, ⟨(.some 7), (.len .false (.tmp 6)), .none⟩, ⟨(.some 8), (.mov (.tmp 1)), .none⟩, ⟨(.some 9), (.len .false (.tmp 8)), .none⟩, ⟨(.some 10), (.cmpI .neq (.tmp 7) (.tmp 9)), .none⟩]
def p6_7 : List PO := [⟨(.some 4), (.mov (.const (.bool .false))), .none⟩]
def p6_8 : List PO := [⟨(.some 11), (.mov (.tmp 0)), .none⟩, ⟨(.some 12), (.len .false (.tmp 11)), .none⟩, ⟨(.some 13), (.mov (.const (.int .i64 0))), .none⟩]
def p6_9 : List PO := [⟨(.some 14), (.cmpI .lss (.tmp 13) (.tmp 12)), .none⟩]
def p6_10 : List PO := [⟨(.some 15), (.mov (.tmp 13)), .none⟩, ⟨(.some 5), (.mov (.tmp 15)), .none⟩]
def p6_11 : List PO := [⟨(.some 16), (.mov (.tmp 0)), .none⟩, ⟨(.some 17), (.mov (.tmp 5)), .none⟩, ⟨(.some 18), (.ixS 44 4 (.tmp 16) (.tmp 17)), .none⟩, ⟨(.some 19), (.load .true 4 (.tmp 18)), .none⟩, ⟨(.some 20), (.mov (.tmp 1)), .none⟩, ⟨(.some 21), (.mov (.tmp 5)), .none⟩, ⟨(.some 22), (.ixS 44 4 (.tmp 20) (.tmp 21)), .none⟩, ⟨(.some 23), (.load .true 4 (.tmp 22)), .none⟩, ⟨(.some 24), (.eqA .true [(4, .int)] (.tmp 19) (.tmp 23)), .none⟩]
def p6_12 : List PO := [⟨(.some 4), (.mov (.const (.bool .false))), .none⟩]
def p6_13 : List PO := [⟨(.some 25), (.arI .add (.tmp 13) (.const (.int .i64 1))), .none⟩, ⟨(.some 13), (.mov (.tmp 25)), .none⟩]
def c6_1 : PCode := (.keep [0, 1, 12, 13] [] [] (.seq (.block 1 (.seq (.reg p6_10) (.seq (.regD p6_11 []) (.cond (.tmp 24) (.seq (.reg p6_12) .ret) .skip)))) (.reg p6_13)))
def c6_2 : PCode := (.keep [0, 1, 12, 13, 14] [] [] (.seq (.cond (.tmp 14) .skip (.keep [] [] [] (.exit 0))) c6_1))
def c6_3 : PCode := (.keep [0, 1, 12, 13] [] [] (.seq (.reg p6_9) c6_2))
def p6_14 : List PO := [⟨(.some 4), (.mov (.const (.bool .true))), .none⟩]
def c6_4 : PCode := (.keep [0, 1] [] [] (.seq (.seq (.reg p6_8) (.block 0 (.loop c6_3))) (.seq (.reg p6_14) .ret)))
def c6_b : PCode := (.seq (.reg p6_5) (.seq (.seq (.reg p6_6) (.cond (.tmp 10) (.seq (.reg p6_7) .ret) .skip)) c6_4))
def c6 : FCode := ⟨26, c6_b, [(.tmp 4)], some ([4], [], []), false⟩
theorem c6_ok : compF Go.Proofs.Tryz.prog [10, 11, 100013, 22, 100028, 100029, 46, 100047, 49, 61, 62, 63, 64, 65, 66, 67, 69, 70, 71, 72, 74, 86, 87, 88, 90, 91, 93, 95, 97, 99, 100, 101, 102, 106, 107, 108, 109, 123, 126, 128, 129, 131, 132, 134, 135, 137, 151, 152, 153, 154, 156] 6 = some (eraseF c6) := by kernel_rfl
def p21_1 : List PO := [⟨(.some 2), (.nilS 44 4), .none⟩]
def p21_2 : List PO := [⟨(.some 3), (.mov (.tmp 0)), .none⟩, ⟨(.some 4), (.isN .false (.tmp 3)), .none⟩]
def p21_3 : List PO := [⟨(.some 2), (.nilS 44 4), .none⟩]
def p21_4 : List PO := [⟨(.some 5), (.bsl 44 4 0 [] []), .none⟩, ⟨(.some 6), (.mov (.tmp 0)), .none⟩, ⟨(.some 7), (.app 44 4 32 (.tmp 5) (.tmp 6)), .none⟩, ⟨(.some 2), (.mov (.tmp 7)), .none⟩]
def c21_b : PCode := (.seq (.reg p21_1) (.seq (.seq (.reg p21_2) (.cond (.tmp 4) (.seq (.reg p21_3) .ret) .skip)) (.seq (.reg p21_4) .ret)))
def c21 : FCode := ⟨8, c21_b, [(.tmp 2)], some ([2], [(97, (.slot 2 none))], []), true⟩
theorem c21_ok : compF Go.Proofs.Tryz.prog [10, 11, 100013, 22, 100028, 100029, 46, 100047, 49, 61, 62, 63, 64, 65, 66, 67, 69, 70, 71, 72, 74, 86, 87, 88, 90, 91, 93, 95, 97, 99, 100, 101, 102, 106, 107, 108, 109, 123, 126, 128, 129, 131, 132, 134, 135, 137, 151, 152, 153, 154, 156] 21 = some (eraseF c21) := by kernel_rfl
def p9_1 : List PO := [⟨(.some 2), (.box 3 (.tmp 0)), .none⟩, ⟨(.some 4), (.nilS 44 4), .none⟩]
def p9_2 : List PO := [⟨(.some 5), (.load .true 3 (.tmp 2)), .none⟩, ⟨(.some 6), (.mov (.tmp 1)), .none⟩, ⟨(.some 7), (.callr 22 [(.tmp 5), (.tmp 6)]), .none⟩, ⟨(.some 8), (.call 21 [(.tmp 7)]), .none⟩, ⟨(.some 4), (.mov (.tmp 8)), .none⟩]
def c9_b : PCode := (.seq (.reg p9_1) (.seq (.reg p9_2) .ret))
def c9 : FCode := ⟨9, c9_b, [(.tmp 4)], some ([4], [(72, .id 72)], []), false⟩
theorem c9_ok : compF Go.Proofs.Tryz.prog [10, 11, 100013, 22, 100028, 100029, 46, 100047, 49, 61, 62, 63, 64, 65, 66, 67, 69, 70, 71, 72, 74, 86, 87, 88, 90, 91, 93, 95, 97, 99, 100, 101, 102, 106, 107, 108, 109, 123, 126, 128, 129, 131, 132, 134, 135, 137, 151, 152, 153, 154, 156] 9 = some (eraseF c9) := by kernel_rfl
def p34_2 : List PO := [⟨(.some 1), (.box 6 (.tmp 0)), .none⟩, ⟨(.some 2), (.mov (.const (.bool .false))), .none⟩]
def p34_3 : List PO := [⟨(.some 6), (.fld 0 (.tmp 1)), .none⟩, ⟨(.some 7), (.load .false 1 (.tmp 6)), .none⟩, ⟨(.some 8), (.cmpI .eql (.tmp 7) (.const (.int .i64 4))), .none⟩, ⟨(.some 9), (.fld 0 (.tmp 1)), .none⟩, ⟨(.some 10), (.load .false 1 (.tmp 9)), .none⟩, ⟨(.some 11), (.cmpI .eql (.tmp 10) (.const (.int .i64 3))), .none⟩, ⟨(.some 12), (.fld 0 (.tmp 1)), .none⟩, ⟨(.some 13), (.load .false 1 (.tmp 12)), .none⟩, ⟨(.some 14), (.cmpI .eql (.tmp 13) (.const (.int .i64 5))), .none⟩, ⟨(.some 3), (.mov (.tmp 8)), .none⟩, ⟨(.some 4), (.mov (.tmp 11)), .none⟩, ⟨(.some 5), (.mov (.tmp 14)), .none⟩]
def p34_4 : List PO := [⟨(.some 15), (.mov (.tmp 3)), .none⟩, ⟨(.some 16), (.mov (.tmp 15)), .none⟩, ⟨(.some 17), (.fld 2 (.tmp 1)), (.some (16, .false))⟩, ⟨(.some 18), (.load .false 1 (.tmp 17)), (.some (16, .false))⟩, ⟨(.some 19), (.cmpI .eql (.tmp 18) (.const (.int .i64 0))), (.some (16, .false))⟩, ⟨(.some 20), (.mov (.tmp 19)), (.some (16, .false))⟩, ⟨(.some 21), (.fld 4 (.tmp 1)), (.some (20, .true))⟩, ⟨(.some 22), (.load .false 1 (.tmp 21)), (.some (20, .true))⟩, ⟨(.some 23), (.len .false (.tmp 22)), (.some (20, .true))⟩, ⟨(.some 24), (.cmpI .eql (.tmp 23) (.const (.int .i64 0))), (.some (20, .true))⟩, ⟨(.some 25), (.pick (.tmp 20) (.tmp 24) (.const (.bool .false))), (.some (16, .false))⟩, ⟨(.some 26), (.pick (.tmp 16) (.const (.bool .true)) (.tmp 25)), .none⟩, ⟨(.some 27), (.mov (.tmp 26)), .none⟩, ⟨(.some 28), (.mov (.tmp 3)), (.some (27, .true))⟩, ⟨(.some 29), (.mov (.tmp 28)), (.some (27, .true))⟩, ⟨(.some 30), (.mov (.tmp 4)), (.some (29, .false))⟩, ⟨(.some 31), (.pick (.tmp 29) (.const (.bool .true)) (.tmp 30)), (.some (27, .true))⟩, ⟨(.some 32), (.mov (.tmp 31)), (.some (27, .true))⟩, ⟨(.some 33), (.fld 3 (.tmp 1)), (.some (32, .false))⟩, ⟨(.some 34), (.load .false 1 (.tmp 33)), (.some (32, .false))⟩, ⟨(.some 35), (.strO .eql (.tmp 34) (.const (.string ⟨#[]⟩))), (.some (32, .false))⟩, ⟨(.some 36), (.pick (.tmp 32) (.const (.bool .true)) (.tmp 35)), (.some (27, .true))⟩, ⟨(.some 37), (.pick (.tmp 27) (.tmp 36) (.const (.bool .false))), .none⟩, ⟨(.some 38), (.mov (.tmp 37)), .none⟩, ⟨(.some 39), (.mov (.tmp 5)), (.some (38, .true))⟩, ⟨(.some 40), (.mov (.tmp 39)), (.some (38, .true))⟩, ⟨(.some 41), (.fld 5 (.tmp 1)), (.some (40, .false))⟩, ⟨(.some 42), (.load .false 1 (.tmp 41)), (.some (40, .false))⟩, ⟨(.some 43), (.strO .eql (.tmp 42) (.const (.string ⟨#[]⟩))), (.some (40, .false))⟩, ⟨(.some 44), (.pick (.tmp 40) (.const (.bool .true)) (.tmp 43)), (.some (38, .true))⟩, ⟨(.some 45), (.pick (.tmp 38) (.tmp 44) (.const (.bool .false))), .none⟩, ⟨(.some 46), (.mov (.tmp 45)), .none⟩, ⟨(.some 47), (.mov (.tmp 5)), (.some (46, .true))⟩, ⟨(.some 48), (.un .not (.tmp 47)), (.some (46, .true))⟩, ⟨(.some 49), (.mov (.tmp 48)), (.some (46, .true))⟩, ⟨(.some 50), (.fld 1 (.tmp 1)), (.some (49, .false))⟩, ⟨(.some 51), (.load .false 1 (.tmp 50)), (.some (49, .false))⟩, ⟨(.some 52), (.cmpI .eql (.tmp 51) (.const (.int .i64 0))), (.some (49, .false))⟩, ⟨(.some 53), (.pick (.tmp 49) (.const (.bool .true)) (.tmp 52)), (.some (46, .true))⟩, ⟨(.some 54), (.pick (.tmp 46) (.tmp 53) (.const (.bool .false))), .none⟩, ⟨(.some 2), (.mov (.tmp 54)), .none⟩]
def c34_1 : PCode := (.keep [1, 3, 4, 5] [(16, .id 16)] [] (.seq (.reg p34_4) .ret))
def c34_b : PCode := (.seq (.reg p34_2) (.seq (.regD p34_3 []) c34_1))
def c34 : FCode := ⟨55, c34_b, [(.tmp 2)], some ([2], [], []), false⟩
theorem c34_ok : compF Go.Proofs.Tryz.prog [10, 11, 100013, 22, 100028, 100029, 46, 100047, 49, 61, 62, 63, 64, 65, 66, 67, 69, 70, 71, 72, 74, 86, 87, 88, 90, 91, 93, 95, 97, 99, 100, 101, 102, 106, 107, 108, 109, 123, 126, 128, 129, 131, 132, 134, 135, 137, 151, 152, 153, 154, 156] 34 = some (eraseF c34) := by kernel_rfl
def p36_1 : List PO := [⟨(.some 6), (.mov (.const (.bool .false))), .none⟩]
def p36_2 : List PO := [⟨(.some 7), (.mov (.tmp 0)), .none⟩, ⟨(.some 8), (.mov (.tmp 1)), .none⟩, ⟨(.some 9), (.cmpI .geq (.tmp 7) (.tmp 8)), .none⟩, ⟨(.some 10), (.mov (.tmp 9)), .none⟩, ⟨(.some 11), (.mov (.tmp 0)), (.some (10, .true))⟩, ⟨(.some 12), (.mov (.tmp 2)), (.some (10, .true))⟩, ⟨(.some 13), (.cmpI .leq (.tmp 11) (.tmp 12)), (.some (10, .true))⟩, ⟨(.some 14), (.pick (.tmp 10) (.tmp 13) (.const (.bool .false))), .none⟩, ⟨(.some 6), (.mov (.tmp 14)), .none⟩]
def c36_b : PCode := (.seq (.reg p36_1) (.seq (.reg p36_2) .ret))
def c36 : FCode := ⟨15, c36_b, [(.tmp 6)], some ([6], [], []), false⟩
theorem c36_ok : compF Go.Proofs.Tryz.prog [10, 11, 100013, 22, 100028, 100029, 46, 100047, 49, 61, 62, 63, 64, 65, 66, 67, 69, 70, 71, 72, 74, 86, 87, 88, 90, 91, 93, 95, 97, 99, 100, 101, 102, 106, 107, 108, 109, 123, 126, 128, 129, 131, 132, 134, 135, 137, 151, 152, 153, 154, 156] 36 = some (eraseF c36) := by kernel_rfl
def p35_1 : List PO := [⟨(.some 2), (.mov (.const (.bool .false))), .none⟩]
def p35_2 : List PO := [⟨(.some 3), (.mov (.tmp 0)), .none⟩, ⟨(.some 4), (.call 36 [(.tmp 3), (.const (.int .i64 0)), (.const (.int .i64 1114111))]), .none⟩, ⟨(.some 5), (.mov (.tmp 4)), .none⟩, ⟨(.some 6), (.mov (.tmp 0)), (.some (5, .true))⟩, ⟨(.some 7), (.call 36 [(.tmp 6), (.const (.int .i64 55296)), (.const (.int .i64 57343))]), (.some (5, .true))⟩, ⟨(.some 8), (.un .not (.tmp 7)), (.some (5, .true))⟩, ⟨(.some 9), (.pick (.tmp 5) (.tmp 8) (.const (.bool .false))), .none⟩, ⟨(.some 2), (.mov (.tmp 9)), .none⟩]
def c35_b : PCode := (.seq (.reg p35_1) (.seq (.reg p35_2) .ret))
def c35 : FCode := ⟨10, c35_b, [(.tmp 2)], some ([2], [], []), false⟩
theorem c35_ok : compF Go.Proofs.Tryz.prog [10, 11, 100013, 22, 100028, 100029, 46, 100047, 49, 61, 62, 63, 64, 65, 66, 67, 69, 70, 71, 72, 74, 86, 87, 88, 90, 91, 93, 95, 97, 99, 100, 101, 102, 106, 107, 108, 109, 123, 126, 128, 129, 131, 132, 134, 135, 137, 151, 152, 153, 154, 156] 35 = some (eraseF c35) := by kernel_rfl
def p37_4 : List PO := [⟨(.some 4), (.mov (.const (.bool .false))), .none⟩]
def p37_5 : List PO := [⟨(.some 6), (.mov (.tmp 0)), .none⟩, ⟨(.some 7), (.len .true (.tmp 6)), .none⟩, ⟨(.some 8), (.mov (.const (.int .i64 0))), .none⟩]
def p37_6 : List PO := [⟨(.some 9), (.cmpI .lss (.tmp 8) (.tmp 7)), .none⟩]
def p37_7 : List PO := [⟨(.some 10), (.mov (.tmp 8)), .none⟩, ⟨(.some 5), (.mov (.tmp 10)), .none⟩]
def p37_8 : List PO := [⟨(.some 11), (.mov (.tmp 0)), .none⟩, ⟨(.some 12), (.mov (.tmp 5)), .none⟩, ⟨(.some 13), (.ixStr (.tmp 11) (.tmp 12)), .none⟩, ⟨(.some 14), (.cvI .i64 (.tmp 13)), .none⟩, ⟨(.some 15), (.call 36 [(.tmp 14), (.const (.int .i64 32)), (.const (.int .i64 47))]), .none⟩, ⟨(.some 16), (.un .not (.tmp 15)), .none⟩]
def p37_9 : List PO := [⟨(.some 4), (.mov (.const (.bool .false))), .none⟩]
def p37_10 : List PO := [⟨(.some 17), (.arI .add (.tmp 8) (.const (.int .i64 1))), .none⟩, ⟨(.some 8), (.mov (.tmp 17)), .none⟩]
def c37_1 : PCode := (.keep [0, 1, 7, 8] [] [] (.seq (.block 1 (.seq (.reg p37_7) (.seq (.reg p37_8) (.cond (.tmp 16) (.seq (.reg p37_9) .ret) .skip)))) (.reg p37_10)))
def c37_2 : PCode := (.keep [0, 1, 7, 8, 9] [] [] (.seq (.cond (.tmp 9) .skip (.keep [0, 1] [] [] (.exit 0))) c37_1))
def c37_3 : PCode := (.keep [0, 1, 7, 8] [] [] (.seq (.reg p37_6) c37_2))
def p37_11 : List PO := [⟨(.some 18), (.mov (.tmp 0)), .none⟩, ⟨(.some 19), (.len .true (.tmp 18)), .none⟩, ⟨(.some 20), (.mov (.tmp 1)), .none⟩, ⟨(.some 21), (.cmpI .leq (.tmp 19) (.tmp 20)), .none⟩, ⟨(.some 4), (.mov (.tmp 21)), .none⟩]
def c37_b : PCode := (.seq (.reg p37_4) (.seq (.seq (.reg p37_5) (.block 0 (.loop c37_3))) (.seq (.reg p37_11) .ret)))
def c37 : FCode := ⟨22, c37_b, [(.tmp 4)], some ([4], [], []), false⟩
theorem c37_ok : compF Go.Proofs.Tryz.prog [10, 11, 100013, 22, 100028, 100029, 46, 100047, 49, 61, 62, 63, 64, 65, 66, 67, 69, 70, 71, 72, 74, 86, 87, 88, 90, 91, 93, 95, 97, 99, 100, 101, 102, 106, 107, 108, 109, 123, 126, 128, 129, 131, 132, 134, 135, 137, 151, 152, 153, 154, 156] 37 = some (eraseF c37) := by kernel_rfl
def p39_3 : List PO := [⟨(.some 2), (.nilS 3 1), .none⟩]
def p39_4 : List PO := [⟨(.some 3), (.nilS 3 1), .none⟩]
def p39_5 : List PO := [⟨(.some 6), (.mov (.tmp 0)), .none⟩, ⟨(.some 7), (.rng (.tmp 6)), .none⟩]
def p39_6 : List PO := [⟨(.some 8), (.nxt (.tmp 7)), .none⟩, ⟨(.some 9), (.ext (.tmp 8) 0), .none⟩]
def p39_7 : List PO := [⟨(.some 10), (.ext (.tmp 8) 2), .none⟩, ⟨(.some 5), (.mov (.tmp 10)), .none⟩]
def p39_8 : List PO := [⟨(.some 11), (.mov (.tmp 3)), .none⟩, ⟨(.some 12), (.mov (.tmp 5)), .none⟩, ⟨(.some 13), (.cvI .i64 (.tmp 12)), .none⟩, ⟨(.some 14), (.bsl 3 1 1 [(1, (.int .i64 0))] [(0, (1, (.tmp 13)))]), .none⟩, ⟨(.some 15), (.app 3 1 8 (.tmp 11) (.tmp 14)), .none⟩, ⟨(.some 3), (.mov (.tmp 15)), .none⟩]
def c39_1 : PCode := (.keep [3, 7, 8] [(32, .id 32), (64, .id 64)] [] (.block 1 (.seq (.reg p39_7) (.reg p39_8))))
def c39_2 : PCode := (.keep [3, 7] [(32, .id 32), (64, .id 64)] [] (.seq (.reg p39_6) (.seq (.cond (.tmp 9) .skip (.keep [3] [(32, .id 32)] [] (.exit 0))) c39_1)))
def p39_9 : List PO := [⟨(.some 16), (.mov (.tmp 3)), .none⟩, ⟨(.some 2), (.mov (.tmp 16)), .none⟩]
def c39_b : PCode := (.seq (.reg p39_3) (.seq (.reg p39_4) (.seq (.seq (.reg p39_5) (.block 0 (.loop c39_2))) (.seq (.reg p39_9) .ret))))
def c39 : FCode := ⟨17, c39_b, [(.tmp 2)], some ([2], [(32, .id 32)], []), false⟩
theorem c39_ok : compF Go.Proofs.Tryz.prog [10, 11, 100013, 22, 100028, 100029, 46, 100047, 49, 61, 62, 63, 64, 65, 66, 67, 69, 70, 71, 72, 74, 86, 87, 88, 90, 91, 93, 95, 97, 99, 100, 101, 102, 106, 107, 108, 109, 123, 126, 128, 129, 131, 132, 134, 135, 137, 151, 152, 153, 154, 156] 39 = some (eraseF c39) := by kernel_rfl
def p54_1 : List PO := [⟨(.some 2), (.mov (.const (.bool .false))), .none⟩]
def p54_2 : List PO := [⟨(.some 3), (.mov (.tmp 0)), .none⟩, ⟨(.some 4), (.cmpI .lss (.tmp 3) (.const (.int .i64 (-1)))), .none⟩, ⟨(.some 5), (.mov (.tmp 4)), .none⟩, ⟨(.some 6), (.mov (.tmp 0)), (.some (5, .false))⟩, ⟨(.some 7), (.cmpI .gtr (.tmp 6) (.const (.int .i64 16383))), (.some (5, .false))⟩, ⟨(.some 8), (.pick (.tmp 5) (.const (.bool .true)) (.tmp 7)), .none⟩, ⟨(.some 2), (.mov (.tmp 8)), .none⟩]
def c54_b : PCode := (.seq (.reg p54_1) (.seq (.reg p54_2) .ret))
def c54 : FCode := ⟨9, c54_b, [(.tmp 2)], some ([2], [], []), false⟩
theorem c54_ok : compF Go.Proofs.Tryz.prog [10, 11, 100013, 22, 100028, 100029, 46, 100047, 49, 61, 62, 63, 64, 65, 66, 67, 69, 70, 71, 72, 74, 86, 87, 88, 90, 91, 93, 95, 97, 99, 100, 101, 102, 106, 107, 108, 109, 123, 126, 128, 129, 131, 132, 134, 135, 137, 151, 152, 153, 154, 156] 54 = some (eraseF c54) := by kernel_rfl
def p76_4 : List PO := [⟨(.some 4), (.mov (.const (.int .i64 0))), .none⟩]
def p76_5 : List PO := [⟨(.some 6), (.mov (.tmp 0)), .none⟩, ⟨(.some 7), (.len .false (.tmp 6)), .none⟩, ⟨(.some 8), (.mov (.const (.int .i64 0))), .none⟩]
def p76_6 : List PO := [⟨(.some 9), (.cmpI .lss (.tmp 8) (.tmp 7)), .none⟩]
def p76_7 : List PO := [⟨(.some 10), (.mov (.tmp 8)), .none⟩, ⟨(.some 5), (.mov (.tmp 10)), .none⟩]
def p76_8 : List PO := [⟨(.some 11), (.mov (.tmp 1)), .none⟩, ⟨(.some 12), (.mov (.tmp 0)), .none⟩, ⟨(.some 13), (.mov (.tmp 5)), .none⟩, ⟨(.some 14), (.ixS 3 1 (.tmp 12) (.tmp 13)), .none⟩, ⟨(.some 15), (.load .false 1 (.tmp 14)), .none⟩, ⟨(.some 16), (.callv (.tmp 11) [(.tmp 15)]), .none⟩]
def p76_9 : List PO := [⟨(.some 17), (.mov (.tmp 5)), .none⟩, ⟨(.some 4), (.mov (.tmp 17)), .none⟩]
def p76_10 : List PO := [⟨(.some 18), (.arI .add (.tmp 8) (.const (.int .i64 1))), .none⟩, ⟨(.some 8), (.mov (.tmp 18)), .none⟩]
def c76_1 : PCode := (.keep [0, 1, 7, 8] [] [] (.seq (.block 1 (.seq (.reg p76_7) (.seq (.reg p76_8) (.cond (.tmp 16) (.seq (.reg p76_9) .ret) .skip)))) (.reg p76_10)))
def c76_2 : PCode := (.keep [0, 1, 7, 8, 9] [] [] (.seq (.cond (.tmp 9) .skip (.keep [] [] [] (.exit 0))) c76_1))
def c76_3 : PCode := (.keep [0, 1, 7, 8] [] [] (.seq (.reg p76_6) c76_2))
def p76_11 : List PO := [⟨(.some 4), (.mov (.const (.int .i64 (-1)))), .none⟩]
def c76_b : PCode := (.seq (.reg p76_4) (.seq (.seq (.reg p76_5) (.block 0 (.loop c76_3))) (.seq (.reg p76_11) .ret)))
def c76 : FCode := ⟨19, c76_b, [(.tmp 4)], some ([4], [], []), false⟩
theorem c76_ok : compF Go.Proofs.Tryz.prog [10, 11, 100013, 22, 100028, 100029, 46, 100047, 49, 61, 62, 63, 64, 65, 66, 67, 69, 70, 71, 72, 74, 86, 87, 88, 90, 91, 93, 95, 97, 99, 100, 101, 102, 106, 107, 108, 109, 123, 126, 128, 129, 131, 132, 134, 135, 137, 151, 152, 153, 154, 156] 76 = some (eraseF c76) := by kernel_rfl
def p53_1 : List PO := [⟨(.some 4), (.mov (.const (.bool .false))), .none⟩]
def p53_2 : List PO := [⟨(.some 5), (.mov (.tmp 0)), .none⟩, ⟨(.some 6), (.mov (.tmp 1)), .none⟩, ⟨(.some 7), (.call 76 [(.tmp 5), (.tmp 6)]), .none⟩, ⟨(.some 8), (.cmpI .geq (.tmp 7) (.const (.int .i64 0))), .none⟩, ⟨(.some 4), (.mov (.tmp 8)), .none⟩]
def c53_b : PCode := (.seq (.reg p53_1) (.seq (.reg p53_2) .ret))
def c53 : FCode := ⟨9, c53_b, [(.tmp 4)], some ([4], [], []), false⟩
theorem c53_ok : compF Go.Proofs.Tryz.prog [10, 11, 100013, 22, 100028, 100029, 46, 100047, 49, 61, 62, 63, 64, 65, 66, 67, 69, 70, 71, 72, 74, 86, 87, 88, 90, 91, 93, 95, 97, 99, 100, 101, 102, 106, 107, 108, 109, 123, 126, 128, 129, 131, 132, 134, 135, 137, 151, 152, 153, 154, 156] 53 = some (eraseF c53) := by kernel_rfl
def p40_6 : List PO := [⟨(.some 2), (.mov (.const (.string ⟨#[]⟩))), .none⟩, ⟨(.some 3), (.mov (.const (.int .i64 0))), .none⟩]
def p40_7 : List PO := [⟨(.some 7), (.mov (.tmp 0)), .none⟩, ⟨(.some 8), (.len .false (.tmp 7)), .none⟩, ⟨(.some 9), (.cmpI .eql (.tmp 8) (.const (.int .i64 0))), .none⟩, ⟨(.some 10), (.mov (.tmp 9)), .none⟩, ⟨(.some 11), (.mov (.tmp 0)), (.some (10, .false))⟩, ⟨(.some 12), (.call 53 [(.tmp 11), (.func 54)]), (.some (10, .false))⟩, ⟨(.some 13), (.pick (.tmp 10) (.const (.bool .true)) (.tmp 12)), .none⟩]
def p40_8 : List PO := [⟨(.some 2), (.mov (.const (.string ⟨#[]⟩))), .none⟩, ⟨(.some 3), (.mov (.const (.int .i64 1))), .none⟩]
def p40_9 : List PO := [⟨(.some 14), (.mov (.tmp 0)), .none⟩, ⟨(.some 15), (.len .false (.tmp 14)), .none⟩, ⟨(.some 16), (.cmpI .gtr (.tmp 15) (.const (.int .i64 32))), .none⟩]
def p40_10 : List PO := [⟨(.some 2), (.mov (.const (.string ⟨#[]⟩))), .none⟩, ⟨(.some 3), (.mov (.const (.int .i64 2))), .none⟩]
def p40_11 : List PO := [⟨(.some 4), (.nilS 9 1), .none⟩]
def p40_12 : List PO := [⟨(.some 17), (.mov (.tmp 0)), .none⟩, ⟨(.some 18), (.len .false (.tmp 17)), .none⟩, ⟨(.some 19), (.mov (.const (.int .i64 0))), .none⟩]
def p40_13 : List PO := [⟨(.some 20), (.cmpI .lss (.tmp 19) (.tmp 18)), .none⟩]
def p40_14 : List PO := [⟨(.some 21), (.ixS 3 1 (.tmp 17) (.tmp 19)), .none⟩, ⟨(.some 22), (.load .false 1 (.tmp 21)), .none⟩, ⟨(.some 6), (.mov (.tmp 22)), .none⟩]
def p40_15 : List PO := [⟨(.some 23), (.mov (.tmp 6)), .none⟩, ⟨(.some 24), (.cmpI .lss (.tmp 23) (.const (.int .i64 0))), .none⟩]
def p40_16 : List PO := [⟨(.some 25), (.mov (.tmp 4)), .none⟩, ⟨(.some 26), (.bsl 9 1 1 [(1, (.string ⟨#[]⟩))] [(0, (1, (.const (.string ⟨#[]⟩))))]), .none⟩, ⟨(.some 27), (.app 9 1 16 (.tmp 25) (.tmp 26)), .none⟩, ⟨(.some 4), (.mov (.tmp 27)), .none⟩]
def p40_17 : List PO := [⟨(.some 28), (.mov (.tmp 4)), .none⟩, ⟨(.some 29), (.mov (.tmp 6)), .none⟩, ⟨(.some 30), (.call 55 [(.tmp 29)]), .none⟩, ⟨(.some 31), (.bsl 9 1 1 [(1, (.string ⟨#[]⟩))] [(0, (1, (.tmp 30)))]), .none⟩, ⟨(.some 32), (.app 9 1 16 (.tmp 28) (.tmp 31)), .none⟩, ⟨(.some 4), (.mov (.tmp 32)), .none⟩]
def p40_18 : List PO := [⟨(.some 33), (.arI .add (.tmp 19) (.const (.int .i64 1))), .none⟩, ⟨(.some 19), (.mov (.tmp 33)), .none⟩]
def c40_1 : PCode := (.keep [4, 17, 18, 19] [(40, .id 40)] [] (.seq (.block 1 (.seq (.reg p40_14) (.seq (.reg p40_15) (.cond (.tmp 24) (.reg p40_16) (.reg p40_17))))) (.reg p40_18)))
def c40_2 : PCode := (.keep [4, 17, 18, 19, 20] [(40, .id 40)] [] (.seq (.cond (.tmp 20) .skip (.keep [4] [(40, .id 40)] [] (.exit 0))) c40_1))
def c40_3 : PCode := (.keep [4, 17, 18, 19] [(40, .id 40)] [] (.seq (.reg p40_13) c40_2))
def p40_19 : List PO := [⟨(.some 34), (.mov (.tmp 4)), .none⟩, ⟨(.some 35), (.call 56 [(.tmp 34), (.const (.string ⟨#[59]⟩))]), .none⟩, ⟨(.some 2), (.mov (.tmp 35)), .none⟩, ⟨(.some 3), (.mov (.const (.int .i64 0))), .none⟩]
def c40_4 : PCode := (.keep [0] [] [] (.seq (.reg p40_11) (.seq (.seq (.reg p40_12) (.block 0 (.loop c40_3))) (.seq (.reg p40_19) .ret))))
def c40_5 : PCode := (.keep [0] [] [] (.seq (.seq (.reg p40_9) (.cond (.tmp 16) (.seq (.reg p40_10) .ret) .skip)) c40_4))
def c40_b : PCode := (.seq (.reg p40_6) (.seq (.seq (.reg p40_7) (.cond (.tmp 13) (.seq (.reg p40_8) .ret) .skip)) c40_5))
def c40 : FCode := ⟨36, c40_b, [(.tmp 2), (.tmp 3)], some ([2, 3], [], []), false⟩
theorem c40_ok : compF Go.Proofs.Tryz.prog [10, 11, 100013, 22, 100028, 100029, 46, 100047, 49, 61, 62, 63, 64, 65, 66, 67, 69, 70, 71, 72, 74, 86, 87, 88, 90, 91, 93, 95, 97, 99, 100, 101, 102, 106, 107, 108, 109, 123, 126, 128, 129, 131, 132, 134, 135, 137, 151, 152, 153, 154, 156] 40 = some (eraseF c40) := by kernel_rfl
def p23_6 : List PO := [⟨(.some 1), (.box 6 (.tmp 0)), .none⟩, ⟨(.some 2), (.nilS 3 1), .none⟩, ⟨(.some 3), (.mov (.const (.int .i64 0))), .none⟩]
def p23_7 : List PO := [⟨(.some 8), (.load .true 6 (.tmp 1)), .none⟩, ⟨(.some 9), (.call 34 [(.tmp 8)]), .none⟩, ⟨(.some 10), (.un .not (.tmp 9)), .none⟩]
def p23_8 : List PO := [⟨(.some 2), (.nilS 3 1), .none⟩, ⟨(.some 3), (.mov (.const (.int .i64 1))), .none⟩]
def p23_9 : List PO := [⟨(.some 11), (.fld 1 (.tmp 1)), .none⟩, ⟨(.some 12), (.load .false 1 (.tmp 11)), .none⟩, ⟨(.some 4), (.mov (.tmp 12)), .none⟩]
def p23_10 : List PO := [⟨(.some 13), (.fld 0 (.tmp 1)), .none⟩, ⟨(.some 14), (.load .false 1 (.tmp 13)), .none⟩]
def p23_11 : List PO := [⟨(.some 16), (.cmpI .eql (.tmp 14) (.const (.int .i64 1))), .none⟩, ⟨(.some 15), (.mov (.tmp 16)), .none⟩]
def p23_12 : List PO := [⟨(.some 17), (.mov (.tmp 4)), .none⟩, ⟨(.some 18), (.cmpI .geq (.tmp 17) (.const (.int .i64 32))), .none⟩, ⟨(.some 19), (.mov (.tmp 18)), .none⟩, ⟨(.some 20), (.mov (.tmp 4)), (.some (19, .true))⟩, ⟨(.some 21), (.call 35 [(.tmp 20)]), (.some (19, .true))⟩, ⟨(.some 22), (.pick (.tmp 19) (.tmp 21) (.const (.bool .false))), .none⟩, ⟨(.some 23), (.mov (.tmp 22)), .none⟩, ⟨(.some 24), (.mov (.tmp 4)), (.some (23, .true))⟩, ⟨(.some 25), (.call 36 [(.tmp 24), (.const (.int .i64 127)), (.const (.int .i64 159))]), (.some (23, .true))⟩, ⟨(.some 26), (.un .not (.tmp 25)), (.some (23, .true))⟩, ⟨(.some 27), (.pick (.tmp 23) (.tmp 26) (.const (.bool .false))), .none⟩]
def p23_13 : List PO := [⟨(.some 28), (.mov (.tmp 4)), .none⟩, ⟨(.some 29), (.bsl 3 1 1 [(1, (.int .i64 0))] [(0, (1, (.tmp 28)))]), .none⟩, ⟨(.some 2), (.mov (.tmp 29)), .none⟩, ⟨(.some 3), (.mov (.const (.int .i64 0))), .none⟩]
def p23_14 : List PO := [⟨(.some 31), (.cmpI .eql (.tmp 14) (.const (.int .i64 2))), .none⟩, ⟨(.some 30), (.mov (.tmp 31)), .none⟩]
def p23_15 : List PO := [⟨(.some 32), (.mov (.tmp 4)), .none⟩, ⟨(.some 33), (.call 36 [(.tmp 32), (.const (.int .i64 0)), (.const (.int .i64 31))]), .none⟩, ⟨(.some 34), (.mov (.tmp 33)), .none⟩, ⟨(.some 35), (.mov (.tmp 4)), (.some (34, .true))⟩, ⟨(.some 36), (.cmpI .neq (.tmp 35) (.const (.int .i64 24))), (.some (34, .true))⟩, ⟨(.some 37), (.pick (.tmp 34) (.tmp 36) (.const (.bool .false))), .none⟩, ⟨(.some 38), (.mov (.tmp 37)), .none⟩, ⟨(.some 39), (.mov (.tmp 4)), (.some (38, .true))⟩, ⟨(.some 40), (.cmpI .neq (.tmp 39) (.const (.int .i64 26))), (.some (38, .true))⟩, ⟨(.some 41), (.pick (.tmp 38) (.tmp 40) (.const (.bool .false))), .none⟩, ⟨(.some 42), (.mov (.tmp 41)), .none⟩, ⟨(.some 43), (.mov (.tmp 4)), (.some (42, .true))⟩, ⟨(.some 44), (.cmpI .neq (.tmp 43) (.const (.int .i64 27))), (.some (42, .true))⟩, ⟨(.some 45), (.pick (.tmp 42) (.tmp 44) (.const (.bool .false))), .none⟩]
def p23_16 : List PO := [⟨(.some 46), (.mov (.tmp 4)), .none⟩, ⟨(.some 47), (.bsl 3 1 1 [(1, (.int .i64 0))] [(0, (1, (.tmp 46)))]), .none⟩, ⟨(.some 2), (.mov (.tmp 47)), .none⟩, ⟨(.some 3), (.mov (.const (.int .i64 0))), .none⟩]
def p23_17 : List PO := [⟨(.some 49), (.cmpI .eql (.tmp 14) (.const (.int .i64 3))), .none⟩, ⟨(.some 48), (.mov (.tmp 49)), .none⟩]
def p23_18 : List PO := [⟨(.some 50), (.fld 3 (.tmp 1)), .none⟩, ⟨(.some 51), (.load .false 1 (.tmp 50)), .none⟩, ⟨(.some 52), (.call 37 [(.tmp 51), (.const (.int .i64 2))]), .none⟩, ⟨(.some 53), (.mov (.tmp 52)), .none⟩, ⟨(.some 54), (.mov (.tmp 4)), (.some (53, .true))⟩, ⟨(.some 55), (.call 36 [(.tmp 54), (.const (.int .i64 48)), (.const (.int .i64 126))]), (.some (53, .true))⟩, ⟨(.some 56), (.pick (.tmp 53) (.tmp 55) (.const (.bool .false))), .none⟩, ⟨(.some 57), (.mov (.tmp 56)), .none⟩, ⟨(.some 58), (.fld 3 (.tmp 1)), (.some (57, .true))⟩, ⟨(.some 59), (.load .false 1 (.tmp 58)), (.some (57, .true))⟩, ⟨(.some 60), (.strO .neq (.tmp 59) (.const (.string ⟨#[]⟩))), (.some (57, .true))⟩, ⟨(.some 61), (.mov (.tmp 60)), (.some (57, .true))⟩, ⟨(.some 62), (.mov (.tmp 4)), (.some (61, .false))⟩, ⟨(.some 63), (.cvI .u8 (.tmp 62)), (.some (61, .false))⟩, ⟨(.some 64), (.call 38 [(.const (.string ⟨#[91, 93, 80, 88, 94, 95]⟩)), (.tmp 63)]), (.some (61, .false))⟩, ⟨(.some 65), (.cmpI .lss (.tmp 64) (.const (.int .i64 0))), (.some (61, .false))⟩, ⟨(.some 66), (.pick (.tmp 61) (.const (.bool .true)) (.tmp 65)), (.some (57, .true))⟩, ⟨(.some 67), (.pick (.tmp 57) (.tmp 66) (.const (.bool .false))), .none⟩]
def p23_19 : List PO := [⟨(.some 68), (.bsl 3 1 1 [(1, (.int .i64 0))] [(0, (1, (.const (.int .i64 27))))]), .none⟩, ⟨(.some 69), (.fld 3 (.tmp 1)), .none⟩, ⟨(.some 70), (.load .false 1 (.tmp 69)), .none⟩, ⟨(.some 71), (.call 39 [(.tmp 70)]), .none⟩, ⟨(.some 72), (.app 3 1 8 (.tmp 68) (.tmp 71)), .none⟩, ⟨(.some 73), (.mov (.tmp 4)), .none⟩, ⟨(.some 74), (.bsl 3 1 1 [(1, (.int .i64 0))] [(0, (1, (.tmp 73)))]), .none⟩, ⟨(.some 75), (.app 3 1 8 (.tmp 72) (.tmp 74)), .none⟩, ⟨(.some 2), (.mov (.tmp 75)), .none⟩, ⟨(.some 3), (.mov (.const (.int .i64 0))), .none⟩]
def c23_1 : PCode := (.keep [1, 4] [(16, .id 16)] [] (.seq (.reg p23_19) .ret))
def p23_20 : List PO := [⟨(.some 77), (.cmpI .eql (.tmp 14) (.const (.int .i64 4))), .none⟩, ⟨(.some 76), (.mov (.tmp 77)), .none⟩]
def p23_21 : List PO := [⟨(.some 79), (.fld 4 (.tmp 1)), .none⟩, ⟨(.some 80), (.load .false 1 (.tmp 79)), .none⟩, ⟨(.some 81), (.call 40 [(.tmp 80)]), .none⟩, ⟨(.some 78), (.mov (.tmp 81)), .none⟩, ⟨(.some 82), (.ext (.tmp 78) 0), .none⟩, ⟨(.some 83), (.ext (.tmp 78) 1), .none⟩, ⟨(.some 5), (.mov (.tmp 82)), .none⟩, ⟨(.some 6), (.mov (.tmp 83)), .none⟩]
def p23_22 : List PO := [⟨(.some 84), (.fld 2 (.tmp 1)), .none⟩, ⟨(.some 85), (.load .false 1 (.tmp 84)), .none⟩, ⟨(.some 86), (.cmpI .eql (.tmp 85) (.const (.int .i64 0))), .none⟩, ⟨(.some 87), (.mov (.tmp 86)), .none⟩, ⟨(.some 88), (.fld 2 (.tmp 1)), (.some (87, .false))⟩, ⟨(.some 89), (.load .false 1 (.tmp 88)), (.some (87, .false))⟩, ⟨(.some 90), (.call 36 [(.tmp 89), (.const (.int .i64 60)), (.const (.int .i64 63))]), (.some (87, .false))⟩, ⟨(.some 91), (.pick (.tmp 87) (.const (.bool .true)) (.tmp 90)), .none⟩, ⟨(.some 92), (.mov (.tmp 91)), .none⟩, ⟨(.some 93), (.fld 3 (.tmp 1)), (.some (92, .true))⟩, ⟨(.some 94), (.load .false 1 (.tmp 93)), (.some (92, .true))⟩, ⟨(.some 95), (.call 37 [(.tmp 94), (.const (.int .i64 2))]), (.some (92, .true))⟩, ⟨(.some 96), (.pick (.tmp 92) (.tmp 95) (.const (.bool .false))), .none⟩, ⟨(.some 97), (.mov (.tmp 96)), .none⟩, ⟨(.some 98), (.mov (.tmp 4)), (.some (97, .true))⟩, ⟨(.some 99), (.call 36 [(.tmp 98), (.const (.int .i64 64)), (.const (.int .i64 126))]), (.some (97, .true))⟩, ⟨(.some 100), (.pick (.tmp 97) (.tmp 99) (.const (.bool .false))), .none⟩, ⟨(.some 101), (.mov (.tmp 100)), .none⟩, ⟨(.some 102), (.mov (.tmp 6)), (.some (101, .true))⟩, ⟨(.some 103), (.cmpI .eql (.tmp 102) (.const (.int .i64 0))), (.some (101, .true))⟩, ⟨(.some 104), (.pick (.tmp 101) (.tmp 103) (.const (.bool .false))), .none⟩, ⟨(.some 105), (.mov (.tmp 104)), .none⟩, ⟨(.some 106), (.mov (.tmp 5)), (.some (105, .true))⟩, ⟨(.some 107), (.len .true (.tmp 106)), (.some (105, .true))⟩, ⟨(.some 108), (.cmpI .leq (.tmp 107) (.const (.int .i64 100))), (.some (105, .true))⟩, ⟨(.some 109), (.pick (.tmp 105) (.tmp 108) (.const (.bool .false))), .none⟩]
def p23_23 : List PO := [⟨(.some 110), (.bsl 3 1 2 [(2, (.int .i64 0))] [(0, (1, (.const (.int .i64 27)))), (1, (1, (.const (.int .i64 91))))]), .none⟩, ⟨(.some 7), (.mov (.tmp 110)), .none⟩]
def p23_24 : List PO := [⟨(.some 111), (.fld 2 (.tmp 1)), .none⟩, ⟨(.some 112), (.load .false 1 (.tmp 111)), .none⟩, ⟨(.some 113), (.cmpI .neq (.tmp 112) (.const (.int .i64 0))), .none⟩]
def p23_25 : List PO := [⟨(.some 114), (.mov (.tmp 7)), .none⟩, ⟨(.some 115), (.fld 2 (.tmp 1)), .none⟩, ⟨(.some 116), (.load .false 1 (.tmp 115)), .none⟩, ⟨(.some 117), (.bsl 3 1 1 [(1, (.int .i64 0))] [(0, (1, (.tmp 116)))]), .none⟩, ⟨(.some 118), (.app 3 1 8 (.tmp 114) (.tmp 117)), .none⟩, ⟨(.some 7), (.mov (.tmp 118)), .none⟩]
def p23_26 : List PO := [⟨(.some 119), (.mov (.tmp 7)), .none⟩, ⟨(.some 120), (.mov (.tmp 5)), .none⟩, ⟨(.some 121), (.fld 3 (.tmp 1)), .none⟩, ⟨(.some 122), (.load .false 1 (.tmp 121)), .none⟩, ⟨(.some 123), (.strO .add (.tmp 120) (.tmp 122)), .none⟩, ⟨(.some 124), (.call 39 [(.tmp 123)]), .none⟩, ⟨(.some 125), (.app 3 1 8 (.tmp 119) (.tmp 124)), .none⟩, ⟨(.some 126), (.mov (.tmp 4)), .none⟩, ⟨(.some 127), (.bsl 3 1 1 [(1, (.int .i64 0))] [(0, (1, (.tmp 126)))]), .none⟩, ⟨(.some 128), (.app 3 1 8 (.tmp 125) (.tmp 127)), .none⟩, ⟨(.some 2), (.mov (.tmp 128)), .none⟩, ⟨(.some 3), (.mov (.const (.int .i64 0))), .none⟩]
def c23_3 : PCode := (.keep [1, 4, 5, 7] [(16, .id 16), (888, .id 888)] [] (.seq (.reg p23_26) .ret))
def c23_4 : PCode := (.keep [1, 4, 5] [(16, .id 16)] [] (.seq (.reg p23_23) (.seq (.seq (.reg p23_24) (.cond (.tmp 113) (.reg p23_25) .skip)) c23_3)))
def p23_27 : List PO := [⟨(.some 130), (.cmpI .eql (.tmp 14) (.const (.int .i64 5))), .none⟩, ⟨(.some 129), (.mov (.tmp 130)), .none⟩]
def p23_28 : List PO := [⟨(.some 131), (.fld 5 (.tmp 1)), .none⟩, ⟨(.some 132), (.load .false 1 (.tmp 131)), .none⟩, ⟨(.some 133), (.call 41 [(.tmp 132)]), .none⟩]
def p23_29 : List PO := [⟨(.some 134), (.bsl 3 1 2 [(2, (.int .i64 0))] [(0, (1, (.const (.int .i64 27)))), (1, (1, (.const (.int .i64 93))))]), .none⟩, ⟨(.some 135), (.fld 5 (.tmp 1)), .none⟩, ⟨(.some 136), (.load .false 1 (.tmp 135)), .none⟩, ⟨(.some 137), (.call 39 [(.tmp 136)]), .none⟩, ⟨(.some 138), (.app 3 1 8 (.tmp 134) (.tmp 137)), .none⟩, ⟨(.some 139), (.bsl 3 1 1 [(1, (.int .i64 0))] [(0, (1, (.const (.int .i64 7))))]), .none⟩, ⟨(.some 140), (.app 3 1 8 (.tmp 138) (.tmp 139)), .none⟩, ⟨(.some 2), (.mov (.tmp 140)), .none⟩, ⟨(.some 3), (.mov (.const (.int .i64 0))), .none⟩]
def c23_30 : PCode := (.cond (.tmp 76) (.seq (.reg p23_21) (.seq (.reg p23_22) (.cond (.tmp 109) c23_4 .skip))) (.seq (.reg p23_27) (.cond (.tmp 129) (.seq (.reg p23_28) (.cond (.tmp 133) (.seq (.reg p23_29) .ret) .skip)) .skip)))
def c23_31 : PCode := (.cond (.tmp 30) (.seq (.reg p23_15) (.cond (.tmp 45) (.seq (.reg p23_16) .ret) .skip)) (.seq (.reg p23_17) (.cond (.tmp 48) (.seq (.reg p23_18) (.cond (.tmp 67) c23_1 .skip)) (.seq (.reg p23_20) c23_30))))
def p23_32 : List PO := [⟨(.some 2), (.nilS 3 1), .none⟩, ⟨(.some 3), (.mov (.const (.int .i64 1))), .none⟩]
def c23_2 : PCode := (.seq (.reg p23_32) .ret)
def c23_5 : PCode := (.keep [1] [(16, .id 16)] [] (.seq (.reg p23_9) (.seq (.seq (.reg p23_10) (.block 0 (.seq (.reg p23_11) (.cond (.tmp 15) (.seq (.reg p23_12) (.cond (.tmp 27) (.seq (.reg p23_13) .ret) .skip)) (.seq (.reg p23_14) c23_31))))) c23_2)))
def c23_b : PCode := (.seq (.reg p23_6) (.seq (.seq (.reg p23_7) (.cond (.tmp 10) (.seq (.reg p23_8) .ret) .skip)) c23_5))
def c23 : FCode := ⟨141, c23_b, [(.tmp 2), (.tmp 3)], some ([2, 3], [(1161, (.slot 2 none))], []), false⟩
theorem c23_ok : compF Go.Proofs.Tryz.prog [10, 11, 100013, 22, 100028, 100029, 46, 100047, 49, 61, 62, 63, 64, 65, 66, 67, 69, 70, 71, 72, 74, 86, 87, 88, 90, 91, 93, 95, 97, 99, 100, 101, 102, 106, 107, 108, 109, 123, 126, 128, 129, 131, 132, 134, 135, 137, 151, 152, 153, 154, 156] 23 = some (eraseF c23) := by kernel_rfl
def p10_1 : List PO := [⟨(.some 9), (.mov (.tmp 1)), .none⟩, ⟨(.some 10), (.mov (.tmp 2)), .none⟩, ⟨(.some 11), (.build [(3, (.int .i64 0)), (1, (.string ⟨#[]⟩)), (1, (.slice .none 0 0)), (1, (.string ⟨#[]⟩))] [(0, (1, (.const (.int .i64 4)))), (1, (1, (.tmp 9))), (4, (1, (.tmp 10)))]), .none⟩, ⟨(.some 12), (.call 23 [(.tmp 11)]), .none⟩, ⟨(.some 8), (.mov (.tmp 12)), .none⟩, ⟨(.some 13), (.ext (.tmp 8) 0), .none⟩, ⟨(.some 14), (.ext (.tmp 8) 1), .none⟩, ⟨(.some 6), (.mov (.tmp 13)), .none⟩, ⟨(.some 7), (.mov (.tmp 14)), .none⟩]
def p10_2 : List PO := [⟨(.some 15), (.mov (.tmp 0)), .none⟩, ⟨(.some 16), (.mov (.tmp 0)), .none⟩, ⟨(.some 17), (.nilC (.tmp 16)), .none⟩, ⟨(.some 18), (.fld 0 (.tmp 17)), .none⟩, ⟨(.some 19), (.load .false 1 (.tmp 18)), .none⟩, ⟨(.some 20), (.mov (.tmp 6)), .none⟩, ⟨(.some 21), (.app 3 1 8 (.tmp 19) (.tmp 20)), .none⟩, ⟨(.some 22), (.nilC (.tmp 15)), .none⟩, ⟨(.some 23), (.fld 0 (.tmp 22)), .none⟩, ⟨.none, (.store 1 (.tmp 23) (.tmp 21)), .none⟩]
def c10_b : PCode := (.seq (.reg p10_1) (.reg p10_2))
def c10 : FCode := ⟨24, c10_b, [], some ([1000001, 1000002], [(0, .id 0), (2, .id 2), (1, .id 1)], []), false⟩
theorem c10_ok : compF Go.Proofs.Tryz.prog [10, 11, 100013, 22, 100028, 100029, 46, 100047, 49, 61, 62, 63, 64, 65, 66, 67, 69, 70, 71, 72, 74, 86, 87, 88, 90, 91, 93, 95, 97, 99, 100, 101, 102, 106, 107, 108, 109, 123, 126, 128, 129, 131, 132, 134, 135, 137, 151, 152, 153, 154, 156] 10 = some (eraseF c10) := by kernel_rfl
def p42_1 : List PO := [⟨(.some 2), (.mov (.const (.int .i64 0))), .none⟩]
def p42_2 : List PO := [⟨(.some 3), (.build [(10, (.int .i64 0))] [(0, (1, (.const (.int .i64 0)))), (1, (1, (.const (.int .i64 1)))), (2, (1, (.const (.int .i64 2)))), (3, (1, (.const (.int .i64 4)))), (4, (1, (.const (.int .i64 8)))), (5, (1, (.const (.int .i64 16)))), (6, (1, (.const (.int .i64 0)))), (7, (1, (.const (.int .i64 32)))), (8, (1, (.const (.int .i64 64)))), (9, (1, (.const (.int .i64 128))))]), .none⟩, ⟨(.some 4), (.mov (.tmp 0)), .none⟩, ⟨(.some 5), (.ixV .false 10 1 (.tmp 3) (.tmp 4)), .none⟩, ⟨(.some 2), (.mov (.tmp 5)), .none⟩]
def c42_b : PCode := (.seq (.reg p42_1) (.seq (.reg p42_2) .ret))
def c42 : FCode := ⟨6, c42_b, [(.tmp 2)], some ([2], [], []), false⟩
theorem c42_ok : compF Go.Proofs.Tryz.prog [10, 11, 100013, 22, 100028, 100029, 46, 100047, 49, 61, 62, 63, 64, 65, 66, 67, 69, 70, 71, 72, 74, 86, 87, 88, 90, 91, 93, 95, 97, 99, 100, 101, 102, 106, 107, 108, 109, 123, 126, 128, 129, 131, 132, 134, 135, 137, 151, 152, 153, 154, 156] 42 = some (eraseF c42) := by kernel_rfl
def p43_2 : List PO := [⟨(.some 4), (.nilS 3 1), .none⟩]
def p43_3 : List PO := [⟨(.some 6), (.mov (.tmp 0)), .none⟩, ⟨(.some 7), (.cmpI .leq (.tmp 6) (.const (.int .i64 8))), .none⟩, ⟨(.some 5), (.mov (.tmp 7)), .none⟩]
def p43_4 : List PO := [⟨(.some 8), (.mov (.tmp 1)), .none⟩, ⟨(.some 9), (.mov (.tmp 0)), .none⟩, ⟨(.some 10), (.arI .add (.tmp 8) (.tmp 9)), .none⟩, ⟨(.some 11), (.arI .sub (.tmp 10) (.const (.int .i64 1))), .none⟩, ⟨(.some 12), (.bsl 3 1 1 [(1, (.int .i64 0))] [(0, (1, (.tmp 11)))]), .none⟩, ⟨(.some 4), (.mov (.tmp 12)), .none⟩]
def p43_5 : List PO := [⟨(.some 14), (.mov (.tmp 0)), .none⟩, ⟨(.some 15), (.cmpI .leq (.tmp 14) (.const (.int .i64 16))), .none⟩, ⟨(.some 13), (.mov (.tmp 15)), .none⟩]
def p43_6 : List PO := [⟨(.some 16), (.mov (.tmp 1)), .none⟩, ⟨(.some 17), (.arI .add (.tmp 16) (.const (.int .i64 60))), .none⟩, ⟨(.some 18), (.mov (.tmp 0)), .none⟩, ⟨(.some 19), (.arI .add (.tmp 17) (.tmp 18)), .none⟩, ⟨(.some 20), (.arI .sub (.tmp 19) (.const (.int .i64 9))), .none⟩, ⟨(.some 21), (.bsl 3 1 1 [(1, (.int .i64 0))] [(0, (1, (.tmp 20)))]), .none⟩, ⟨(.some 4), (.mov (.tmp 21)), .none⟩]
def p43_7 : List PO := [⟨(.some 23), (.mov (.tmp 0)), .none⟩, ⟨(.some 24), (.cmpI .leq (.tmp 23) (.const (.int .i64 256))), .none⟩, ⟨(.some 22), (.mov (.tmp 24)), .none⟩]
def p43_8 : List PO := [⟨(.some 25), (.mov (.tmp 1)), .none⟩, ⟨(.some 26), (.arI .add (.tmp 25) (.const (.int .i64 8))), .none⟩, ⟨(.some 27), (.mov (.tmp 0)), .none⟩, ⟨(.some 28), (.arI .sub (.tmp 27) (.const (.int .i64 1))), .none⟩, ⟨(.some 29), (.bsl 3 1 3 [(3, (.int .i64 0))] [(0, (1, (.tmp 26))), (1, (1, (.const (.int .i64 5)))), (2, (1, (.tmp 28)))]), .none⟩, ⟨(.some 4), (.mov (.tmp 29)), .none⟩]
def c43_9 : PCode := (.block 0 (.seq (.reg p43_3) (.cond (.tmp 5) (.seq (.reg p43_4) .ret) (.seq (.reg p43_5) (.cond (.tmp 13) (.seq (.reg p43_6) .ret) (.seq (.reg p43_7) (.cond (.tmp 22) (.seq (.reg p43_8) .ret) .skip)))))))
def p43_10 : List PO := [⟨(.some 30), (.mov (.tmp 1)), .none⟩, ⟨(.some 31), (.arI .add (.tmp 30) (.const (.int .i64 8))), .none⟩, ⟨(.some 32), (.mov (.tmp 0)), .none⟩, ⟨(.some 33), (.sh .shr (.tmp 32) (.const (.int .u64 16))), .none⟩, ⟨(.some 34), (.arI .and (.tmp 33) (.const (.int .i64 255))), .none⟩, ⟨(.some 35), (.mov (.tmp 0)), .none⟩, ⟨(.some 36), (.sh .shr (.tmp 35) (.const (.int .u64 8))), .none⟩, ⟨(.some 37), (.arI .and (.tmp 36) (.const (.int .i64 255))), .none⟩, ⟨(.some 38), (.mov (.tmp 0)), .none⟩, ⟨(.some 39), (.arI .and (.tmp 38) (.const (.int .i64 255))), .none⟩, ⟨(.some 40), (.bsl 3 1 5 [(5, (.int .i64 0))] [(0, (1, (.tmp 31))), (1, (1, (.const (.int .i64 2)))), (2, (1, (.tmp 34))), (3, (1, (.tmp 37))), (4, (1, (.tmp 39)))]), .none⟩, ⟨(.some 4), (.mov (.tmp 40)), .none⟩]
def c43_1 : PCode := (.keep [0, 1] [] [] (.seq (.reg p43_10) .ret))
def c43_b : PCode := (.seq (.reg p43_2) (.seq c43_9 c43_1))
def c43 : FCode := ⟨41, c43_b, [(.tmp 4)], some ([4], [(361, (.slot 4 none))], []), false⟩
theorem c43_ok : compF Go.Proofs.Tryz.prog [10, 11, 100013, 22, 100028, 100029, 46, 100047, 49, 61, 62, 63, 64, 65, 66, 67, 69, 70, 71, 72, 74, 86, 87, 88, 90, 91, 93, 95, 97, 99, 100, 101, 102, 106, 107, 108, 109, 123, 126, 128, 129, 131, 132, 134, 135, 137, 151, 152, 153, 154, 156] 43 = some (eraseF c43) := by kernel_rfl
def p24_11 : List PO := [⟨(.some 2), (.box 3 (.tmp 0)), .none⟩, ⟨(.some 3), (.box 3 (.tmp 1)), .none⟩, ⟨(.some 4), (.nilS 3 1), .none⟩, ⟨(.some 5), (.mov (.const (.int .i64 0))), .none⟩]
def p24_12 : List PO := [⟨(.some 11), (.load .true 3 (.tmp 2)), .none⟩, ⟨(.some 12), (.load .true 3 (.tmp 3)), .none⟩, ⟨(.some 13), (.build [(6, (.int .i64 0))] [(0, (3, (.tmp 11))), (3, (3, (.tmp 12)))]), .none⟩, ⟨(.some 14), (.mov (.const (.int .i64 0))), .none⟩]
def p24_13 : List PO := [⟨(.some 15), (.cmpI .lss (.tmp 14) (.const (.int .i64 2))), .none⟩]
def p24_14 : List PO := [⟨(.some 16), (.ixV .true 2 3 (.tmp 13) (.tmp 14)), .none⟩, ⟨(.some 7), (.alloc [(3, (.int .i64 0))]), .none⟩, ⟨.none, (.store 3 (.tmp 7) (.tmp 16)), .none⟩]
def p24_15 : List PO := [⟨(.some 17), (.load .true 3 (.tmp 7)), .none⟩, ⟨(.some 18), (.call 18 [(.tmp 17)]), .none⟩, ⟨(.some 8), (.mov (.tmp 18)), .none⟩]
def p24_16 : List PO := [⟨(.some 19), (.mov (.tmp 8)), .none⟩, ⟨(.some 20), (.cmpI .neq (.tmp 19) (.const (.int .i64 0))), .none⟩]
def p24_17 : List PO := [⟨(.some 21), (.mov (.tmp 8)), .none⟩, ⟨(.some 4), (.nilS 3 1), .none⟩, ⟨(.some 5), (.mov (.tmp 21)), .none⟩]
def p24_18 : List PO := [⟨(.some 22), (.arI .add (.tmp 14) (.const (.int .i64 1))), .none⟩, ⟨(.some 14), (.mov (.tmp 22)), .none⟩]
def c24_9 : PCode := (.keep [2, 3, 13, 14] [(24, .id 24), (32, .id 32)] [] (.seq (.block 1 (.seq (.reg p24_14) (.seq (.reg p24_15) (.seq (.reg p24_16) (.cond (.tmp 20) (.seq (.reg p24_17) .ret) .skip))))) (.reg p24_18)))
def c24_10 : PCode := (.loop (.seq (.reg p24_13) (.seq (.cond (.tmp 15) .skip (.exit 0)) c24_9)))
def p24_19 : List PO := [⟨(.some 9), (.nilS 3 1), .none⟩]
def p24_20 : List PO := [⟨(.some 23), (.fld 0 (.tmp 2)), .none⟩, ⟨(.some 24), (.load .false 1 (.tmp 23)), .none⟩, ⟨(.some 25), (.fld 0 (.tmp 3)), .none⟩, ⟨(.some 26), (.load .false 1 (.tmp 25)), .none⟩, ⟨(.some 27), (.arI .andNot (.tmp 24) (.tmp 26)), .none⟩, ⟨(.some 28), (.cmpI .neq (.tmp 27) (.const (.int .i64 0))), .none⟩, ⟨(.some 29), (.mov (.tmp 28)), .none⟩, ⟨(.some 30), (.fld 1 (.tmp 2)), (.some (29, .false))⟩, ⟨(.some 31), (.load .false 1 (.tmp 30)), (.some (29, .false))⟩, ⟨(.some 32), (.cmpI .neq (.tmp 31) (.const (.int .i64 0))), (.some (29, .false))⟩, ⟨(.some 33), (.mov (.tmp 32)), (.some (29, .false))⟩, ⟨(.some 34), (.fld 1 (.tmp 3)), (.some (33, .true))⟩, ⟨(.some 35), (.load .false 1 (.tmp 34)), (.some (33, .true))⟩, ⟨(.some 36), (.cmpI .eql (.tmp 35) (.const (.int .i64 0))), (.some (33, .true))⟩, ⟨(.some 37), (.pick (.tmp 33) (.tmp 36) (.const (.bool .false))), (.some (29, .false))⟩, ⟨(.some 38), (.pick (.tmp 29) (.const (.bool .true)) (.tmp 37)), .none⟩, ⟨(.some 39), (.mov (.tmp 38)), .none⟩, ⟨(.some 40), (.fld 2 (.tmp 2)), (.some (39, .false))⟩, ⟨(.some 41), (.load .false 1 (.tmp 40)), (.some (39, .false))⟩, ⟨(.some 42), (.cmpI .neq (.tmp 41) (.const (.int .i64 0))), (.some (39, .false))⟩, ⟨(.some 43), (.mov (.tmp 42)), (.some (39, .false))⟩, ⟨(.some 44), (.fld 2 (.tmp 3)), (.some (43, .true))⟩, ⟨(.some 45), (.load .false 1 (.tmp 44)), (.some (43, .true))⟩, ⟨(.some 46), (.cmpI .eql (.tmp 45) (.const (.int .i64 0))), (.some (43, .true))⟩, ⟨(.some 47), (.pick (.tmp 43) (.tmp 46) (.const (.bool .false))), (.some (39, .false))⟩, ⟨(.some 48), (.pick (.tmp 39) (.const (.bool .true)) (.tmp 47)), .none⟩]
def p24_21 : List PO := [⟨(.some 49), (.mov (.tmp 9)), .none⟩, ⟨(.some 50), (.bsl 3 1 1 [(1, (.int .i64 0))] [(0, (1, (.const (.int .i64 0))))]), .none⟩, ⟨(.some 51), (.app 3 1 8 (.tmp 49) (.tmp 50)), .none⟩, ⟨(.some 52), (.build [(3, (.int .i64 0))] []), .none⟩, ⟨(.some 9), (.mov (.tmp 51)), .none⟩, ⟨.none, (.store 3 (.tmp 2) (.tmp 52)), .none⟩]
def c24_6 : PCode := (.keep [2, 3, 9] [(24, .id 24), (32, .id 32), (80, .id 80)] [] (.reg p24_21))
def c24_7 : PCode := (.keep [2, 3, 9] [(24, .id 24), (32, .id 32), (80, .id 80)] [] .skip)
def p24_22 : List PO := [⟨(.some 10), (.mov (.const (.int .i64 1))), .none⟩]
def p24_23 : List PO := [⟨(.some 53), (.mov (.tmp 10)), .none⟩, ⟨(.some 54), (.cmpI .leq (.tmp 53) (.const (.int .i64 9))), .none⟩]
def p24_24 : List PO := [⟨(.some 57), (.mov (.tmp 10)), .none⟩, ⟨(.some 58), (.call 42 [(.tmp 57)]), .none⟩, ⟨(.some 59), (.fld 0 (.tmp 3)), .none⟩, ⟨(.some 60), (.load .false 1 (.tmp 59)), .none⟩, ⟨(.some 61), (.arI .and (.tmp 58) (.tmp 60)), .none⟩, ⟨(.some 62), (.fld 0 (.tmp 2)), .none⟩, ⟨(.some 63), (.load .false 1 (.tmp 62)), .none⟩, ⟨(.some 64), (.arI .andNot (.tmp 61) (.tmp 63)), .none⟩, ⟨(.some 65), (.cmpI .neq (.tmp 64) (.const (.int .i64 0))), .none⟩]
def p24_25 : List PO := [⟨(.some 66), (.mov (.tmp 9)), .none⟩, ⟨(.some 67), (.mov (.tmp 10)), .none⟩, ⟨(.some 68), (.bsl 3 1 1 [(1, (.int .i64 0))] [(0, (1, (.tmp 67)))]), .none⟩, ⟨(.some 69), (.app 3 1 8 (.tmp 66) (.tmp 68)), .none⟩, ⟨(.some 9), (.mov (.tmp 69)), .none⟩]
def p24_26 : List PO := [⟨(.some 55), (.mov (.tmp 10)), .none⟩, ⟨(.some 56), (.arI .add (.tmp 55) (.const (.int .i64 1))), .none⟩, ⟨(.some 10), (.mov (.tmp 56)), .none⟩]
def c24_3 : PCode := (.keep [2, 3, 9, 10] [(24, .id 24), (32, .id 32), (80, .id 80)] [] (.seq (.block 3 (.seq (.regD p24_24 [(1, 3), (1, 6)]) (.cond (.tmp 65) (.reg p24_25) .skip))) (.reg p24_26)))
def c24_4 : PCode := (.keep [2, 3, 9, 10] [(24, .id 24), (32, .id 32), (80, .id 80)] [] (.seq (.seq (.reg p24_23) (.cond (.tmp 54) .skip (.keep [2, 3, 9] [(24, .id 24), (32, .id 32), (80, .id 80)] [] (.exit 2)))) c24_3))
def p24_27 : List PO := [⟨(.some 70), (.fld 1 (.tmp 3)), .none⟩, ⟨(.some 71), (.load .false 1 (.tmp 70)), .none⟩, ⟨(.some 72), (.fld 1 (.tmp 2)), .none⟩, ⟨(.some 73), (.load .false 1 (.tmp 72)), .none⟩, ⟨(.some 74), (.cmpI .neq (.tmp 71) (.tmp 73)), .none⟩]
def p24_28 : List PO := [⟨(.some 75), (.mov (.tmp 9)), .none⟩, ⟨(.some 76), (.fld 1 (.tmp 3)), .none⟩, ⟨(.some 77), (.load .false 1 (.tmp 76)), .none⟩, ⟨(.some 78), (.call 43 [(.tmp 77), (.const (.int .i64 30))]), .none⟩, ⟨(.some 79), (.app 3 1 8 (.tmp 75) (.tmp 78)), .none⟩, ⟨(.some 9), (.mov (.tmp 79)), .none⟩]
def p24_29 : List PO := [⟨(.some 80), (.fld 2 (.tmp 3)), .none⟩, ⟨(.some 81), (.load .false 1 (.tmp 80)), .none⟩, ⟨(.some 82), (.fld 2 (.tmp 2)), .none⟩, ⟨(.some 83), (.load .false 1 (.tmp 82)), .none⟩, ⟨(.some 84), (.cmpI .neq (.tmp 81) (.tmp 83)), .none⟩]
def p24_30 : List PO := [⟨(.some 85), (.mov (.tmp 9)), .none⟩, ⟨(.some 86), (.fld 2 (.tmp 3)), .none⟩, ⟨(.some 87), (.load .false 1 (.tmp 86)), .none⟩, ⟨(.some 88), (.call 43 [(.tmp 87), (.const (.int .i64 40))]), .none⟩, ⟨(.some 89), (.app 3 1 8 (.tmp 85) (.tmp 88)), .none⟩, ⟨(.some 9), (.mov (.tmp 89)), .none⟩]
def p24_31 : List PO := [⟨(.some 90), (.mov (.tmp 9)), .none⟩, ⟨(.some 4), (.mov (.tmp 90)), .none⟩, ⟨(.some 5), (.mov (.const (.int .i64 0))), .none⟩]
def c24_1 : PCode := (.keep [2, 3, 9] [(24, .id 24), (32, .id 32), (80, .id 80)] [] (.seq (.seq (.reg p24_29) (.cond (.tmp 84) (.reg p24_30) .skip)) (.seq (.reg p24_31) .ret)))
def c24_2 : PCode := (.keep [2, 3, 9] [(24, .id 24), (32, .id 32), (80, .id 80)] [] (.seq (.seq (.reg p24_27) (.cond (.tmp 74) (.reg p24_28) .skip)) c24_1))
def c24_5 : PCode := (.keep [2, 3, 9] [(24, .id 24), (32, .id 32), (80, .id 80)] [] (.seq (.seq (.reg p24_22) (.block 2 (.loop c24_4))) c24_2))
def c24_8 : PCode := (.keep [2, 3] [(24, .id 24), (32, .id 32)] [] (.seq (.reg p24_19) (.seq (.seq (.reg p24_20) (.cond (.tmp 48) c24_6 c24_7)) c24_5)))
def c24_b : PCode := (.seq (.reg p24_11) (.seq (.seq (.reg p24_12) (.block 0 c24_10)) c24_8))
def c24 : FCode := ⟨91, c24_b, [(.tmp 4), (.tmp 5)], some ([4, 5], [(761, (.slot 4 none))], []), false⟩
theorem c24_ok : compF Go.Proofs.Tryz.prog [10, 11, 100013, 22, 100028, 100029, 46, 100047, 49, 61, 62, 63, 64, 65, 66, 67, 69, 70, 71, 72, 74, 86, 87, 88, 90, 91, 93, 95, 97, 99, 100, 101, 102, 106, 107, 108, 109, 123, 126, 128, 129, 131, 132, 134, 135, 137, 151, 152, 153, 154, 156] 24 = some (eraseF c24) := by kernel_rfl
def p11_1 : List PO := [⟨(.some 3), (.box 3 (.tmp 1)), .none⟩]
def p11_2 : List PO := [⟨(.some 7), (.mov (.tmp 0)), .none⟩, ⟨(.some 8), (.nilC (.tmp 7)), .none⟩, ⟨(.some 9), (.fld 1 (.tmp 8)), .none⟩, ⟨(.some 10), (.load .true 3 (.tmp 9)), .none⟩, ⟨(.some 11), (.load .true 3 (.tmp 3)), .none⟩, ⟨(.some 12), (.call 24 [(.tmp 10), (.tmp 11)]), .none⟩, ⟨(.some 6), (.mov (.tmp 12)), .none⟩, ⟨(.some 13), (.ext (.tmp 6) 0), .none⟩, ⟨(.some 14), (.ext (.tmp 6) 1), .none⟩, ⟨(.some 4), (.mov (.tmp 13)), .none⟩, ⟨(.some 5), (.mov (.tmp 14)), .none⟩]
def p11_3 : List PO := [⟨(.some 15), (.mov (.tmp 4)), .none⟩, ⟨(.some 16), (.len .false (.tmp 15)), .none⟩, ⟨(.some 17), (.cmpI .gtr (.tmp 16) (.const (.int .i64 0))), .none⟩]
def p11_4 : List PO := [⟨(.some 18), (.mov (.tmp 0)), .none⟩, ⟨(.some 19), (.mov (.tmp 4)), .none⟩, ⟨(.some 20), (.callr 10 [(.tmp 18), (.const (.int .i64 109)), (.tmp 19)]), .none⟩]
def p11_5 : List PO := [⟨(.some 21), (.mov (.tmp 0)), .none⟩, ⟨(.some 22), (.load .true 3 (.tmp 3)), .none⟩, ⟨(.some 23), (.nilC (.tmp 21)), .none⟩, ⟨(.some 24), (.fld 1 (.tmp 23)), .none⟩, ⟨.none, (.store 3 (.tmp 24) (.tmp 22)), .none⟩]
def c11_b : PCode := (.seq (.reg p11_1) (.seq (.seq (.regD p11_2 []) (.seq (.reg p11_3) (.cond (.tmp 17) (.reg p11_4) .skip))) (.reg p11_5)))
def c11 : FCode := ⟨25, c11_b, [], some ([1000001], [(0, .id 0), (1, .id 1)], []), false⟩
theorem c11_ok : compF Go.Proofs.Tryz.prog [10, 11, 100013, 22, 100028, 100029, 46, 100047, 49, 61, 62, 63, 64, 65, 66, 67, 69, 70, 71, 72, 74, 86, 87, 88, 90, 91, 93, 95, 97, 99, 100, 101, 102, 106, 107, 108, 109, 123, 126, 128, 129, 131, 132, 134, 135, 137, 151, 152, 153, 154, 156] 11 = some (eraseF c11) := by kernel_rfl
def p4_15 : List PO := [⟨(.some 2), (.box 33 (.tmp 0)), .none⟩, ⟨(.some 3), (.box 33 (.tmp 1)), .none⟩, ⟨(.some 4), (.nilS 3 1), .none⟩, ⟨(.some 5), (.mov (.const (.int .i64 0))), .none⟩]
def p4_16 : List PO := [⟨(.some 13), (.fld 0 (.tmp 2)), .none⟩, ⟨(.some 14), (.load .true 3 (.tmp 13)), .none⟩, ⟨(.some 15), (.fld 0 (.tmp 3)), .none⟩, ⟨(.some 16), (.load .true 3 (.tmp 15)), .none⟩, ⟨(.some 6), (.alloc [(2, (.int .i64 0)), (1, (.slice .none 0 0))]), .none⟩, ⟨(.some 7), (.alloc [(2, (.int .i64 0)), (1, (.slice .none 0 0))]), .none⟩, ⟨.none, (.store 3 (.tmp 6) (.tmp 14)), .none⟩, ⟨.none, (.store 3 (.tmp 7) (.tmp 16)), .none⟩]
def p4_17 : List PO := [⟨(.some 18), (.load .true 33 (.tmp 2)), .none⟩, ⟨(.some 19), (.call 8 [(.tmp 18)]), .none⟩, ⟨(.some 20), (.cmpI .neq (.tmp 19) (.const (.int .i64 0))), .none⟩, ⟨(.some 21), (.mov (.tmp 20)), .none⟩, ⟨(.some 22), (.load .true 33 (.tmp 3)), (.some (21, .false))⟩, ⟨(.some 23), (.call 8 [(.tmp 22)]), (.some (21, .false))⟩, ⟨(.some 24), (.cmpI .neq (.tmp 23) (.const (.int .i64 0))), (.some (21, .false))⟩, ⟨(.some 25), (.pick (.tmp 21) (.const (.bool .true)) (.tmp 24)), .none⟩, ⟨(.some 17), (.mov (.tmp 25)), .none⟩]
def p4_18 : List PO := [⟨(.some 4), (.nilS 3 1), .none⟩, ⟨(.some 5), (.mov (.const (.int .i64 4))), .none⟩]
def c4_11 : PCode := (.keep [] [] [] (.seq (.reg p4_18) .ret))
def p4_19 : List PO := [⟨(.some 27), (.fld 0 (.tmp 6)), .none⟩, ⟨(.some 28), (.load .false 1 (.tmp 27)), .none⟩, ⟨(.some 29), (.fld 0 (.tmp 7)), .none⟩, ⟨(.some 30), (.load .false 1 (.tmp 29)), .none⟩, ⟨(.some 31), (.cmpI .neq (.tmp 28) (.tmp 30)), .none⟩, ⟨(.some 32), (.mov (.tmp 31)), .none⟩, ⟨(.some 33), (.fld 1 (.tmp 6)), (.some (32, .false))⟩, ⟨(.some 34), (.load .false 1 (.tmp 33)), (.some (32, .false))⟩, ⟨(.some 35), (.fld 1 (.tmp 7)), (.some (32, .false))⟩, ⟨(.some 36), (.load .false 1 (.tmp 35)), (.some (32, .false))⟩, ⟨(.some 37), (.cmpI .neq (.tmp 34) (.tmp 36)), (.some (32, .false))⟩, ⟨(.some 38), (.pick (.tmp 32) (.const (.bool .true)) (.tmp 37)), .none⟩, ⟨(.some 26), (.mov (.tmp 38)), .none⟩]
def p4_20 : List PO := [⟨(.some 4), (.nilS 3 1), .none⟩, ⟨(.some 5), (.mov (.const (.int .i64 1))), .none⟩]
def c4_12 : PCode := (.keep [] [] [] (.seq (.reg p4_20) .ret))
def p4_21 : List PO := [⟨(.some 40), (.fld 11 (.tmp 2)), .none⟩, ⟨(.some 41), (.load .false 1 (.tmp 40)), .none⟩, ⟨(.some 42), (.arI .and (.tmp 41) (.const (.int .i64 3))), .none⟩, ⟨(.some 43), (.cmpI .neq (.tmp 42) (.const (.int .i64 0))), .none⟩, ⟨(.some 44), (.mov (.tmp 43)), .none⟩, ⟨(.some 45), (.fld 18 (.tmp 2)), (.some (44, .false))⟩, ⟨(.some 46), (.load .false 1 (.tmp 45)), (.some (44, .false))⟩, ⟨(.some 47), (.fld 16 (.tmp 2)), (.some (44, .false))⟩, ⟨(.some 48), (.ixA 2 1 (.tmp 47) (.tmp 46)), (.some (44, .false))⟩, ⟨(.some 49), (.load .false 1 (.tmp 48)), (.some (44, .false))⟩, ⟨(.some 50), (.cmpI .neq (.tmp 49) (.const (.int .i64 1))), (.some (44, .false))⟩, ⟨(.some 51), (.pick (.tmp 44) (.const (.bool .true)) (.tmp 50)), .none⟩, ⟨(.some 39), (.mov (.tmp 51)), .none⟩]
def p4_22 : List PO := [⟨(.some 4), (.nilS 3 1), .none⟩, ⟨(.some 5), (.mov (.const (.int .i64 7))), .none⟩]
def c4_13 : PCode := (.keep [] [] [] (.seq (.reg p4_22) .ret))
def p4_23 : List PO := [⟨(.some 53), (.fld 2 (.tmp 6)), .none⟩, ⟨(.some 54), (.load .false 1 (.tmp 53)), .none⟩, ⟨(.some 55), (.fld 2 (.tmp 7)), .none⟩, ⟨(.some 56), (.load .false 1 (.tmp 55)), .none⟩, ⟨(.some 57), (.call 6 [(.tmp 54), (.tmp 56)]), .none⟩, ⟨(.some 58), (.mov (.tmp 57)), .none⟩, ⟨(.some 59), (.fld 3 (.tmp 2)), (.some (58, .true))⟩, ⟨(.some 60), (.load .false 1 (.tmp 59)), (.some (58, .true))⟩, ⟨(.some 61), (.fld 3 (.tmp 3)), (.some (58, .true))⟩, ⟨(.some 62), (.load .false 1 (.tmp 61)), (.some (58, .true))⟩, ⟨(.some 63), (.cmpI .eql (.tmp 60) (.tmp 62)), (.some (58, .true))⟩, ⟨(.some 64), (.pick (.tmp 58) (.tmp 63) (.const (.bool .false))), .none⟩, ⟨(.some 65), (.mov (.tmp 64)), .none⟩, ⟨(.some 66), (.fld 4 (.tmp 2)), (.some (65, .true))⟩, ⟨(.some 67), (.load .false 1 (.tmp 66)), (.some (65, .true))⟩, ⟨(.some 68), (.fld 4 (.tmp 3)), (.some (65, .true))⟩, ⟨(.some 69), (.load .false 1 (.tmp 68)), (.some (65, .true))⟩, ⟨(.some 70), (.cmpI .eql (.tmp 67) (.tmp 69)), (.some (65, .true))⟩, ⟨(.some 71), (.pick (.tmp 65) (.tmp 70) (.const (.bool .false))), .none⟩, ⟨(.some 72), (.mov (.tmp 71)), .none⟩, ⟨(.some 73), (.fld 8 (.tmp 2)), (.some (72, .true))⟩, ⟨(.some 74), (.load .true 3 (.tmp 73)), (.some (72, .true))⟩, ⟨(.some 75), (.fld 8 (.tmp 3)), (.some (72, .true))⟩, ⟨(.some 76), (.load .true 3 (.tmp 75)), (.some (72, .true))⟩, ⟨(.some 77), (.eqA .false [(3, .int)] (.tmp 74) (.tmp 76)), (.some (72, .true))⟩, ⟨(.some 78), (.pick (.tmp 72) (.tmp 77) (.const (.bool .false))), .none⟩, ⟨(.some 52), (.mov (.tmp 78)), .none⟩]
def p4_24 : List PO := [⟨(.some 4), (.nilS 3 1), .none⟩, ⟨(.some 5), (.mov (.const (.int .i64 0))), .none⟩]
def c4_14 : PCode := (.keep [2, 3, 6, 7] [(24, .id 24), (32, .id 32), (56, .id 56), (64, .id 64)] [] (.seq (.reg p4_23) (.cond (.tmp 52) (.seq (.reg p4_24) .ret) .skip)))
def p4_25 : List PO := [⟨(.some 79), (.fld 8 (.tmp 2)), .none⟩, ⟨(.some 80), (.load .true 3 (.tmp 79)), .none⟩, ⟨(.some 81), (.build [(1, (.slice .none 0 0)), (3, (.int .i64 0))] [(1, (3, (.tmp 80)))]), .none⟩, ⟨(.some 82), (.box 4 (.tmp 81)), .none⟩, ⟨(.some 8), (.mov (.tmp 82)), .none⟩]
def p4_26 : List PO := [⟨(.some 83), (.fld 1 (.tmp 7)), .none⟩, ⟨(.some 84), (.load .false 1 (.tmp 83)), .none⟩, ⟨(.some 85), (.mov (.const (.int .i64 0))), .none⟩]
def p4_27 : List PO := [⟨(.some 86), (.cmpI .lss (.tmp 85) (.tmp 84)), .none⟩]
def p4_28 : List PO := [⟨(.some 87), (.mov (.tmp 85)), .none⟩, ⟨(.some 9), (.mov (.tmp 87)), .none⟩]
def p4_29 : List PO := [⟨(.some 88), (.load .true 3 (.tmp 7)), .none⟩, ⟨(.some 89), (.mov (.tmp 9)), .none⟩, ⟨(.some 90), (.call 9 [(.tmp 88), (.tmp 89)]), .none⟩, ⟨(.some 10), (.mov (.tmp 90)), .none⟩]
def p4_30 : List PO := [⟨(.some 91), (.load .true 3 (.tmp 6)), .none⟩, ⟨(.some 92), (.mov (.tmp 9)), .none⟩, ⟨(.some 93), (.call 9 [(.tmp 91), (.tmp 92)]), .none⟩, ⟨(.some 94), (.mov (.tmp 10)), .none⟩, ⟨(.some 95), (.call 6 [(.tmp 93), (.tmp 94)]), .none⟩]
def p4_31 : List PO := [⟨(.some 96), (.mov (.tmp 8)), .none⟩, ⟨(.some 97), (.mov (.tmp 9)), .none⟩, ⟨(.some 98), (.arI .add (.tmp 97) (.const (.int .i64 1))), .none⟩, ⟨(.some 99), (.bsl 3 1 2 [(2, (.int .i64 0))] [(0, (1, (.tmp 98))), (1, (1, (.const (.int .i64 1))))]), .none⟩, ⟨(.some 100), (.callr 10 [(.tmp 96), (.const (.int .i64 72)), (.tmp 99)]), .none⟩]
def p4_32 : List PO := [⟨(.some 101), (.mov (.tmp 10)), .none⟩, ⟨(.some 102), (.len .false (.tmp 101)), .none⟩, ⟨(.some 103), (.mov (.const (.int .i64 0))), .none⟩]
def p4_33 : List PO := [⟨(.some 104), (.cmpI .lss (.tmp 103) (.tmp 102)), .none⟩]
def p4_34 : List PO := [⟨(.some 105), (.ixS 44 4 (.tmp 101) (.tmp 103)), .none⟩, ⟨(.some 106), (.load .true 4 (.tmp 105)), .none⟩, ⟨(.some 12), (.alloc [(4, (.int .i64 0))]), .none⟩, ⟨.none, (.store 4 (.tmp 12) (.tmp 106)), .none⟩]
def p4_35 : List PO := [⟨(.some 107), (.fld 0 (.tmp 12)), .none⟩, ⟨(.some 108), (.load .false 1 (.tmp 107)), .none⟩, ⟨(.some 109), (.cmpI .neq (.tmp 108) (.const (.int .i64 0))), .none⟩]
def p4_36 : List PO := [⟨(.some 110), (.mov (.tmp 8)), .none⟩, ⟨(.some 111), (.fld 1 (.tmp 12)), .none⟩, ⟨(.some 112), (.load .true 3 (.tmp 111)), .none⟩, ⟨(.some 113), (.callr 11 [(.tmp 110), (.tmp 112)]), .none⟩]
def p4_37 : List PO := [⟨(.some 114), (.mov (.tmp 8)), .none⟩, ⟨(.some 115), (.mov (.tmp 8)), .none⟩, ⟨(.some 116), (.nilC (.tmp 115)), .none⟩, ⟨(.some 117), (.fld 0 (.tmp 116)), .none⟩, ⟨(.some 118), (.load .false 1 (.tmp 117)), .none⟩, ⟨(.some 119), (.fld 0 (.tmp 12)), .none⟩, ⟨(.some 120), (.load .false 1 (.tmp 119)), .none⟩, ⟨(.some 121), (.bsl 3 1 1 [(1, (.int .i64 0))] [(0, (1, (.tmp 120)))]), .none⟩, ⟨(.some 122), (.app 3 1 8 (.tmp 118) (.tmp 121)), .none⟩, ⟨(.some 123), (.nilC (.tmp 114)), .none⟩, ⟨(.some 124), (.fld 0 (.tmp 123)), .none⟩, ⟨.none, (.store 1 (.tmp 124) (.tmp 122)), .none⟩]
def p4_38 : List PO := [⟨(.some 125), (.arI .add (.tmp 103) (.const (.int .i64 1))), .none⟩, ⟨(.some 103), (.mov (.tmp 125)), .none⟩]
def c4_2 : PCode := (.keep [3, 6, 7, 8, 84, 85, 101, 102, 103] [(32, .id 32), (56, .id 56), (64, .id 64), (664, .id 664), (1185, .id 1185), (728, .id 728)] [] (.seq (.block 4 (.seq (.reg p4_34) (.seq (.reg p4_35) (.cond (.tmp 109) (.seq (.reg p4_36) (.regD p4_37 [(4, 7)])) .skip)))) (.reg p4_38)))
def c4_3 : PCode := (.keep [3, 6, 7, 8, 84, 85, 101, 102, 103, 104] [(32, .id 32), (56, .id 56), (64, .id 64), (664, .id 664), (1185, .id 1185), (728, .id 728)] [] (.seq (.cond (.tmp 104) .skip (.keep [3, 6, 7, 8, 84, 85] [(32, .id 32), (56, .id 56), (64, .id 64), (664, .id 664), (1185, .id 1185)] [] (.exit 3))) c4_2))
def c4_4 : PCode := (.keep [3, 6, 7, 8, 84, 85, 101, 102, 103] [(32, .id 32), (56, .id 56), (64, .id 64), (664, .id 664), (1185, .id 1185), (728, .id 728)] [] (.seq (.reg p4_33) c4_3))
def c4_5 : PCode := (.keep [3, 6, 7, 8, 9, 10, 84, 85] [(32, .id 32), (56, .id 56), (64, .id 64), (664, .id 664), (1185, .id 1185), (728, .id 728)] [] (.seq (.reg p4_31) (.seq (.reg p4_32) (.block 3 (.loop c4_4)))))
def p4_39 : List PO := [⟨(.some 126), (.arI .add (.tmp 85) (.const (.int .i64 1))), .none⟩, ⟨(.some 85), (.mov (.tmp 126)), .none⟩]
def c4_6 : PCode := (.reg p4_39)
def c4_7 : PCode := (.keep [3, 6, 7, 8, 84, 85] [(32, .id 32), (56, .id 56), (64, .id 64), (664, .id 664), (1185, .id 1185)] [] (.seq (.block 2 (.seq (.reg p4_28) (.seq (.reg p4_29) (.seq (.seq (.reg p4_30) (.cond (.tmp 95) (.exit 2) .skip)) c4_5)))) c4_6))
def c4_8 : PCode := (.keep [3, 6, 7, 8, 84, 85, 86] [(32, .id 32), (56, .id 56), (64, .id 64), (664, .id 664), (1185, .id 1185)] [] (.seq (.cond (.tmp 86) .skip (.keep [3, 8] [(32, .id 32), (664, .id 664), (1185, .id 1185)] [] (.exit 1))) c4_7))
def c4_9 : PCode := (.keep [3, 6, 7, 8, 84, 85] [(32, .id 32), (56, .id 56), (64, .id 64), (664, .id 664), (1185, (.cell 664 0))] [.cell 664 0 1185 3 1] (.seq (.reg p4_27) c4_8))
def p4_40 : List PO := [⟨(.some 127), (.mov (.tmp 8)), .none⟩, ⟨(.some 128), (.fld 8 (.tmp 3)), .none⟩, ⟨(.some 129), (.load .true 3 (.tmp 128)), .none⟩, ⟨(.some 130), (.callr 11 [(.tmp 127), (.tmp 129)]), .none⟩]
def p4_41 : List PO := [⟨(.some 131), (.mov (.tmp 8)), .none⟩, ⟨(.some 132), (.fld 3 (.tmp 3)), .none⟩, ⟨(.some 133), (.load .false 1 (.tmp 132)), .none⟩, ⟨(.some 134), (.arI .add (.tmp 133) (.const (.int .i64 1))), .none⟩, ⟨(.some 135), (.fld 4 (.tmp 3)), .none⟩, ⟨(.some 136), (.load .false 1 (.tmp 135)), .none⟩, ⟨(.some 137), (.arI .add (.tmp 136) (.const (.int .i64 1))), .none⟩, ⟨(.some 138), (.bsl 3 1 2 [(2, (.int .i64 0))] [(0, (1, (.tmp 134))), (1, (1, (.tmp 137)))]), .none⟩, ⟨(.some 139), (.callr 10 [(.tmp 131), (.const (.int .i64 72)), (.tmp 138)]), .none⟩]
def p4_42 : List PO := [⟨(.some 140), (.mov (.tmp 8)), .none⟩, ⟨(.some 141), (.nilC (.tmp 140)), .none⟩, ⟨(.some 142), (.fld 0 (.tmp 141)), .none⟩, ⟨(.some 143), (.load .false 1 (.tmp 142)), .none⟩, ⟨(.some 4), (.mov (.tmp 143)), .none⟩, ⟨(.some 5), (.mov (.const (.int .i64 0))), .none⟩]
def c4_1 : PCode := (.keep [3, 8] [(32, .id 32), (664, .id 664), (1185, .id 1185)] [] (.seq (.reg p4_40) (.seq (.reg p4_41) (.seq (.reg p4_42) .ret))))
def c4_10 : PCode := (.keep [2, 3, 6, 7] [(24, .id 24), (32, .id 32), (56, .id 56), (64, .id 64)] [] (.seq (.reg p4_25) (.seq (.seq (.reg p4_26) (.block 1 (.loop c4_9))) c4_1)))
def c4_43 : PCode := (.seq (.regD p4_16 [(1, 4), (3, 4), (1, 5), (3, 5), (4, 5), (3, 6)]) (.seq (.block 0 (.seq (.reg p4_17) (.cond (.tmp 17) c4_11 (.seq (.reg p4_19) (.cond (.tmp 26) c4_12 (.seq (.reg p4_21) (.cond (.tmp 39) c4_13 c4_14))))))) c4_10))
def c4_b : PCode := (.seq (.reg p4_15) c4_43)
def c4 : FCode := ⟨144, c4_b, [(.tmp 4), (.tmp 5)], some ([4, 5], [(1186, (.slot 4 none))], []), false⟩
theorem c4_ok : compF Go.Proofs.Tryz.prog [10, 11, 100013, 22, 100028, 100029, 46, 100047, 49, 61, 62, 63, 64, 65, 66, 67, 69, 70, 71, 72, 74, 86, 87, 88, 90, 91, 93, 95, 97, 99, 100, 101, 102, 106, 107, 108, 109, 123, 126, 128, 129, 131, 132, 134, 135, 137, 151, 152, 153, 154, 156] 4 = some (eraseF c4) := by kernel_rfl
def p15_1 : List PO := [⟨(.some 2), (.box 3 (.tmp 0)), .none⟩, ⟨(.some 3), (.box 3 (.tmp 1)), .none⟩, ⟨(.some 4), (.mov (.const (.bool .false))), .none⟩]
def p15_2 : List PO := [⟨(.some 5), (.fld 0 (.tmp 2)), .none⟩, ⟨(.some 6), (.load .false 1 (.tmp 5)), .none⟩, ⟨(.some 7), (.fld 0 (.tmp 3)), .none⟩, ⟨(.some 8), (.load .false 1 (.tmp 7)), .none⟩, ⟨(.some 9), (.cmpI .eql (.tmp 6) (.tmp 8)), .none⟩, ⟨(.some 10), (.mov (.tmp 9)), .none⟩, ⟨(.some 11), (.fld 1 (.tmp 2)), (.some (10, .true))⟩, ⟨(.some 12), (.load .false 1 (.tmp 11)), (.some (10, .true))⟩, ⟨(.some 13), (.fld 1 (.tmp 3)), (.some (10, .true))⟩, ⟨(.some 14), (.load .false 1 (.tmp 13)), (.some (10, .true))⟩, ⟨(.some 15), (.cmpI .eql (.tmp 12) (.tmp 14)), (.some (10, .true))⟩, ⟨(.some 16), (.pick (.tmp 10) (.tmp 15) (.const (.bool .false))), .none⟩, ⟨(.some 17), (.mov (.tmp 16)), .none⟩, ⟨(.some 18), (.fld 2 (.tmp 2)), (.some (17, .true))⟩, ⟨(.some 19), (.load .false 1 (.tmp 18)), (.some (17, .true))⟩, ⟨(.some 20), (.fld 2 (.tmp 3)), (.some (17, .true))⟩, ⟨(.some 21), (.load .false 1 (.tmp 20)), (.some (17, .true))⟩, ⟨(.some 22), (.call 6 [(.tmp 19), (.tmp 21)]), (.some (17, .true))⟩, ⟨(.some 23), (.pick (.tmp 17) (.tmp 22) (.const (.bool .false))), .none⟩, ⟨(.some 4), (.mov (.tmp 23)), .none⟩]
def c15_b : PCode := (.seq (.reg p15_1) (.seq (.reg p15_2) .ret))
def c15 : FCode := ⟨24, c15_b, [(.tmp 4)], some ([4], [], []), false⟩
theorem c15_ok : compF Go.Proofs.Tryz.prog [10, 11, 100013, 22, 100028, 100029, 46, 100047, 49, 61, 62, 63, 64, 65, 66, 67, 69, 70, 71, 72, 74, 86, 87, 88, 90, 91, 93, 95, 97, 99, 100, 101, 102, 106, 107, 108, 109, 123, 126, 128, 129, 131, 132, 134, 135, 137, 151, 152, 153, 154, 156] 15 = some (eraseF c15) := by kernel_rfl
def p7_1 : List PO := [⟨(.some 2), (.box 33 (.tmp 0)), .none⟩, ⟨(.some 3), (.box 33 (.tmp 1)), .none⟩, ⟨(.some 4), (.mov (.const (.bool .false))), .none⟩]
def p7_2 : List PO := [⟨(.some 5), (.fld 0 (.tmp 2)), .none⟩, ⟨(.some 6), (.load .true 3 (.tmp 5)), .none⟩, ⟨(.some 7), (.fld 0 (.tmp 3)), .none⟩, ⟨(.some 8), (.load .true 3 (.tmp 7)), .none⟩, ⟨(.some 9), (.call 15 [(.tmp 6), (.tmp 8)]), .none⟩, ⟨(.some 10), (.mov (.tmp 9)), .none⟩, ⟨(.some 11), (.fld 3 (.tmp 2)), (.some (10, .true))⟩, ⟨(.some 12), (.load .false 1 (.tmp 11)), (.some (10, .true))⟩, ⟨(.some 13), (.fld 3 (.tmp 3)), (.some (10, .true))⟩, ⟨(.some 14), (.load .false 1 (.tmp 13)), (.some (10, .true))⟩, ⟨(.some 15), (.cmpI .eql (.tmp 12) (.tmp 14)), (.some (10, .true))⟩, ⟨(.some 16), (.pick (.tmp 10) (.tmp 15) (.const (.bool .false))), .none⟩, ⟨(.some 17), (.mov (.tmp 16)), .none⟩, ⟨(.some 18), (.fld 4 (.tmp 2)), (.some (17, .true))⟩, ⟨(.some 19), (.load .false 1 (.tmp 18)), (.some (17, .true))⟩, ⟨(.some 20), (.fld 4 (.tmp 3)), (.some (17, .true))⟩, ⟨(.some 21), (.load .false 1 (.tmp 20)), (.some (17, .true))⟩, ⟨(.some 22), (.cmpI .eql (.tmp 19) (.tmp 21)), (.some (17, .true))⟩, ⟨(.some 23), (.pick (.tmp 17) (.tmp 22) (.const (.bool .false))), .none⟩, ⟨(.some 24), (.mov (.tmp 23)), .none⟩, ⟨(.some 25), (.fld 8 (.tmp 2)), (.some (24, .true))⟩, ⟨(.some 26), (.load .true 3 (.tmp 25)), (.some (24, .true))⟩, ⟨(.some 27), (.fld 8 (.tmp 3)), (.some (24, .true))⟩, ⟨(.some 28), (.load .true 3 (.tmp 27)), (.some (24, .true))⟩, ⟨(.some 29), (.eqA .false [(3, .int)] (.tmp 26) (.tmp 28)), (.some (24, .true))⟩, ⟨(.some 30), (.pick (.tmp 24) (.tmp 29) (.const (.bool .false))), .none⟩, ⟨(.some 4), (.mov (.tmp 30)), .none⟩]
def c7_b : PCode := (.seq (.reg p7_1) (.seq (.reg p7_2) .ret))
def c7 : FCode := ⟨31, c7_b, [(.tmp 4)], some ([4], [], []), false⟩
theorem c7_ok : compF Go.Proofs.Tryz.prog [10, 11, 100013, 22, 100028, 100029, 46, 100047, 49, 61, 62, 63, 64, 65, 66, 67, 69, 70, 71, 72, 74, 86, 87, 88, 90, 91, 93, 95, 97, 99, 100, 101, 102, 106, 107, 108, 109, 123, 126, 128, 129, 131, 132, 134, 135, 137, 151, 152, 153, 154, 156] 7 = some (eraseF c7) := by kernel_rfl
def p3_6 : List PO := [⟨(.some 2), (.box 33 (.tmp 0)), .none⟩, ⟨(.some 3), (.box 33 (.tmp 1)), .none⟩, ⟨(.some 4), (.mov (.const (.bool .false))), .none⟩]
def p3_7 : List PO := [⟨(.some 11), (.load .true 33 (.tmp 2)), .none⟩, ⟨(.some 12), (.load .true 33 (.tmp 3)), .none⟩, ⟨(.some 13), (.call 4 [(.tmp 11), (.tmp 12)]), .none⟩, ⟨(.some 10), (.mov (.tmp 13)), .none⟩, ⟨(.some 14), (.ext (.tmp 10) 0), .none⟩, ⟨(.some 15), (.ext (.tmp 10) 1), .none⟩, ⟨(.some 5), (.mov (.tmp 14)), .none⟩, ⟨(.some 6), (.mov (.tmp 15)), .none⟩]
def p3_8 : List PO := [⟨(.some 16), (.call 5 []), .none⟩, ⟨(.some 17), (.un .not (.tmp 16)), .none⟩, ⟨(.some 18), (.mov (.tmp 17)), .none⟩, ⟨(.some 19), (.mov (.tmp 6)), (.some (18, .false))⟩, ⟨(.some 20), (.cmpI .neq (.tmp 19) (.const (.int .i64 0))), (.some (18, .false))⟩, ⟨(.some 21), (.pick (.tmp 18) (.const (.bool .true)) (.tmp 20)), .none⟩]
def p3_9 : List PO := [⟨(.some 22), (.call 5 []), .none⟩, ⟨(.some 4), (.mov (.tmp 22)), .none⟩]
def p3_10 : List PO := [⟨(.some 23), (.fld 0 (.tmp 2)), .none⟩, ⟨(.some 24), (.fld 0 (.tmp 23)), .none⟩, ⟨(.some 25), (.load .false 1 (.tmp 24)), .none⟩, ⟨(.some 7), (.mov (.const (.int .i64 200))), .none⟩, ⟨(.some 8), (.mov (.tmp 25)), .none⟩]
def p3_11 : List PO := [⟨(.some 26), (.fld 0 (.tmp 2)), .none⟩, ⟨(.some 27), (.fld 1 (.tmp 26)), .none⟩, ⟨(.some 28), (.load .false 1 (.tmp 27)), .none⟩, ⟨(.some 29), (.mov (.const (.int .i64 0))), .none⟩]
def p3_12 : List PO := [⟨(.some 30), (.cmpI .lss (.tmp 29) (.tmp 28)), .none⟩]
def p3_13 : List PO := [⟨(.some 31), (.mov (.tmp 29)), .none⟩, ⟨(.some 9), (.mov (.tmp 31)), .none⟩]
def p3_14 : List PO := [⟨(.some 32), (.fld 0 (.tmp 2)), .none⟩, ⟨(.some 33), (.fld 2 (.tmp 32)), .none⟩, ⟨(.some 34), (.load .false 1 (.tmp 33)), .none⟩, ⟨(.some 35), (.mov (.tmp 9)), .none⟩, ⟨(.some 36), (.mov (.tmp 8)), .none⟩, ⟨(.some 37), (.arI .mul (.tmp 35) (.tmp 36)), .none⟩, ⟨(.some 38), (.mov (.tmp 9)), .none⟩, ⟨(.some 39), (.arI .add (.tmp 38) (.const (.int .i64 1))), .none⟩, ⟨(.some 40), (.mov (.tmp 8)), .none⟩, ⟨(.some 41), (.arI .mul (.tmp 39) (.tmp 40)), .none⟩, ⟨(.some 42), (.slS 44 4 (.tmp 34) (.some (.tmp 37)) (.some (.tmp 41))), .none⟩, ⟨(.some 43), (.fld 0 (.tmp 3)), .none⟩, ⟨(.some 44), (.fld 2 (.tmp 43)), .none⟩, ⟨(.some 45), (.load .false 1 (.tmp 44)), .none⟩, ⟨(.some 46), (.mov (.tmp 9)), .none⟩, ⟨(.some 47), (.mov (.tmp 8)), .none⟩, ⟨(.some 48), (.arI .mul (.tmp 46) (.tmp 47)), .none⟩, ⟨(.some 49), (.mov (.tmp 9)), .none⟩, ⟨(.some 50), (.arI .add (.tmp 49) (.const (.int .i64 1))), .none⟩, ⟨(.some 51), (.mov (.tmp 8)), .none⟩, ⟨(.some 52), (.arI .mul (.tmp 50) (.tmp 51)), .none⟩, ⟨(.some 53), (.slS 44 4 (.tmp 45) (.some (.tmp 48)) (.some (.tmp 52))), .none⟩, ⟨(.some 54), (.call 6 [(.tmp 42), (.tmp 53)]), .none⟩]
def p3_15 : List PO := [⟨(.some 55), (.mov (.tmp 7)), .none⟩, ⟨(.some 56), (.arI .add (.tmp 55) (.const (.int .i64 100))), .none⟩, ⟨(.some 7), (.mov (.tmp 56)), .none⟩]
def p3_16 : List PO := [⟨(.some 57), (.mov (.tmp 7)), .none⟩, ⟨(.some 58), (.mov (.tmp 8)), .none⟩, ⟨(.some 59), (.arI .mul (.const (.int .i64 100)) (.tmp 58)), .none⟩, ⟨(.some 60), (.arI .add (.tmp 57) (.tmp 59)), .none⟩, ⟨(.some 7), (.mov (.tmp 60)), .none⟩]
def p3_17 : List PO := [⟨(.some 61), (.arI .add (.tmp 29) (.const (.int .i64 1))), .none⟩, ⟨(.some 29), (.mov (.tmp 61)), .none⟩]
def c3_2 : PCode := (.keep [2, 3, 5, 7, 8, 28, 29] [(24, .id 24), (32, .id 32), (112, .id 112)] [] (.seq (.block 1 (.seq (.reg p3_13) (.seq (.regD p3_14 []) (.cond (.tmp 54) (.reg p3_15) (.reg p3_16))))) (.reg p3_17)))
def c3_3 : PCode := (.keep [2, 3, 5, 7, 8, 28, 29, 30] [(24, .id 24), (32, .id 32), (112, .id 112)] [] (.seq (.cond (.tmp 30) .skip (.keep [2, 3, 5, 7] [(24, .id 24), (32, .id 32), (112, .id 112)] [] (.exit 0))) c3_2))
def c3_4 : PCode := (.keep [2, 3, 5, 7, 8, 28, 29] [(24, .id 24), (32, .id 32), (112, .id 112)] [] (.seq (.reg p3_12) c3_3))
def p3_18 : List PO := [⟨(.some 62), (.mov (.tmp 5)), .none⟩, ⟨(.some 63), (.len .false (.tmp 62)), .none⟩, ⟨(.some 64), (.mov (.tmp 7)), .none⟩, ⟨(.some 65), (.cmpI .leq (.tmp 63) (.tmp 64)), .none⟩, ⟨(.some 66), (.mov (.tmp 65)), .none⟩, ⟨(.some 67), (.load .true 33 (.tmp 2)), (.some (66, .true))⟩, ⟨(.some 68), (.load .true 33 (.tmp 3)), (.some (66, .true))⟩, ⟨(.some 69), (.call 7 [(.tmp 67), (.tmp 68)]), (.some (66, .true))⟩, ⟨(.some 70), (.un .not (.tmp 69)), (.some (66, .true))⟩, ⟨(.some 71), (.mov (.tmp 70)), (.some (66, .true))⟩, ⟨(.some 72), (.mov (.tmp 5)), (.some (71, .false))⟩, ⟨(.some 73), (.len .false (.tmp 72)), (.some (71, .false))⟩, ⟨(.some 74), (.cmpI .eql (.tmp 73) (.const (.int .i64 0))), (.some (71, .false))⟩, ⟨(.some 75), (.pick (.tmp 71) (.const (.bool .true)) (.tmp 74)), (.some (66, .true))⟩, ⟨(.some 76), (.pick (.tmp 66) (.tmp 75) (.const (.bool .false))), .none⟩, ⟨(.some 4), (.mov (.tmp 76)), .none⟩]
def c3_1 : PCode := (.keep [2, 3, 5, 7] [(24, .id 24), (32, .id 32), (112, .id 112)] [] (.seq (.reg p3_18) .ret))
def c3_5 : PCode := (.keep [2, 3, 5] [(24, .id 24), (32, .id 32), (112, .id 112)] [] (.seq (.regD p3_10 []) (.seq (.seq (.reg p3_11) (.block 0 (.loop c3_4))) c3_1)))
def c3_b : PCode := (.seq (.reg p3_6) (.seq (.reg p3_7) (.seq (.seq (.reg p3_8) (.cond (.tmp 21) (.seq (.reg p3_9) .ret) .skip)) c3_5)))
def c3 : FCode := ⟨77, c3_b, [(.tmp 4)], some ([4], [], []), false⟩
theorem c3_ok : compF Go.Proofs.Tryz.prog [10, 11, 100013, 22, 100028, 100029, 46, 100047, 49, 61, 62, 63, 64, 65, 66, 67, 69, 70, 71, 72, 74, 86, 87, 88, 90, 91, 93, 95, 97, 99, 100, 101, 102, 106, 107, 108, 109, 123, 126, 128, 129, 131, 132, 134, 135, 137, 151, 152, 153, 154, 156] 3 = some (eraseF c3) := by kernel_rfl
def codes : Nat → Option FCode
  | 3 => some c3
  | 4 => some c4
  | 6 => some c6
  | 7 => some c7
  | 8 => some c8
  | 9 => some c9
  | 10 => some c10
  | 11 => some c11
  | 15 => some c15
  | 16 => some c16
  | 17 => some c17
  | 18 => some c18
  | 19 => some c19
  | 20 => some c20
  | 21 => some c21
  | 22 => some c22
  | 23 => some c23
  | 24 => some c24
  | 30 => some c30
  | 31 => some c31
  | 32 => some c32
  | 33 => some c33
  | 34 => some c34
  | 35 => some c35
  | 36 => some c36
  | 37 => some c37
  | 39 => some c39
  | 40 => some c40
  | 42 => some c42
  | 43 => some c43
  | 50 => some c50
  | 51 => some c51
  | 53 => some c53
  | 54 => some c54
  | 76 => some c76
  | _ => none
theorem codes_ok : ∀ f fc, codes f = some fc → compF Go.Proofs.Tryz.prog [10, 11, 100013, 22, 100028, 100029, 46, 100047, 49, 61, 62, 63, 64, 65, 66, 67, 69, 70, 71, 72, 74, 86, 87, 88, 90, 91, 93, 95, 97, 99, 100, 101, 102, 106, 107, 108, 109, 123, 126, 128, 129, 131, 132, 134, 135, 137, 151, 152, 153, 154, 156] f = some (eraseF fc) := by
  intro f fc h
  unfold codes at h
  split at h
  · cases h; exact c3_ok
  · cases h; exact c4_ok
  · cases h; exact c6_ok
  · cases h; exact c7_ok
  · cases h; exact c8_ok
  · cases h; exact c9_ok
  · cases h; exact c10_ok
  · cases h; exact c11_ok
  · cases h; exact c15_ok
  · cases h; exact c16_ok
  · cases h; exact c17_ok
  · cases h; exact c18_ok
  · cases h; exact c19_ok
  · cases h; exact c20_ok
  · cases h; exact c21_ok
  · cases h; exact c22_ok
  · cases h; exact c23_ok
  · cases h; exact c24_ok
  · cases h; exact c30_ok
  · cases h; exact c31_ok
  · cases h; exact c32_ok
  · cases h; exact c33_ok
  · cases h; exact c34_ok
  · cases h; exact c35_ok
  · cases h; exact c36_ok
  · cases h; exact c37_ok
  · cases h; exact c39_ok
  · cases h; exact c40_ok
  · cases h; exact c42_ok
  · cases h; exact c43_ok
  · cases h; exact c50_ok
  · cases h; exact c51_ok
  · cases h; exact c53_ok
  · cases h; exact c54_ok
  · cases h; exact c76_ok
  · cases h
theorem codes3 : codes 3 = some c3 := rfl
theorem codes4 : codes 4 = some c4 := rfl
theorem codes6 : codes 6 = some c6 := rfl
theorem codes7 : codes 7 = some c7 := rfl
theorem codes8 : codes 8 = some c8 := rfl
theorem codes9 : codes 9 = some c9 := rfl
theorem codes10 : codes 10 = some c10 := rfl
theorem codes11 : codes 11 = some c11 := rfl
theorem codes15 : codes 15 = some c15 := rfl
theorem codes16 : codes 16 = some c16 := rfl
theorem codes17 : codes 17 = some c17 := rfl
theorem codes18 : codes 18 = some c18 := rfl
theorem codes19 : codes 19 = some c19 := rfl
theorem codes20 : codes 20 = some c20 := rfl
theorem codes21 : codes 21 = some c21 := rfl
theorem codes22 : codes 22 = some c22 := rfl
theorem codes23 : codes 23 = some c23 := rfl
theorem codes24 : codes 24 = some c24 := rfl
theorem codes30 : codes 30 = some c30 := rfl
theorem codes31 : codes 31 = some c31 := rfl
theorem codes32 : codes 32 = some c32 := rfl
theorem codes33 : codes 33 = some c33 := rfl
theorem codes34 : codes 34 = some c34 := rfl
theorem codes35 : codes 35 = some c35 := rfl
theorem codes36 : codes 36 = some c36 := rfl
theorem codes37 : codes 37 = some c37 := rfl
theorem codes39 : codes 39 = some c39 := rfl
theorem codes40 : codes 40 = some c40 := rfl
theorem codes42 : codes 42 = some c42 := rfl
theorem codes43 : codes 43 = some c43 := rfl
theorem codes50 : codes 50 = some c50 := rfl
theorem codes51 : codes 51 = some c51 := rfl
theorem codes53 : codes 53 = some c53 := rfl
theorem codes54 : codes 54 = some c54 := rfl
theorem codes76 : codes 76 = some c76 := rfl
noncomputable def libs : List (Nat × (List PV → Option PV)) := [(38, osuI libIndexByte), (55, oiS libItoaL), (56, oSsS libJoin), (5, livesO libLives)]
noncomputable abbrev baseL : Orc := libO libs
end Go.Proofs.YtgjckmjlocankaaGreatDoor.Pm
