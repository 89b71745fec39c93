/- A part of the proof: Sa. -/
import Derived.Test.YtkcdhmplinjldaaGreatDoorBARd
set_option linter.unusedVariables false
set_option linter.unusedSimpArgs false
namespace Go.Vf
open Go.Proofs Go.RowKit
theorem u500 : (Tryz.prog.underlying 72).isSome = true := by kernel_rfl
theorem z500 : tzero Tryz.prog 72 = some [.int .i64 0, .str [], .int .i64 0, .bool false, .int .i64 0, .int .i64 0, .str [], .bool false, .bool false, .nilsl, .int .i64 0, .bool false, .int .i64 0, .int .i64 0, .str [], .bool false, .bool false, .nilsl, .bool false, .bool false, .nilsl] := by kernel_rfl
theorem st500 : tstruct Tryz.prog 72 = some [.int .i64 0, .str [], .int .i64 0, .bool false, .int .i64 0, .int .i64 0, .str [], .bool false, .bool false, .nilsl, .int .i64 0, .bool false, .int .i64 0, .int .i64 0, .str [], .bool false, .bool false, .nilsl, .bool false, .bool false, .nilsl] := by kernel_rfl
theorem c500 : Tryz.prog.cellsOf 72 = 21 := by kernel_rfl
theorem i500 : (Tryz.prog.info? 72).isSome = true := by kernel_rfl
theorem ag500 : tagg Tryz.prog 72 = some true := by kernel_rfl
theorem b500 : Tryz.prog.bytesOf 72 = 216 := by kernel_rfl
theorem g500t : tgrow Tryz.prog 72 = true := by kernel_rfl
theorem f500_0 : tfield Tryz.prog 72 0 = some (0, 1, false) := by kernel_rfl
theorem p500_0 : tplaces Tryz.prog 72 0 = some (0, 1) := by kernel_rfl
theorem f500_1 : tfield Tryz.prog 72 1 = some (1, 1, false) := by kernel_rfl
theorem p500_1 : tplaces Tryz.prog 72 1 = some (1, 1) := by kernel_rfl
theorem f500_2 : tfield Tryz.prog 72 2 = some (2, 8, true) := by kernel_rfl
theorem p500_2 : tplaces Tryz.prog 72 2 = some (2, 8) := by kernel_rfl
theorem f500_3 : tfield Tryz.prog 72 3 = some (10, 8, true) := by kernel_rfl
theorem p500_3 : tplaces Tryz.prog 72 3 = some (10, 8) := by kernel_rfl
theorem f500_4 : tfield Tryz.prog 72 4 = some (18, 1, false) := by kernel_rfl
theorem p500_4 : tplaces Tryz.prog 72 4 = some (18, 1) := by kernel_rfl
theorem f500_5 : tfield Tryz.prog 72 5 = some (19, 1, false) := by kernel_rfl
theorem p500_5 : tplaces Tryz.prog 72 5 = some (19, 1) := by kernel_rfl
theorem f500_6 : tfield Tryz.prog 72 6 = some (20, 1, false) := by kernel_rfl
theorem p500_6 : tplaces Tryz.prog 72 6 = some (20, 1) := by kernel_rfl
theorem u501 : (Tryz.prog.underlying 35).isSome = true := by kernel_rfl
theorem z501 : tzero Tryz.prog 35 = some [.int .i64 0, .bool false, .int .i64 0, .int .i64 0, .str [], .nilsl] := by kernel_rfl
theorem st501 : tstruct Tryz.prog 35 = some [.int .i64 0, .bool false, .int .i64 0, .int .i64 0, .str [], .nilsl] := by kernel_rfl
theorem c501 : Tryz.prog.cellsOf 35 = 6 := by kernel_rfl
theorem i501 : (Tryz.prog.info? 35).isSome = true := by kernel_rfl
theorem ag501 : tagg Tryz.prog 35 = some true := by kernel_rfl
theorem b501 : Tryz.prog.bytesOf 35 = 72 := by kernel_rfl
theorem g501t : tgrow Tryz.prog 35 = true := by kernel_rfl
theorem f501_0 : tfield Tryz.prog 35 0 = some (0, 1, false) := by kernel_rfl
theorem p501_0 : tplaces Tryz.prog 35 0 = some (0, 1) := by kernel_rfl
theorem f501_1 : tfield Tryz.prog 35 1 = some (1, 1, false) := by kernel_rfl
theorem p501_1 : tplaces Tryz.prog 35 1 = some (1, 1) := by kernel_rfl
theorem f501_2 : tfield Tryz.prog 35 2 = some (2, 2, true) := by kernel_rfl
theorem p501_2 : tplaces Tryz.prog 35 2 = some (2, 2) := by kernel_rfl
theorem f501_3 : tfield Tryz.prog 35 3 = some (4, 1, false) := by kernel_rfl
theorem p501_3 : tplaces Tryz.prog 35 3 = some (4, 1) := by kernel_rfl
theorem f501_4 : tfield Tryz.prog 35 4 = some (5, 1, false) := by kernel_rfl
theorem p501_4 : tplaces Tryz.prog 35 4 = some (5, 1) := by kernel_rfl
theorem u502 : (Tryz.prog.underlying 54).isSome = true := by kernel_rfl
theorem z502 : tzero Tryz.prog 54 = some [.str [], .int .i64 0, .bool false, .int .i64 0, .int .i64 0, .str [], .nilsl] := by kernel_rfl
theorem st502 : tstruct Tryz.prog 54 = some [.str [], .int .i64 0, .bool false, .int .i64 0, .int .i64 0, .str [], .nilsl] := by kernel_rfl
theorem c502 : Tryz.prog.cellsOf 54 = 7 := by kernel_rfl
theorem i502 : (Tryz.prog.info? 54).isSome = true := by kernel_rfl
theorem ag502 : tagg Tryz.prog 54 = some true := by kernel_rfl
theorem b502 : Tryz.prog.bytesOf 54 = 88 := by kernel_rfl
theorem g502t : tgrow Tryz.prog 54 = true := by kernel_rfl
theorem f502_0 : tfield Tryz.prog 54 0 = some (0, 1, false) := by kernel_rfl
theorem p502_0 : tplaces Tryz.prog 54 0 = some (0, 1) := by kernel_rfl
theorem f502_1 : tfield Tryz.prog 54 1 = some (1, 6, true) := by kernel_rfl
theorem p502_1 : tplaces Tryz.prog 54 1 = some (1, 6) := by kernel_rfl
theorem u503 : (Tryz.prog.underlying 63).isSome = true := by kernel_rfl
theorem z503 : tzero Tryz.prog 63 = some [.nilsl, .int .i64 0, .int .i64 0, .int .i64 0, .int .i64 0] := by kernel_rfl
theorem st503 : tstruct Tryz.prog 63 = some [.nilsl, .int .i64 0, .int .i64 0, .int .i64 0, .int .i64 0] := by kernel_rfl
theorem c503 : Tryz.prog.cellsOf 63 = 5 := by kernel_rfl
theorem i503 : (Tryz.prog.info? 63).isSome = true := by kernel_rfl
theorem ag503 : tagg Tryz.prog 63 = some true := by kernel_rfl
theorem b503 : Tryz.prog.bytesOf 63 = 56 := by kernel_rfl
theorem g503t : tgrow Tryz.prog 63 = true := by kernel_rfl
theorem f503_0 : tfield Tryz.prog 63 0 = some (0, 1, false) := by kernel_rfl
theorem p503_0 : tplaces Tryz.prog 63 0 = some (0, 1) := by kernel_rfl
theorem f503_1 : tfield Tryz.prog 63 1 = some (1, 1, false) := by kernel_rfl
theorem p503_1 : tplaces Tryz.prog 63 1 = some (1, 1) := by kernel_rfl
theorem f503_2 : tfield Tryz.prog 63 2 = some (2, 1, false) := by kernel_rfl
theorem p503_2 : tplaces Tryz.prog 63 2 = some (2, 1) := by kernel_rfl
theorem f503_3 : tfield Tryz.prog 63 3 = some (3, 1, false) := by kernel_rfl
theorem p503_3 : tplaces Tryz.prog 63 3 = some (3, 1) := by kernel_rfl
theorem f503_4 : tfield Tryz.prog 63 4 = some (4, 1, false) := by kernel_rfl
theorem p503_4 : tplaces Tryz.prog 63 4 = some (4, 1) := by kernel_rfl
theorem u504 : (Tryz.prog.underlying 75).isSome = true := by kernel_rfl
theorem z504 : tzero Tryz.prog 75 = some [.nilsl, .int .i64 0, .int .i64 0, .int .i64 0, .int .i64 0] := by kernel_rfl
theorem st504 : tstruct Tryz.prog 75 = some [.nilsl, .int .i64 0, .int .i64 0, .int .i64 0, .int .i64 0] := by kernel_rfl
theorem c504 : Tryz.prog.cellsOf 75 = 5 := by kernel_rfl
theorem i504 : (Tryz.prog.info? 75).isSome = true := by kernel_rfl
theorem ag504 : tagg Tryz.prog 75 = some true := by kernel_rfl
theorem b504 : Tryz.prog.bytesOf 75 = 56 := by kernel_rfl
theorem g504t : tgrow Tryz.prog 75 = true := by kernel_rfl
theorem f504_0 : tfield Tryz.prog 75 0 = some (0, 1, false) := by kernel_rfl
theorem p504_0 : tplaces Tryz.prog 75 0 = some (0, 1) := by kernel_rfl
theorem f504_1 : tfield Tryz.prog 75 1 = some (1, 1, false) := by kernel_rfl
theorem p504_1 : tplaces Tryz.prog 75 1 = some (1, 1) := by kernel_rfl
theorem f504_2 : tfield Tryz.prog 75 2 = some (2, 1, false) := by kernel_rfl
theorem p504_2 : tplaces Tryz.prog 75 2 = some (2, 1) := by kernel_rfl
theorem f504_3 : tfield Tryz.prog 75 3 = some (3, 1, false) := by kernel_rfl
theorem p504_3 : tplaces Tryz.prog 75 3 = some (3, 1) := by kernel_rfl
theorem f504_4 : tfield Tryz.prog 75 4 = some (4, 1, false) := by kernel_rfl
theorem p504_4 : tplaces Tryz.prog 75 4 = some (4, 1) := by kernel_rfl
theorem u505 : (Tryz.prog.underlying 32).isSome = true := by kernel_rfl
theorem z505 : tzero Tryz.prog 32 = some [.int .i64 0, .int .i64 0] := by kernel_rfl
theorem st505 : tstruct Tryz.prog 32 = some [.int .i64 0, .int .i64 0] := by kernel_rfl
theorem c505 : Tryz.prog.cellsOf 32 = 2 := by kernel_rfl
theorem i505 : (Tryz.prog.info? 32).isSome = true := by kernel_rfl
theorem ag505 : tagg Tryz.prog 32 = some true := by kernel_rfl
theorem b505 : Tryz.prog.bytesOf 32 = 16 := by kernel_rfl
theorem g505t : tgrow Tryz.prog 32 = true := by kernel_rfl
theorem f505_0 : tfield Tryz.prog 32 0 = some (0, 1, false) := by kernel_rfl
theorem p505_0 : tplaces Tryz.prog 32 0 = some (0, 1) := by kernel_rfl
theorem f505_1 : tfield Tryz.prog 32 1 = some (1, 1, false) := by kernel_rfl
theorem p505_1 : tplaces Tryz.prog 32 1 = some (1, 1) := by kernel_rfl
theorem u520 : Tryz.prog.underlying 22 = some (.slice 72) := by kernel_rfl
theorem te520 : telem Tryz.prog 22 = some 72 := by kernel_rfl
theorem s520 : tsrc Tryz.prog 22 = true := by kernel_rfl
theorem ag520 : tagg Tryz.prog 22 = some false := by kernel_rfl
theorem u521 : Tryz.prog.underlying 33 = some (.slice 35) := by kernel_rfl
theorem te521 : telem Tryz.prog 33 = some 35 := by kernel_rfl
theorem s521 : tsrc Tryz.prog 33 = true := by kernel_rfl
theorem ag521 : tagg Tryz.prog 33 = some false := by kernel_rfl
theorem u522 : Tryz.prog.underlying 36 = some (.slice 54) := by kernel_rfl
theorem te522 : telem Tryz.prog 36 = some 54 := by kernel_rfl
theorem s522 : tsrc Tryz.prog 36 = true := by kernel_rfl
theorem ag522 : tagg Tryz.prog 36 = some false := by kernel_rfl
theorem c600 : Tryz.prog.cellsOf 4 = 1 := by kernel_rfl
theorem i600 : (Tryz.prog.info? 4).isSome = true := by kernel_rfl
theorem c601 : Tryz.prog.cellsOf 9 = 1 := by kernel_rfl
theorem i601 : (Tryz.prog.info? 9).isSome = true := by kernel_rfl
theorem c602 : Tryz.prog.cellsOf 3 = 1 := by kernel_rfl
theorem i602 : (Tryz.prog.info? 3).isSome = true := by kernel_rfl
theorem FC : type_of% (And.intro (And.intro (And.intro (And.intro (And.intro (And.intro (@u500) (And.intro (@z500) (@st500))) (And.intro (And.intro (@c500) (@i500)) (And.intro (@ag500) (@b500)))) (And.intro (And.intro (@g500t) (And.intro (@f500_0) (@p500_0))) (And.intro (And.intro (@f500_1) (@p500_1)) (And.intro (@f500_2) (@p500_2))))) (And.intro (And.intro (And.intro (@f500_3) (And.intro (@p500_3) (@f500_4))) (And.intro (And.intro (@p500_4) (@f500_5)) (And.intro (@p500_5) (@f500_6)))) (And.intro (And.intro (And.intro (@p500_6) (@u501)) (And.intro (@z501) (@st501))) (And.intro (And.intro (@c501) (@i501)) (And.intro (@ag501) (@b501)))))) (And.intro (And.intro (And.intro (And.intro (@g501t) (And.intro (@f501_0) (@p501_0))) (And.intro (And.intro (@f501_1) (@p501_1)) (And.intro (@f501_2) (@p501_2)))) (And.intro (And.intro (And.intro (@f501_3) (@p501_3)) (And.intro (@f501_4) (@p501_4))) (And.intro (And.intro (@u502) (@z502)) (And.intro (@st502) (@c502))))) (And.intro (And.intro (And.intro (@i502) (And.intro (@ag502) (@b502))) (And.intro (And.intro (@g502t) (@f502_0)) (And.intro (@p502_0) (@f502_1)))) (And.intro (And.intro (And.intro (@p502_1) (@u503)) (And.intro (@z503) (@st503))) (And.intro (And.intro (@c503) (@i503)) (And.intro (@ag503) (@b503))))))) (And.intro (And.intro (And.intro (And.intro (And.intro (@g503t) (And.intro (@f503_0) (@p503_0))) (And.intro (And.intro (@f503_1) (@p503_1)) (And.intro (@f503_2) (@p503_2)))) (And.intro (And.intro (@f503_3) (And.intro (@p503_3) (@f503_4))) (And.intro (And.intro (@p503_4) (@u504)) (And.intro (@z504) (@st504))))) (And.intro (And.intro (And.intro (@c504) (And.intro (@i504) (@ag504))) (And.intro (And.intro (@b504) (@g504t)) (And.intro (@f504_0) (@p504_0)))) (And.intro (And.intro (And.intro (@f504_1) (@p504_1)) (And.intro (@f504_2) (@p504_2))) (And.intro (And.intro (@f504_3) (@p504_3)) (And.intro (@f504_4) (@p504_4)))))) (And.intro (And.intro (And.intro (And.intro (@u505) (And.intro (@z505) (@st505))) (And.intro (And.intro (@c505) (@i505)) (And.intro (@ag505) (@b505)))) (And.intro (And.intro (And.intro (@g505t) (@f505_0)) (And.intro (@p505_0) (@f505_1))) (And.intro (And.intro (@p505_1) (@u520)) (And.intro (@te520) (@s520))))) (And.intro (And.intro (And.intro (@ag520) (And.intro (@u521) (@te521))) (And.intro (And.intro (@s521) (@ag521)) (And.intro (@u522) (@te522)))) (And.intro (And.intro (And.intro (@s522) (@ag522)) (And.intro (@c600) (@i600))) (And.intro (And.intro (@c601) (@i601)) (And.intro (@c602) (@i602)))))))) := And.intro (And.intro (And.intro (And.intro (And.intro (And.intro (@u500) (And.intro (@z500) (@st500))) (And.intro (And.intro (@c500) (@i500)) (And.intro (@ag500) (@b500)))) (And.intro (And.intro (@g500t) (And.intro (@f500_0) (@p500_0))) (And.intro (And.intro (@f500_1) (@p500_1)) (And.intro (@f500_2) (@p500_2))))) (And.intro (And.intro (And.intro (@f500_3) (And.intro (@p500_3) (@f500_4))) (And.intro (And.intro (@p500_4) (@f500_5)) (And.intro (@p500_5) (@f500_6)))) (And.intro (And.intro (And.intro (@p500_6) (@u501)) (And.intro (@z501) (@st501))) (And.intro (And.intro (@c501) (@i501)) (And.intro (@ag501) (@b501)))))) (And.intro (And.intro (And.intro (And.intro (@g501t) (And.intro (@f501_0) (@p501_0))) (And.intro (And.intro (@f501_1) (@p501_1)) (And.intro (@f501_2) (@p501_2)))) (And.intro (And.intro (And.intro (@f501_3) (@p501_3)) (And.intro (@f501_4) (@p501_4))) (And.intro (And.intro (@u502) (@z502)) (And.intro (@st502) (@c502))))) (And.intro (And.intro (And.intro (@i502) (And.intro (@ag502) (@b502))) (And.intro (And.intro (@g502t) (@f502_0)) (And.intro (@p502_0) (@f502_1)))) (And.intro (And.intro (And.intro (@p502_1) (@u503)) (And.intro (@z503) (@st503))) (And.intro (And.intro (@c503) (@i503)) (And.intro (@ag503) (@b503))))))) (And.intro (And.intro (And.intro (And.intro (And.intro (@g503t) (And.intro (@f503_0) (@p503_0))) (And.intro (And.intro (@f503_1) (@p503_1)) (And.intro (@f503_2) (@p503_2)))) (And.intro (And.intro (@f503_3) (And.intro (@p503_3) (@f503_4))) (And.intro (And.intro (@p503_4) (@u504)) (And.intro (@z504) (@st504))))) (And.intro (And.intro (And.intro (@c504) (And.intro (@i504) (@ag504))) (And.intro (And.intro (@b504) (@g504t)) (And.intro (@f504_0) (@p504_0)))) (And.intro (And.intro (And.intro (@f504_1) (@p504_1)) (And.intro (@f504_2) (@p504_2))) (And.intro (And.intro (@f504_3) (@p504_3)) (And.intro (@f504_4) (@p504_4)))))) (And.intro (And.intro (And.intro (And.intro (@u505) (And.intro (@z505) (@st505))) (And.intro (And.intro (@c505) (@i505)) (And.intro (@ag505) (@b505)))) (And.intro (And.intro (And.intro (@g505t) (@f505_0)) (And.intro (@p505_0) (@f505_1))) (And.intro (And.intro (@p505_1) (@u520)) (And.intro (@te520) (@s520))))) (And.intro (And.intro (And.intro (@ag520) (And.intro (@u521) (@te521))) (And.intro (And.intro (@s521) (@ag521)) (And.intro (@u522) (@te522)))) (And.intro (And.intro (And.intro (@s522) (@ag522)) (And.intro (@c600) (@i600))) (And.intro (And.intro (@c601) (@i601)) (And.intro (@c602) (@i602)))))))
end Go.Vf
