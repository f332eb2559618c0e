import Derived.Test.YtinngnckojbpnaaProg
import Derived.Test.YtinngnckojbpnaaNepGo
/-! Type facts of the translation, by program (nep.py). -/
namespace Go.Proofs.Ytinngnckojbpnaa.T
open Go.Nep Go.Proofs
theorem ty2 : tyB Try.prog 2 = some (false, 1) := by kernel_rfl
theorem ze2 : zeB Try.prog 2 = some (.int .i64 0) := by kernel_rfl
theorem in2 : inB Try.prog 2 = some .i64 := by kernel_rfl
theorem ty3 : tyB Try.prog 3 = some (false, 1) := by kernel_rfl
theorem ze3 : zeB Try.prog 3 = some (.int .i64 0) := by kernel_rfl
theorem in3 : inB Try.prog 3 = some .i64 := by kernel_rfl
theorem ty4 : tyB Try.prog 4 = some (false, 1) := by kernel_rfl
theorem ze4 : zeB Try.prog 4 = some (.bool false) := by kernel_rfl
theorem ty5 : tyB Try.prog 5 = some (false, 1) := by kernel_rfl
theorem ze5 : zeB Try.prog 5 = some (.int .u8 0) := by kernel_rfl
theorem in5 : inB Try.prog 5 = some .u8 := by kernel_rfl
theorem ty6 : tyB Try.prog 6 = some (false, 1) := by kernel_rfl
theorem ze6 : zeB Try.prog 6 = some (.int .u8 0) := by kernel_rfl
theorem in6 : inB Try.prog 6 = some .u8 := by kernel_rfl
theorem ty7 : tyB Try.prog 7 = some (true, 4) := by kernel_rfl
theorem ze7 : zeB Try.prog 7 = some (.agg #[.int .i64 0, .int .i64 0, .bool false, .int .u8 0]) := by kernel_rfl
theorem fd7_0 : fdB Try.prog 7 0 = some (0, 2) := by kernel_rfl
theorem fd7_1 : fdB Try.prog 7 1 = some (1, 3) := by kernel_rfl
theorem fd7_2 : fdB Try.prog 7 2 = some (2, 4) := by kernel_rfl
theorem fd7_3 : fdB Try.prog 7 3 = some (3, 6) := by kernel_rfl
theorem sh7 : shB Try.prog 7 = some #[(0, 1), (1, 1), (2, 1), (3, 1)] := by kernel_rfl
theorem ty8 : tyB Try.prog 8 = some (true, 4) := by kernel_rfl
theorem ze8 : zeB Try.prog 8 = some (.agg #[.int .i64 0, .int .i64 0, .bool false, .int .u8 0]) := by kernel_rfl
theorem fd8_0 : fdB Try.prog 8 0 = some (0, 2) := by kernel_rfl
theorem fd8_1 : fdB Try.prog 8 1 = some (1, 3) := by kernel_rfl
theorem fd8_2 : fdB Try.prog 8 2 = some (2, 4) := by kernel_rfl
theorem fd8_3 : fdB Try.prog 8 3 = some (3, 6) := by kernel_rfl
theorem sh8 : shB Try.prog 8 = some #[(0, 1), (1, 1), (2, 1), (3, 1)] := by kernel_rfl
theorem ty9 : tyB Try.prog 9 = some (false, 1) := by kernel_rfl
theorem ze9 : zeB Try.prog 9 = some (.string ⟨#[]⟩) := by kernel_rfl
theorem ty10 : tyB Try.prog 10 = some (false, 1) := by kernel_rfl
theorem ze10 : zeB Try.prog 10 = some (.string ⟨#[]⟩) := by kernel_rfl
theorem ty11 : tyB Try.prog 11 = some (false, 1) := by kernel_rfl
theorem ze11 : zeB Try.prog 11 = some (.string ⟨#[]⟩) := by kernel_rfl
theorem ty12 : tyB Try.prog 12 = some (false, 1) := by kernel_rfl
theorem ze12 : zeB Try.prog 12 = some (.int .u64 0) := by kernel_rfl
theorem in12 : inB Try.prog 12 = some .u64 := by kernel_rfl
theorem ty13 : tyB Try.prog 13 = some (true, 2) := by kernel_rfl
theorem ze13 : zeB Try.prog 13 = some (.agg #[.string ⟨#[]⟩, .int .u64 0]) := by kernel_rfl
theorem fd13_0 : fdB Try.prog 13 0 = some (0, 9) := by kernel_rfl
theorem fd13_1 : fdB Try.prog 13 1 = some (1, 12) := by kernel_rfl
theorem sh13 : shB Try.prog 13 = some #[(0, 1), (1, 1)] := by kernel_rfl
theorem ty14 : tyB Try.prog 14 = some (true, 2) := by kernel_rfl
theorem ze14 : zeB Try.prog 14 = some (.agg #[.string ⟨#[]⟩, .int .u64 0]) := by kernel_rfl
theorem fd14_0 : fdB Try.prog 14 0 = some (0, 9) := by kernel_rfl
theorem fd14_1 : fdB Try.prog 14 1 = some (1, 12) := by kernel_rfl
theorem sh14 : shB Try.prog 14 = some #[(0, 1), (1, 1)] := by kernel_rfl
theorem ty15 : tyB Try.prog 15 = some (false, 1) := by kernel_rfl
theorem ze15 : zeB Try.prog 15 = some (.pointer none) := by kernel_rfl
theorem pt15 : ptB Try.prog 15 = true := by kernel_rfl
theorem ty16 : tyB Try.prog 16 = some (false, 1) := by kernel_rfl
theorem ze16 : zeB Try.prog 16 = some (.pointer none) := by kernel_rfl
theorem pt16 : ptB Try.prog 16 = true := by kernel_rfl
theorem ty17 : tyB Try.prog 17 = some (false, 1) := by kernel_rfl
theorem ze17 : zeB Try.prog 17 = some (.pointer none) := by kernel_rfl
theorem pt17 : ptB Try.prog 17 = true := by kernel_rfl
theorem ty18 : tyB Try.prog 18 = some (true, 1) := by kernel_rfl
theorem ze18 : zeB Try.prog 18 = some (.agg #[.pointer none]) := by kernel_rfl
theorem fd18_0 : fdB Try.prog 18 0 = some (0, 17) := by kernel_rfl
theorem sh18 : shB Try.prog 18 = some #[(0, 1)] := by kernel_rfl
theorem ty19 : tyB Try.prog 19 = some (true, 1) := by kernel_rfl
theorem ze19 : zeB Try.prog 19 = some (.agg #[.pointer none]) := by kernel_rfl
theorem fd19_0 : fdB Try.prog 19 0 = some (0, 17) := by kernel_rfl
theorem sh19 : shB Try.prog 19 = some #[(0, 1)] := by kernel_rfl
theorem ty21 : tyB Try.prog 21 = some (false, 1) := by kernel_rfl
theorem ze21 : zeB Try.prog 21 = some (.int .i32 0) := by kernel_rfl
theorem in21 : inB Try.prog 21 = some .i32 := by kernel_rfl
theorem ty22 : tyB Try.prog 22 = some (true, 2) := by kernel_rfl
theorem ze22 : zeB Try.prog 22 = some (.agg #[.int .i64 0, .int .i64 0]) := by kernel_rfl
theorem fd22_0 : fdB Try.prog 22 0 = some (0, 3) := by kernel_rfl
theorem fd22_1 : fdB Try.prog 22 1 = some (1, 3) := by kernel_rfl
theorem sh22 : shB Try.prog 22 = some #[(0, 1), (1, 1)] := by kernel_rfl
theorem eg22 : Try.prog.eqGuardType Try.prog.depth 22 = false := by kernel_rfl
theorem sn22 : Try.prog.stoodInHeld 22 = false := by kernel_rfl
theorem ty23 : tyB Try.prog 23 = some (true, 2) := by kernel_rfl
theorem ze23 : zeB Try.prog 23 = some (.agg #[.int .i64 0, .int .i64 0]) := by kernel_rfl
theorem fd23_0 : fdB Try.prog 23 0 = some (0, 3) := by kernel_rfl
theorem fd23_1 : fdB Try.prog 23 1 = some (1, 3) := by kernel_rfl
theorem sh23 : shB Try.prog 23 = some #[(0, 1), (1, 1)] := by kernel_rfl
theorem eg23 : Try.prog.eqGuardType Try.prog.depth 23 = false := by kernel_rfl
theorem sn23 : Try.prog.stoodInHeld 23 = false := by kernel_rfl
theorem ty24 : tyB Try.prog 24 = some (false, 1) := by kernel_rfl
theorem ze24 : zeB Try.prog 24 = some (.int .u32 0) := by kernel_rfl
theorem in24 : inB Try.prog 24 = some .u32 := by kernel_rfl
theorem ty25 : tyB Try.prog 25 = some (false, 1) := by kernel_rfl
theorem ze25 : zeB Try.prog 25 = some (.int .u64 0) := by kernel_rfl
theorem in25 : inB Try.prog 25 = some .u64 := by kernel_rfl
theorem ty26 : tyB Try.prog 26 = some (true, 6) := by kernel_rfl
theorem ze26 : zeB Try.prog 26 = some (.agg #[.int .i64 0, .int .i64 0, .int .i64 0, .int .u32 0, .int .u64 0, .int .u64 0]) := by kernel_rfl
theorem fd26_0 : fdB Try.prog 26 0 = some (0, 3) := by kernel_rfl
theorem fd26_1 : fdB Try.prog 26 1 = some (1, 3) := by kernel_rfl
theorem fd26_2 : fdB Try.prog 26 2 = some (2, 3) := by kernel_rfl
theorem fd26_3 : fdB Try.prog 26 3 = some (3, 24) := by kernel_rfl
theorem fd26_4 : fdB Try.prog 26 4 = some (4, 25) := by kernel_rfl
theorem fd26_5 : fdB Try.prog 26 5 = some (5, 25) := by kernel_rfl
theorem sh26 : shB Try.prog 26 = some #[(0, 1), (1, 1), (2, 1), (3, 1), (4, 1), (5, 1)] := by kernel_rfl
theorem eg26 : Try.prog.eqGuardType Try.prog.depth 26 = false := by kernel_rfl
theorem sn26 : Try.prog.stoodInHeld 26 = false := by kernel_rfl
theorem ty27 : tyB Try.prog 27 = some (true, 6) := by kernel_rfl
theorem ze27 : zeB Try.prog 27 = some (.agg #[.int .i64 0, .int .i64 0, .int .i64 0, .int .u32 0, .int .u64 0, .int .u64 0]) := by kernel_rfl
theorem fd27_0 : fdB Try.prog 27 0 = some (0, 3) := by kernel_rfl
theorem fd27_1 : fdB Try.prog 27 1 = some (1, 3) := by kernel_rfl
theorem fd27_2 : fdB Try.prog 27 2 = some (2, 3) := by kernel_rfl
theorem fd27_3 : fdB Try.prog 27 3 = some (3, 24) := by kernel_rfl
theorem fd27_4 : fdB Try.prog 27 4 = some (4, 25) := by kernel_rfl
theorem fd27_5 : fdB Try.prog 27 5 = some (5, 25) := by kernel_rfl
theorem sh27 : shB Try.prog 27 = some #[(0, 1), (1, 1), (2, 1), (3, 1), (4, 1), (5, 1)] := by kernel_rfl
theorem eg27 : Try.prog.eqGuardType Try.prog.depth 27 = false := by kernel_rfl
theorem sn27 : Try.prog.stoodInHeld 27 = false := by kernel_rfl
theorem ty28 : tyB Try.prog 28 = some (true, 14) := by kernel_rfl
theorem ze28 : zeB Try.prog 28 = some (.agg #[.int .i64 0, .int .i64 0, .int .i64 0, .int .i64 0, .int .i64 0, .int .u32 0, .int .u64 0, .int .u64 0, .int .i64 0, .int .i64 0, .int .i64 0, .int .u32 0, .int .u64 0, .int .u64 0]) := by kernel_rfl
theorem fd28_0 : fdB Try.prog 28 0 = some (0, 23) := by kernel_rfl
theorem fd28_1 : fdB Try.prog 28 1 = some (2, 27) := by kernel_rfl
theorem fd28_2 : fdB Try.prog 28 2 = some (8, 27) := by kernel_rfl
theorem sh28 : shB Try.prog 28 = some #[(0, 2), (2, 6), (8, 6)] := by kernel_rfl
theorem eg28 : Try.prog.eqGuardType Try.prog.depth 28 = false := by kernel_rfl
theorem sn28 : Try.prog.stoodInHeld 28 = false := by kernel_rfl
theorem ty29 : tyB Try.prog 29 = some (true, 14) := by kernel_rfl
theorem ze29 : zeB Try.prog 29 = some (.agg #[.int .i64 0, .int .i64 0, .int .i64 0, .int .i64 0, .int .i64 0, .int .u32 0, .int .u64 0, .int .u64 0, .int .i64 0, .int .i64 0, .int .i64 0, .int .u32 0, .int .u64 0, .int .u64 0]) := by kernel_rfl
theorem fd29_0 : fdB Try.prog 29 0 = some (0, 23) := by kernel_rfl
theorem fd29_1 : fdB Try.prog 29 1 = some (2, 27) := by kernel_rfl
theorem fd29_2 : fdB Try.prog 29 2 = some (8, 27) := by kernel_rfl
theorem sh29 : shB Try.prog 29 = some #[(0, 2), (2, 6), (8, 6)] := by kernel_rfl
theorem eg29 : Try.prog.eqGuardType Try.prog.depth 29 = false := by kernel_rfl
theorem sn29 : Try.prog.stoodInHeld 29 = false := by kernel_rfl
theorem ty32 : tyB Try.prog 32 = some (true, 14) := by kernel_rfl
theorem ze32 : zeB Try.prog 32 = some (.agg #[.int .i64 0, .int .i64 0, .int .i64 0, .int .i64 0, .int .i64 0, .int .u32 0, .int .u64 0, .int .u64 0, .int .i64 0, .int .i64 0, .int .i64 0, .int .u32 0, .int .u64 0, .int .u64 0]) := by kernel_rfl
theorem fd32_0 : fdB Try.prog 32 0 = some (0, 23) := by kernel_rfl
theorem fd32_1 : fdB Try.prog 32 1 = some (2, 27) := by kernel_rfl
theorem fd32_2 : fdB Try.prog 32 2 = some (8, 27) := by kernel_rfl
theorem sh32 : shB Try.prog 32 = some #[(0, 2), (2, 6), (8, 6)] := by kernel_rfl
theorem eg32 : Try.prog.eqGuardType Try.prog.depth 32 = false := by kernel_rfl
theorem sn32 : Try.prog.stoodInHeld 32 = false := by kernel_rfl
theorem ty35 : tyB Try.prog 35 = some (false, 1) := by kernel_rfl
theorem ze35 : zeB Try.prog 35 = some (.slice none 0 0) := by kernel_rfl
theorem sl35 : slB Try.prog 35 = some (29, 14, 112) := by kernel_rfl
theorem ty36 : tyB Try.prog 36 = some (false, 1) := by kernel_rfl
theorem ze36 : zeB Try.prog 36 = some (.slice none 0 0) := by kernel_rfl
theorem sl36 : slB Try.prog 36 = some (3, 1, 8) := by kernel_rfl
theorem ty37 : tyB Try.prog 37 = some (false, 1) := by kernel_rfl
theorem ze37 : zeB Try.prog 37 = some (.pointer none) := by kernel_rfl
theorem pt37 : ptB Try.prog 37 = true := by kernel_rfl
theorem ty39 : tyB Try.prog 39 = some (false, 1) := by kernel_rfl
theorem ze39 : zeB Try.prog 39 = some (.int .i64 0) := by kernel_rfl
theorem in39 : inB Try.prog 39 = some .i64 := by kernel_rfl
theorem ty41 : tyB Try.prog 41 = some (false, 1) := by kernel_rfl
theorem ze41 : zeB Try.prog 41 = some (.slice none 0 0) := by kernel_rfl
theorem sl41 : slB Try.prog 41 = some (23, 2, 16) := by kernel_rfl
theorem ty47 : tyB Try.prog 47 = some (false, 1) := by kernel_rfl
theorem ze47 : zeB Try.prog 47 = some (.slice none 0 0) := by kernel_rfl
theorem sl47 : slB Try.prog 47 = some (54, 19, 152) := by kernel_rfl
theorem ty48 : tyB Try.prog 48 = some (true, 4) := by kernel_rfl
theorem ze48 : zeB Try.prog 48 = some (.agg #[.int .i64 0, .int .i64 0, .int .i64 0, .int .i64 0]) := by kernel_rfl
theorem ar48 : arB Try.prog 48 = some (4, 3, 1) := by kernel_rfl
theorem ty49 : tyB Try.prog 49 = some (false, 1) := by kernel_rfl
theorem ze49 : zeB Try.prog 49 = some (.slice none 0 0) := by kernel_rfl
theorem sl49 : slB Try.prog 49 = some (63, 16, 128) := by kernel_rfl
theorem ty50 : tyB Try.prog 50 = some (true, 5) := by kernel_rfl
theorem ze50 : zeB Try.prog 50 = some (.agg #[.int .i64 0, .int .i64 0, .int .i64 0, .int .i64 0, .slice none 0 0]) := by kernel_rfl
theorem fd50_0 : fdB Try.prog 50 0 = some (0, 48) := by kernel_rfl
theorem fd50_1 : fdB Try.prog 50 1 = some (4, 49) := by kernel_rfl
theorem sh50 : shB Try.prog 50 = some #[(0, 4), (4, 1)] := by kernel_rfl
theorem ty51 : tyB Try.prog 51 = some (true, 5) := by kernel_rfl
theorem ze51 : zeB Try.prog 51 = some (.agg #[.int .i64 0, .int .i64 0, .int .i64 0, .int .i64 0, .slice none 0 0]) := by kernel_rfl
theorem fd51_0 : fdB Try.prog 51 0 = some (0, 48) := by kernel_rfl
theorem fd51_1 : fdB Try.prog 51 1 = some (4, 49) := by kernel_rfl
theorem sh51 : shB Try.prog 51 = some #[(0, 4), (4, 1)] := by kernel_rfl
theorem ty53 : tyB Try.prog 53 = some (true, 19) := by kernel_rfl
theorem ze53 : zeB Try.prog 53 = some (.agg #[.int .i64 0, .int .i64 0, .int .i64 0, .int .i64 0, .int .i64 0, .int .i64 0, .int .i64 0, .int .i64 0, .int .u32 0, .int .u64 0, .int .u64 0, .int .i64 0, .int .i64 0, .int .i64 0, .int .u32 0, .int .u64 0, .int .u64 0, .int .i64 0, .int .i64 0]) := by kernel_rfl
theorem fd53_0 : fdB Try.prog 53 0 = some (0, 3) := by kernel_rfl
theorem fd53_1 : fdB Try.prog 53 1 = some (1, 3) := by kernel_rfl
theorem fd53_2 : fdB Try.prog 53 2 = some (2, 3) := by kernel_rfl
theorem fd53_3 : fdB Try.prog 53 3 = some (3, 29) := by kernel_rfl
theorem fd53_4 : fdB Try.prog 53 4 = some (17, 23) := by kernel_rfl
theorem sh53 : shB Try.prog 53 = some #[(0, 1), (1, 1), (2, 1), (3, 14), (17, 2)] := by kernel_rfl
theorem eg53 : Try.prog.eqGuardType Try.prog.depth 53 = false := by kernel_rfl
theorem sn53 : Try.prog.stoodInHeld 53 = false := by kernel_rfl
theorem ty54 : tyB Try.prog 54 = some (true, 19) := by kernel_rfl
theorem ze54 : zeB Try.prog 54 = some (.agg #[.int .i64 0, .int .i64 0, .int .i64 0, .int .i64 0, .int .i64 0, .int .i64 0, .int .i64 0, .int .i64 0, .int .u32 0, .int .u64 0, .int .u64 0, .int .i64 0, .int .i64 0, .int .i64 0, .int .u32 0, .int .u64 0, .int .u64 0, .int .i64 0, .int .i64 0]) := by kernel_rfl
theorem fd54_0 : fdB Try.prog 54 0 = some (0, 3) := by kernel_rfl
theorem fd54_1 : fdB Try.prog 54 1 = some (1, 3) := by kernel_rfl
theorem fd54_2 : fdB Try.prog 54 2 = some (2, 3) := by kernel_rfl
theorem fd54_3 : fdB Try.prog 54 3 = some (3, 29) := by kernel_rfl
theorem fd54_4 : fdB Try.prog 54 4 = some (17, 23) := by kernel_rfl
theorem sh54 : shB Try.prog 54 = some #[(0, 1), (1, 1), (2, 1), (3, 14), (17, 2)] := by kernel_rfl
theorem eg54 : Try.prog.eqGuardType Try.prog.depth 54 = false := by kernel_rfl
theorem sn54 : Try.prog.stoodInHeld 54 = false := by kernel_rfl
theorem ty62 : tyB Try.prog 62 = some (true, 16) := by kernel_rfl
theorem ze62 : zeB Try.prog 62 = some (.agg #[.int .i64 0, .int .i64 0, .int .i64 0, .int .i64 0, .int .i64 0, .int .i64 0, .int .i64 0, .int .u32 0, .int .u64 0, .int .u64 0, .int .i64 0, .int .i64 0, .int .i64 0, .int .u32 0, .int .u64 0, .int .u64 0]) := by kernel_rfl
theorem fd62_0 : fdB Try.prog 62 0 = some (0, 3) := by kernel_rfl
theorem fd62_1 : fdB Try.prog 62 1 = some (1, 3) := by kernel_rfl
theorem fd62_2 : fdB Try.prog 62 2 = some (2, 32) := by kernel_rfl
theorem sh62 : shB Try.prog 62 = some #[(0, 1), (1, 1), (2, 14)] := by kernel_rfl
theorem eg62 : Try.prog.eqGuardType Try.prog.depth 62 = false := by kernel_rfl
theorem sn62 : Try.prog.stoodInHeld 62 = false := by kernel_rfl
theorem ty63 : tyB Try.prog 63 = some (true, 16) := by kernel_rfl
theorem ze63 : zeB Try.prog 63 = some (.agg #[.int .i64 0, .int .i64 0, .int .i64 0, .int .i64 0, .int .i64 0, .int .i64 0, .int .i64 0, .int .u32 0, .int .u64 0, .int .u64 0, .int .i64 0, .int .i64 0, .int .i64 0, .int .u32 0, .int .u64 0, .int .u64 0]) := by kernel_rfl
theorem fd63_0 : fdB Try.prog 63 0 = some (0, 3) := by kernel_rfl
theorem fd63_1 : fdB Try.prog 63 1 = some (1, 3) := by kernel_rfl
theorem fd63_2 : fdB Try.prog 63 2 = some (2, 32) := by kernel_rfl
theorem sh63 : shB Try.prog 63 = some #[(0, 1), (1, 1), (2, 14)] := by kernel_rfl
theorem eg63 : Try.prog.eqGuardType Try.prog.depth 63 = false := by kernel_rfl
theorem sn63 : Try.prog.stoodInHeld 63 = false := by kernel_rfl
theorem ty69 : tyB Try.prog 69 = some (false, 1) := by kernel_rfl
theorem ze69 : zeB Try.prog 69 = some (.map none) := by kernel_rfl
theorem mp69 : mpB Try.prog 69 = some (23, 3) := by kernel_rfl
theorem ty70 : tyB Try.prog 70 = some (false, 1) := by kernel_rfl
theorem ze70 : zeB Try.prog 70 = some (.slice none 0 0) := by kernel_rfl
theorem sl70 : slB Try.prog 70 = some (76, 15, 120) := by kernel_rfl
theorem ty71 : tyB Try.prog 71 = some (true, 4) := by kernel_rfl
theorem ze71 : zeB Try.prog 71 = some (.agg #[.slice none 0 0, .slice none 0 0, .slice none 0 0, .slice none 0 0]) := by kernel_rfl
theorem ar71 : arB Try.prog 71 = some (4, 70, 1) := by kernel_rfl
theorem ty72 : tyB Try.prog 72 = some (true, 5) := by kernel_rfl
theorem ze72 : zeB Try.prog 72 = some (.agg #[.slice none 0 0, .slice none 0 0, .slice none 0 0, .slice none 0 0, .map none]) := by kernel_rfl
theorem fd72_0 : fdB Try.prog 72 0 = some (0, 71) := by kernel_rfl
theorem fd72_1 : fdB Try.prog 72 1 = some (4, 69) := by kernel_rfl
theorem sh72 : shB Try.prog 72 = some #[(0, 4), (4, 1)] := by kernel_rfl
theorem ty73 : tyB Try.prog 73 = some (true, 5) := by kernel_rfl
theorem ze73 : zeB Try.prog 73 = some (.agg #[.slice none 0 0, .slice none 0 0, .slice none 0 0, .slice none 0 0, .map none]) := by kernel_rfl
theorem fd73_0 : fdB Try.prog 73 0 = some (0, 71) := by kernel_rfl
theorem fd73_1 : fdB Try.prog 73 1 = some (4, 69) := by kernel_rfl
theorem sh73 : shB Try.prog 73 = some #[(0, 4), (4, 1)] := by kernel_rfl
theorem ty75 : tyB Try.prog 75 = some (true, 15) := by kernel_rfl
theorem ze75 : zeB Try.prog 75 = some (.agg #[.bool false, .int .i64 0, .int .i64 0, .int .i64 0, .int .i64 0, .int .i64 0, .int .u32 0, .int .u64 0, .int .u64 0, .int .i64 0, .int .i64 0, .int .i64 0, .int .u32 0, .int .u64 0, .int .u64 0]) := by kernel_rfl
theorem fd75_0 : fdB Try.prog 75 0 = some (0, 4) := by kernel_rfl
theorem fd75_1 : fdB Try.prog 75 1 = some (1, 29) := by kernel_rfl
theorem sh75 : shB Try.prog 75 = some #[(0, 1), (1, 14)] := by kernel_rfl
theorem eg75 : Try.prog.eqGuardType Try.prog.depth 75 = false := by kernel_rfl
theorem sn75 : Try.prog.stoodInHeld 75 = false := by kernel_rfl
theorem ty76 : tyB Try.prog 76 = some (true, 15) := by kernel_rfl
theorem ze76 : zeB Try.prog 76 = some (.agg #[.bool false, .int .i64 0, .int .i64 0, .int .i64 0, .int .i64 0, .int .i64 0, .int .u32 0, .int .u64 0, .int .u64 0, .int .i64 0, .int .i64 0, .int .i64 0, .int .u32 0, .int .u64 0, .int .u64 0]) := by kernel_rfl
theorem fd76_0 : fdB Try.prog 76 0 = some (0, 4) := by kernel_rfl
theorem fd76_1 : fdB Try.prog 76 1 = some (1, 29) := by kernel_rfl
theorem sh76 : shB Try.prog 76 = some #[(0, 1), (1, 14)] := by kernel_rfl
theorem eg76 : Try.prog.eqGuardType Try.prog.depth 76 = false := by kernel_rfl
theorem sn76 : Try.prog.stoodInHeld 76 = false := by kernel_rfl
theorem ty95 : tyB Try.prog 95 = some (false, 1) := by kernel_rfl
theorem ze95 : zeB Try.prog 95 = some (.int .u64 0) := by kernel_rfl
theorem in95 : inB Try.prog 95 = some .u64 := by kernel_rfl
theorem ty99 : tyB Try.prog 99 = some (false, 1) := by kernel_rfl
theorem ze99 : zeB Try.prog 99 = some (.int .i64 0) := by kernel_rfl
theorem in99 : inB Try.prog 99 = some .i64 := by kernel_rfl
theorem ty113 : tyB Try.prog 113 = some (false, 1) := by kernel_rfl
theorem ze113 : zeB Try.prog 113 = some (.int .u64 0) := by kernel_rfl
theorem in113 : inB Try.prog 113 = some .u64 := by kernel_rfl
theorem ty117 : tyB Try.prog 117 = some (false, 1) := by kernel_rfl
theorem ze117 : zeB Try.prog 117 = some (.pointer none) := by kernel_rfl
theorem pt117 : ptB Try.prog 117 = true := by kernel_rfl
theorem ty121 : tyB Try.prog 121 = some (false, 1) := by kernel_rfl
theorem ze121 : zeB Try.prog 121 = some (.pointer none) := by kernel_rfl
theorem pt121 : ptB Try.prog 121 = true := by kernel_rfl
theorem ty126 : tyB Try.prog 126 = some (true, 4) := by kernel_rfl
theorem ze126 : zeB Try.prog 126 = some (.agg #[.pointer none, .pointer none, .pointer none, .string ⟨#[]⟩]) := by kernel_rfl
theorem fd126_0 : fdB Try.prog 126 0 = some (0, 17) := by kernel_rfl
theorem fd126_1 : fdB Try.prog 126 1 = some (1, 17) := by kernel_rfl
theorem fd126_2 : fdB Try.prog 126 2 = some (2, 17) := by kernel_rfl
theorem fd126_3 : fdB Try.prog 126 3 = some (3, 9) := by kernel_rfl
theorem sh126 : shB Try.prog 126 = some #[(0, 1), (1, 1), (2, 1), (3, 1)] := by kernel_rfl
theorem ty127 : tyB Try.prog 127 = some (true, 4) := by kernel_rfl
theorem ze127 : zeB Try.prog 127 = some (.agg #[.pointer none, .pointer none, .pointer none, .string ⟨#[]⟩]) := by kernel_rfl
theorem fd127_0 : fdB Try.prog 127 0 = some (0, 17) := by kernel_rfl
theorem fd127_1 : fdB Try.prog 127 1 = some (1, 17) := by kernel_rfl
theorem fd127_2 : fdB Try.prog 127 2 = some (2, 17) := by kernel_rfl
theorem fd127_3 : fdB Try.prog 127 3 = some (3, 9) := by kernel_rfl
theorem sh127 : shB Try.prog 127 = some #[(0, 1), (1, 1), (2, 1), (3, 1)] := by kernel_rfl
theorem ty128 : tyB Try.prog 128 = some (true, 0) := by kernel_rfl
theorem ze128 : zeB Try.prog 128 = some (.agg #[]) := by kernel_rfl
theorem ar128 : arB Try.prog 128 = some (0, 16, 1) := by kernel_rfl
theorem ty129 : tyB Try.prog 129 = some (true, 0) := by kernel_rfl
theorem ze129 : zeB Try.prog 129 = some (.agg #[]) := by kernel_rfl
theorem sh129 : shB Try.prog 129 = some #[(0, 0)] := by kernel_rfl
theorem ty130 : tyB Try.prog 130 = some (true, 0) := by kernel_rfl
theorem ze130 : zeB Try.prog 130 = some (.agg #[]) := by kernel_rfl
theorem sh130 : shB Try.prog 130 = some #[(0, 0)] := by kernel_rfl
theorem ty132 : tyB Try.prog 132 = some (false, 1) := by kernel_rfl
theorem ze132 : zeB Try.prog 132 = some (.int .u8 0) := by kernel_rfl
theorem in132 : inB Try.prog 132 = some .u8 := by kernel_rfl
theorem ty133 : tyB Try.prog 133 = some (false, 1) := by kernel_rfl
theorem ze133 : zeB Try.prog 133 = some (.int .u8 0) := by kernel_rfl
theorem in133 : inB Try.prog 133 = some .u8 := by kernel_rfl
theorem ty135 : tyB Try.prog 135 = some (false, 1) := by kernel_rfl
theorem ze135 : zeB Try.prog 135 = some (.pointer none) := by kernel_rfl
theorem pt135 : ptB Try.prog 135 = true := by kernel_rfl
theorem ty136 : tyB Try.prog 136 = some (false, 1) := by kernel_rfl
theorem ze136 : zeB Try.prog 136 = some (.int .i32 0) := by kernel_rfl
theorem in136 : inB Try.prog 136 = some .i32 := by kernel_rfl
theorem ty137 : tyB Try.prog 137 = some (false, 1) := by kernel_rfl
theorem ze137 : zeB Try.prog 137 = some (.int .i32 0) := by kernel_rfl
theorem in137 : inB Try.prog 137 = some .i32 := by kernel_rfl
theorem ty138 : tyB Try.prog 138 = some (true, 11) := by kernel_rfl
theorem ze138 : zeB Try.prog 138 = some (.agg #[.int .u64 0, .int .u64 0, .int .u32 0, .int .u8 0, .int .u8 0, .int .u8 0, .int .u8 0, .nilFunc, .pointer none, .int .i32 0, .int .i32 0]) := by kernel_rfl
theorem fd138_0 : fdB Try.prog 138 0 = some (0, 12) := by kernel_rfl
theorem fd138_1 : fdB Try.prog 138 1 = some (1, 12) := by kernel_rfl
theorem fd138_2 : fdB Try.prog 138 2 = some (2, 24) := by kernel_rfl
theorem fd138_3 : fdB Try.prog 138 3 = some (3, 132) := by kernel_rfl
theorem fd138_4 : fdB Try.prog 138 4 = some (4, 5) := by kernel_rfl
theorem fd138_5 : fdB Try.prog 138 5 = some (5, 5) := by kernel_rfl
theorem fd138_6 : fdB Try.prog 138 6 = some (6, 133) := by kernel_rfl
theorem fd138_7 : fdB Try.prog 138 7 = some (7, 134) := by kernel_rfl
theorem fd138_8 : fdB Try.prog 138 8 = some (8, 135) := by kernel_rfl
theorem fd138_9 : fdB Try.prog 138 9 = some (9, 136) := by kernel_rfl
theorem fd138_10 : fdB Try.prog 138 10 = some (10, 137) := by kernel_rfl
theorem sh138 : shB Try.prog 138 = some #[(0, 1), (1, 1), (2, 1), (3, 1), (4, 1), (5, 1), (6, 1), (7, 1), (8, 1), (9, 1), (10, 1)] := by kernel_rfl
theorem ty139 : tyB Try.prog 139 = some (true, 11) := by kernel_rfl
theorem ze139 : zeB Try.prog 139 = some (.agg #[.int .u64 0, .int .u64 0, .int .u32 0, .int .u8 0, .int .u8 0, .int .u8 0, .int .u8 0, .nilFunc, .pointer none, .int .i32 0, .int .i32 0]) := by kernel_rfl
theorem fd139_0 : fdB Try.prog 139 0 = some (0, 12) := by kernel_rfl
theorem fd139_1 : fdB Try.prog 139 1 = some (1, 12) := by kernel_rfl
theorem fd139_2 : fdB Try.prog 139 2 = some (2, 24) := by kernel_rfl
theorem fd139_3 : fdB Try.prog 139 3 = some (3, 132) := by kernel_rfl
theorem fd139_4 : fdB Try.prog 139 4 = some (4, 5) := by kernel_rfl
theorem fd139_5 : fdB Try.prog 139 5 = some (5, 5) := by kernel_rfl
theorem fd139_6 : fdB Try.prog 139 6 = some (6, 133) := by kernel_rfl
theorem fd139_7 : fdB Try.prog 139 7 = some (7, 134) := by kernel_rfl
theorem fd139_8 : fdB Try.prog 139 8 = some (8, 135) := by kernel_rfl
theorem fd139_9 : fdB Try.prog 139 9 = some (9, 136) := by kernel_rfl
theorem fd139_10 : fdB Try.prog 139 10 = some (10, 137) := by kernel_rfl
theorem sh139 : shB Try.prog 139 = some #[(0, 1), (1, 1), (2, 1), (3, 1), (4, 1), (5, 1), (6, 1), (7, 1), (8, 1), (9, 1), (10, 1)] := by kernel_rfl
theorem ty140 : tyB Try.prog 140 = some (false, 1) := by kernel_rfl
theorem ze140 : zeB Try.prog 140 = some (.pointer none) := by kernel_rfl
theorem ent3 : entB Try.prog 3 = true := by kernel_rfl   -- nepenthe/nepenthelaw22.PagemapNewers
theorem ent4 : entB Try.prog 4 = true := by kernel_rfl   -- nepenthe/nepenthelaw22.PagemapOrders
theorem ent5 : entB Try.prog 5 = true := by kernel_rfl   -- nepenthe/nepenthelaw22.PagemapRuns
theorem ent6 : entB Try.prog 6 = true := by kernel_rfl   -- nepenthe/nepenthelaw22.PagemapIns
theorem ent7 : entB Try.prog 7 = true := by kernel_rfl   -- nepenthe/nepenthelaw22.PagemapNil
theorem ent8 : entB Try.prog 8 = true := by kernel_rfl   -- nepenthe/pagemap.Newer
theorem ent9 : entB Try.prog 9 = true := by kernel_rfl   -- nepenthe/nepentheref22.Newer
theorem ent10 : entB Try.prog 10 = true := by kernel_rfl   -- nepenthe/nepenthelaw22.of
theorem ent11 : entB Try.prog 11 = true := by kernel_rfl   -- nepenthe/nepenthelaw22.awake
theorem ent12 : entB Try.prog 12 = true := by kernel_rfl   -- nepenthe/pagemap.New
theorem ent13 : entB Try.prog 13 = true := by kernel_rfl   -- (*nepenthe/pagemap.Map).Add
theorem ent14 : entB Try.prog 14 = true := by kernel_rfl   -- (*nepenthe/pagemap.Map).Put
theorem ent15 : entB Try.prog 15 = true := by kernel_rfl   -- (*nepenthe/pagemap.Map).Get
theorem ent16 : entB Try.prog 16 = true := by kernel_rfl   -- nepenthe/nepenthelaw22.light
theorem ent17 : entB Try.prog 17 = true := by kernel_rfl   -- nepenthe/nepenthelaw22.step
theorem ent18 : entB Try.prog 18 = true := by kernel_rfl   -- (*nepenthe/pagemap.Map).Refs
theorem ent19 : entB Try.prog 19 = true := by kernel_rfl   -- nepenthe/nepentheref22.Refs
theorem ent20 : entB Try.prog 20 = true := by kernel_rfl   -- nepenthe/nepenthelaw22.same
theorem ent21 : entB Try.prog 21 = true := by kernel_rfl   -- (*nepenthe/pagemap.Map).In
theorem ent22 : entB Try.prog 22 = true := by kernel_rfl   -- (*nepenthe/pagemap.Map).Drop
theorem ent23 : entB Try.prog 23 = true := by kernel_rfl   -- (*nepenthe/pagemap.Map).Size
theorem ent24 : entB Try.prog 24 = true := by kernel_rfl   -- (*nepenthe/pagemap.Map).Move
theorem ent25 : entB Try.prog 25 = true := by kernel_rfl   -- (*nepenthe/pagemap.Map).Data
theorem ent26 : entB Try.prog 26 = true := by kernel_rfl   -- nepenthe/head.Less
theorem ent27 : entB Try.prog 27 = true := by kernel_rfl   -- nepenthe/nepentheref22.less
theorem ent28 : entB Try.prog 28 = true := by kernel_rfl   -- (*nepenthe/pagemap.Map).speaks
theorem ent29 : entB Try.prog 29 = true := by kernel_rfl   -- (*nepenthe/pagemap.Map).lose
theorem ent30 : entB Try.prog 30 = true := by kernel_rfl   -- nepenthe/pagemap.told
theorem ent31 : entB Try.prog 31 = true := by kernel_rfl   -- (*nepenthe/pagemap.Map).own
theorem ent32 : entB Try.prog 32 = true := by kernel_rfl   -- nepenthe/nepenthelaw22.add
theorem ent33 : entB Try.prog 33 = true := by kernel_rfl   -- nepenthe/nepentheref22.Drop
theorem ent34 : entB Try.prog 34 = true := by kernel_rfl   -- nepenthe/nepenthelaw22.places
theorem ent35 : entB Try.prog 35 = true := by kernel_rfl   -- nepenthe/nepentheref22.Right
theorem ent36 : entB Try.prog 36 = true := by kernel_rfl   -- nepenthe/nepentheref22.Put
theorem ent37 : entB Try.prog 37 = true := by kernel_rfl   -- nepenthe/nepentheref22.Move
theorem ent38 : entB Try.prog 38 = true := by kernel_rfl   -- nepenthe/nepentheref22.Data
theorem ent39 : entB Try.prog 39 = true := by kernel_rfl   -- nepenthe/nepentheref22.Place
theorem ent40 : entB Try.prog 40 = true := by kernel_rfl   -- slices.SortFunc[[]nepenthe/pagemap.Spot,nepenthe/pagemap.Spot]
theorem ent41 : entB Try.prog 41 = true := by kernel_rfl   -- (*nepenthe/pagemap.Map).In$1
theorem ent42 : entB Try.prog 42 = true := by kernel_rfl   -- nepenthe/pagemap.less
theorem ent43 : entB Try.prog 43 = true := by kernel_rfl   -- slices.SortFunc[[]nepenthe/api.Place,nepenthe/api.Place]
theorem ent44 : entB Try.prog 44 = true := by kernel_rfl   -- nepenthe/nepentheref22.gone
theorem ent45 : entB Try.prog 45 = true := by kernel_rfl   -- slices.pdqsortCmpFunc[nepenthe/pagemap.Spot]
theorem ent46 : entB Try.prog 46 = true := by kernel_rfl   -- math/bits.Len
theorem ent47 : entB Try.prog 47 = true := by kernel_rfl   -- slices.pdqsortCmpFunc[nepenthe/api.Place]
theorem ent48 : entB Try.prog 48 = true := by kernel_rfl   -- nepenthe/nepentheref22.ahead
theorem ent49 : entB Try.prog 49 = true := by kernel_rfl   -- slices.insertionSortCmpFunc[nepenthe/pagemap.Spot]
theorem ent50 : entB Try.prog 50 = true := by kernel_rfl   -- slices.heapSortCmpFunc[nepenthe/pagemap.Spot]
theorem ent51 : entB Try.prog 51 = true := by kernel_rfl   -- slices.breakPatternsCmpFunc[nepenthe/pagemap.Spot]
theorem ent52 : entB Try.prog 52 = true := by kernel_rfl   -- slices.choosePivotCmpFunc[nepenthe/pagemap.Spot]
theorem ent53 : entB Try.prog 53 = true := by kernel_rfl   -- slices.reverseRangeCmpFunc[nepenthe/pagemap.Spot]
theorem ent54 : entB Try.prog 54 = true := by kernel_rfl   -- slices.partialInsertionSortCmpFunc[nepenthe/pagemap.Spot]
theorem ent55 : entB Try.prog 55 = true := by kernel_rfl   -- slices.partitionEqualCmpFunc[nepenthe/pagemap.Spot]
theorem ent56 : entB Try.prog 56 = true := by kernel_rfl   -- slices.partitionCmpFunc[nepenthe/pagemap.Spot]
theorem ent57 : entB Try.prog 57 = true := by kernel_rfl   -- math/bits.Len32
theorem ent58 : entB Try.prog 58 = true := by kernel_rfl   -- math/bits.Len64
theorem ent59 : entB Try.prog 59 = true := by kernel_rfl   -- slices.insertionSortCmpFunc[nepenthe/api.Place]
theorem ent60 : entB Try.prog 60 = true := by kernel_rfl   -- slices.heapSortCmpFunc[nepenthe/api.Place]
theorem ent61 : entB Try.prog 61 = true := by kernel_rfl   -- slices.breakPatternsCmpFunc[nepenthe/api.Place]
theorem ent62 : entB Try.prog 62 = true := by kernel_rfl   -- slices.choosePivotCmpFunc[nepenthe/api.Place]
theorem ent63 : entB Try.prog 63 = true := by kernel_rfl   -- slices.reverseRangeCmpFunc[nepenthe/api.Place]
theorem ent64 : entB Try.prog 64 = true := by kernel_rfl   -- slices.partialInsertionSortCmpFunc[nepenthe/api.Place]
theorem ent65 : entB Try.prog 65 = true := by kernel_rfl   -- slices.partitionEqualCmpFunc[nepenthe/api.Place]
theorem ent66 : entB Try.prog 66 = true := by kernel_rfl   -- slices.partitionCmpFunc[nepenthe/api.Place]
theorem ent67 : entB Try.prog 67 = true := by kernel_rfl   -- slices.siftDownCmpFunc[nepenthe/pagemap.Spot]
theorem ent68 : entB Try.prog 68 = true := by kernel_rfl   -- slices.nextPowerOfTwo
theorem ent69 : entB Try.prog 69 = true := by kernel_rfl   -- (*slices.xorshift).Next
theorem ent70 : entB Try.prog 70 = true := by kernel_rfl   -- slices.medianAdjacentCmpFunc[nepenthe/pagemap.Spot]
theorem ent71 : entB Try.prog 71 = true := by kernel_rfl   -- slices.medianCmpFunc[nepenthe/pagemap.Spot]
theorem ent72 : entB Try.prog 72 = true := by kernel_rfl   -- slices.siftDownCmpFunc[nepenthe/api.Place]
theorem ent73 : entB Try.prog 73 = true := by kernel_rfl   -- slices.medianAdjacentCmpFunc[nepenthe/api.Place]
theorem ent74 : entB Try.prog 74 = true := by kernel_rfl   -- slices.medianCmpFunc[nepenthe/api.Place]
theorem ent75 : entB Try.prog 75 = true := by kernel_rfl   -- slices.order2CmpFunc[nepenthe/pagemap.Spot]
theorem ent76 : entB Try.prog 76 = true := by kernel_rfl   -- slices.order2CmpFunc[nepenthe/api.Place]
theorem mixed : Try.prog.follows .mixedOrders = true := by kernel_rfl
end Go.Proofs.Ytinngnckojbpnaa.T
