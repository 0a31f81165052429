/- THE ENGINE, over any program, joined out of: TG G13 G14 FrameG FrameN. -/
import Derived.Test.YtblmebjhhanoaaaGreatKE2
/- THE TYPES' ROWS (printed by a program of mine). -/
set_option linter.unusedSimpArgs false
set_option linter.unusedVariables false
namespace Go.Proofs.YtblmebjhhanoaaaGreat
open Go.RowKit
@[go_sem] theorem tI0 : tyI Tryz.prog 0 = some ⟨1, 0, false, [.tuple { toList := [] }], 0, 0, []⟩ := by kernel_rfl
@[go_sem] theorem tI1 : tyI Tryz.prog 1 = some ⟨1, 8, false, [.nilFunc], 0, 0, []⟩ := by kernel_rfl
@[go_sem] theorem tI2 : tyI Tryz.prog 2 = some ⟨1, 8, false, [.int .i64 0], 0, 0, []⟩ := by kernel_rfl
@[go_sem] theorem tI3 : tyI Tryz.prog 3 = some ⟨1, 8, false, [.int .i64 0], 0, 0, []⟩ := by kernel_rfl
@[go_sem] theorem tI4 : tyI Tryz.prog 4 = some ⟨1, 1, false, [.bool false], 0, 0, []⟩ := by kernel_rfl
@[go_sem] theorem tI5 : tyI Tryz.prog 5 = some ⟨1, 1, false, [.int .u8 0], 0, 0, []⟩ := by kernel_rfl
@[go_sem] theorem tI6 : tyI Tryz.prog 6 = some ⟨1, 1, false, [.int .u8 0], 0, 0, []⟩ := by kernel_rfl
@[go_sem] theorem tI7 : tyI Tryz.prog 7 = some ⟨4, 24, true, [.int .i64 0, .int .i64 0, .bool false, .int .u8 0], 3, 0, [(0, 1), (1, 1), (2, 1), (3, 1)]⟩ := by kernel_rfl
@[go_sem] theorem tI8 : tyI Tryz.prog 8 = some ⟨4, 24, true, [.int .i64 0, .int .i64 0, .bool false, .int .u8 0], 3, 0, [(0, 1), (1, 1), (2, 1), (3, 1)]⟩ := by kernel_rfl
@[go_sem] theorem tI9 : tyI Tryz.prog 9 = some ⟨1, 16, false, [.string { data := { toList := [] } }], 0, 0, []⟩ := by kernel_rfl
@[go_sem] theorem tI10 : tyI Tryz.prog 10 = some ⟨1, 16, false, [.string { data := { toList := [] } }], 0, 0, []⟩ := by kernel_rfl
@[go_sem] theorem tI11 : tyI Tryz.prog 11 = some ⟨1, 16, false, [.string { data := { toList := [] } }], 0, 0, []⟩ := by kernel_rfl
@[go_sem] theorem tI12 : tyI Tryz.prog 12 = some ⟨1, 8, false, [.int .u64 0], 0, 0, []⟩ := by kernel_rfl
@[go_sem] theorem tI13 : tyI Tryz.prog 13 = some ⟨2, 24, true, [.string { data := { toList := [] } }, .int .u64 0], 3, 0, [(0, 1), (1, 1)]⟩ := by kernel_rfl
@[go_sem] theorem tI14 : tyI Tryz.prog 14 = some ⟨2, 24, true, [.string { data := { toList := [] } }, .int .u64 0], 3, 0, [(0, 1), (1, 1)]⟩ := by kernel_rfl
@[go_sem] theorem tI15 : tyI Tryz.prog 15 = some ⟨1, 8, false, [.pointer none], 0, 208, []⟩ := by kernel_rfl
@[go_sem] theorem tI16 : tyI Tryz.prog 16 = some ⟨1, 8, false, [.pointer none], 0, 211, []⟩ := by kernel_rfl
@[go_sem] theorem tI17 : tyI Tryz.prog 17 = some ⟨1, 8, false, [.pointer none], 0, 220, []⟩ := by kernel_rfl
@[go_sem] theorem tI18 : tyI Tryz.prog 18 = some ⟨1, 8, true, [.pointer none], 3, 0, [(0, 1)]⟩ := by kernel_rfl
@[go_sem] theorem tI19 : tyI Tryz.prog 19 = some ⟨1, 8, true, [.pointer none], 3, 0, [(0, 1)]⟩ := by kernel_rfl
@[go_sem] theorem tI20 : tyI Tryz.prog 20 = some ⟨1, 16, false, [.nilIface], 0, 0, []⟩ := by kernel_rfl
@[go_sem] theorem tI21 : tyI Tryz.prog 21 = some ⟨1, 4, false, [.int .i32 0], 0, 0, []⟩ := by kernel_rfl
@[go_sem] theorem tI22 : tyI Tryz.prog 22 = some ⟨1, 24, false, [.slice none 0 0], 1, 56, []⟩ := by kernel_rfl
@[go_sem] theorem tI23 : tyI Tryz.prog 23 = some ⟨1, 8, false, [.nilFunc], 0, 0, []⟩ := by kernel_rfl
@[go_sem] theorem tI24 : tyI Tryz.prog 24 = some ⟨1, 8, false, [.nilFunc], 0, 0, []⟩ := by kernel_rfl
@[go_sem] theorem tI25 : tyI Tryz.prog 25 = some ⟨1, 24, false, [.slice none 0 0], 1, 47, []⟩ := by kernel_rfl
@[go_sem] theorem tI26 : tyI Tryz.prog 26 = some ⟨1, 24, false, [.slice none 0 0], 1, 62, []⟩ := by kernel_rfl
@[go_sem] theorem tI27 : tyI Tryz.prog 27 = some ⟨3, 56, true, [.slice none 0 0, .slice none 0 0, .int .i64 0], 3, 0, [(0, 1), (1, 1), (2, 1)]⟩ := by kernel_rfl
@[go_sem] theorem tI28 : tyI Tryz.prog 28 = some ⟨3, 56, true, [.slice none 0 0, .slice none 0 0, .int .i64 0], 3, 0, [(0, 1), (1, 1), (2, 1)]⟩ := by kernel_rfl
@[go_sem] theorem tI29 : tyI Tryz.prog 29 = some ⟨1, 8, false, [.int .i64 0], 0, 0, []⟩ := by kernel_rfl
@[go_sem] theorem tI30 : tyI Tryz.prog 30 = some ⟨1, 0, false, [.tuple { toList := [.agg { toList := [.slice none 0 0, .slice none 0 0, .int .i64 0] }, .int .i64 0] }], 0, 0, []⟩ := by kernel_rfl
@[go_sem] theorem tI31 : tyI Tryz.prog 31 = some ⟨1, 8, false, [.nilFunc], 0, 0, []⟩ := by kernel_rfl
@[go_sem] theorem tI32 : tyI Tryz.prog 32 = some ⟨1, 8, false, [.nilFunc], 0, 0, []⟩ := by kernel_rfl
@[go_sem] theorem tI33 : tyI Tryz.prog 33 = some ⟨1, 8, false, [.nilFunc], 0, 0, []⟩ := by kernel_rfl
@[go_sem] theorem tI34 : tyI Tryz.prog 34 = some ⟨1, 8, false, [.nilFunc], 0, 0, []⟩ := by kernel_rfl
@[go_sem] theorem tI35 : tyI Tryz.prog 35 = some ⟨1, 24, false, [.slice none 0 0], 1, 49, []⟩ := by kernel_rfl
@[go_sem] theorem tI36 : tyI Tryz.prog 36 = some ⟨1, 8, false, [.nilFunc], 0, 0, []⟩ := by kernel_rfl
@[go_sem] theorem tI37 : tyI Tryz.prog 37 = some ⟨1, 8, false, [.nilFunc], 0, 0, []⟩ := by kernel_rfl
@[go_sem] theorem tI38 : tyI Tryz.prog 38 = some ⟨2, 16, true, [.int .i64 0, .int .i64 0], 3, 0, [(0, 1), (1, 1)]⟩ := by kernel_rfl
@[go_sem] theorem tI39 : tyI Tryz.prog 39 = some ⟨2, 16, true, [.int .i64 0, .int .i64 0], 3, 0, [(0, 1), (1, 1)]⟩ := by kernel_rfl
@[go_sem] theorem tI40 : tyI Tryz.prog 40 = some ⟨1, 24, false, [.slice none 0 0], 1, 3, []⟩ := by kernel_rfl
@[go_sem] theorem tI41 : tyI Tryz.prog 41 = some ⟨1, 0, false, [.tuple { toList := [.agg { toList := [.int .i64 0, .int .i64 0] }, .slice none 0 0] }], 0, 0, []⟩ := by kernel_rfl
@[go_sem] theorem tI42 : tyI Tryz.prog 42 = some ⟨1, 8, false, [.nilFunc], 0, 0, []⟩ := by kernel_rfl
@[go_sem] theorem tI43 : tyI Tryz.prog 43 = some ⟨1, 24, false, [.slice none 0 0], 1, 86, []⟩ := by kernel_rfl
@[go_sem] theorem tI44 : tyI Tryz.prog 44 = some ⟨1, 8, false, [.nilFunc], 0, 0, []⟩ := by kernel_rfl
@[go_sem] theorem tI45 : tyI Tryz.prog 45 = some ⟨1, 8, false, [.nilFunc], 0, 0, []⟩ := by kernel_rfl
@[go_sem] theorem tI46 : tyI Tryz.prog 46 = some ⟨8, 64, true, [.int .i64 0, .int .i64 0, .int .i64 0, .int .i64 0, .int .i64 0, .int .i64 0, .int .i64 0, .int .i64 0], 3, 0, [(0, 1), (1, 1), (2, 1), (3, 1), (4, 1), (5, 1), (6, 1), (7, 1)]⟩ := by kernel_rfl
@[go_sem] theorem tI47 : tyI Tryz.prog 47 = some ⟨8, 64, true, [.int .i64 0, .int .i64 0, .int .i64 0, .int .i64 0, .int .i64 0, .int .i64 0, .int .i64 0, .int .i64 0], 3, 0, [(0, 1), (1, 1), (2, 1), (3, 1), (4, 1), (5, 1), (6, 1), (7, 1)]⟩ := by kernel_rfl
@[go_sem] theorem tI48 : tyI Tryz.prog 48 = some ⟨2, 16, true, [.int .i64 0, .int .i64 0], 3, 0, [(0, 1), (1, 1)]⟩ := by kernel_rfl
@[go_sem] theorem tI49 : tyI Tryz.prog 49 = some ⟨2, 16, true, [.int .i64 0, .int .i64 0], 3, 0, [(0, 1), (1, 1)]⟩ := by kernel_rfl
@[go_sem] theorem tI50 : tyI Tryz.prog 50 = some ⟨1, 8, false, [.nilFunc], 0, 0, []⟩ := by kernel_rfl
@[go_sem] theorem tI51 : tyI Tryz.prog 51 = some ⟨1, 0, false, [.tuple { toList := [.int .i64 0, .int .i64 0] }], 0, 0, []⟩ := by kernel_rfl
@[go_sem] theorem tI52 : tyI Tryz.prog 52 = some ⟨1, 8, false, [.nilFunc], 0, 0, []⟩ := by kernel_rfl
@[go_sem] theorem tI53 : tyI Tryz.prog 53 = some ⟨12, 96, true, [.int .i64 0, .int .i64 0, .int .i64 0, .int .i64 0, .int .i64 0, .int .i64 0, .int .i64 0, .int .i64 0, .int .i64 0, .int .i64 0, .int .i64 0, .int .i64 0], 3, 0, [(0, 1), (1, 1), (2, 1), (3, 1), (4, 1), (5, 1), (6, 1), (7, 1), (8, 1), (9, 1), (10, 1), (11, 1)]⟩ := by kernel_rfl
@[go_sem] theorem tI54 : tyI Tryz.prog 54 = some ⟨12, 96, true, [.int .i64 0, .int .i64 0, .int .i64 0, .int .i64 0, .int .i64 0, .int .i64 0, .int .i64 0, .int .i64 0, .int .i64 0, .int .i64 0, .int .i64 0, .int .i64 0], 3, 0, [(0, 1), (1, 1), (2, 1), (3, 1), (4, 1), (5, 1), (6, 1), (7, 1), (8, 1), (9, 1), (10, 1), (11, 1)]⟩ := by kernel_rfl
@[go_sem] theorem tI55 : tyI Tryz.prog 55 = some ⟨20, 176, true, [.int .i64 0, .int .i64 0, .int .i64 0, .int .i64 0, .int .i64 0, .int .i64 0, .int .i64 0, .int .i64 0, .int .i64 0, .int .i64 0, .int .i64 0, .int .i64 0, .int .i64 0, .int .i64 0, .int .i64 0, .int .i64 0, .slice none 0 0, .int .i64 0, .int .i64 0, .int .i64 0], 3, 0, [(0, 1), (1, 1), (2, 12), (14, 1), (15, 1), (16, 1), (17, 1), (18, 1), (19, 1)]⟩ := by kernel_rfl
@[go_sem] theorem tI56 : tyI Tryz.prog 56 = some ⟨20, 176, true, [.int .i64 0, .int .i64 0, .int .i64 0, .int .i64 0, .int .i64 0, .int .i64 0, .int .i64 0, .int .i64 0, .int .i64 0, .int .i64 0, .int .i64 0, .int .i64 0, .int .i64 0, .int .i64 0, .int .i64 0, .int .i64 0, .slice none 0 0, .int .i64 0, .int .i64 0, .int .i64 0], 3, 0, [(0, 1), (1, 1), (2, 12), (14, 1), (15, 1), (16, 1), (17, 1), (18, 1), (19, 1)]⟩ := by kernel_rfl
@[go_sem] theorem tI57 : tyI Tryz.prog 57 = some ⟨1, 8, false, [.nilFunc], 0, 0, []⟩ := by kernel_rfl
@[go_sem] theorem tI58 : tyI Tryz.prog 58 = some ⟨1, 8, false, [.nilFunc], 0, 0, []⟩ := by kernel_rfl
@[go_sem] theorem tI59 : tyI Tryz.prog 59 = some ⟨1, 8, false, [.nilFunc], 0, 0, []⟩ := by kernel_rfl
@[go_sem] theorem tI60 : tyI Tryz.prog 60 = some ⟨1, 8, false, [.nilFunc], 0, 0, []⟩ := by kernel_rfl
@[go_sem] theorem tI61 : tyI Tryz.prog 61 = some ⟨7, 56, true, [.int .i64 0, .int .i64 0, .int .i64 0, .int .i64 0, .int .i64 0, .int .i64 0, .int .i64 0], 3, 0, [(0, 1), (1, 1), (2, 1), (3, 1), (4, 1), (5, 1), (6, 1)]⟩ := by kernel_rfl
@[go_sem] theorem tI62 : tyI Tryz.prog 62 = some ⟨7, 56, true, [.int .i64 0, .int .i64 0, .int .i64 0, .int .i64 0, .int .i64 0, .int .i64 0, .int .i64 0], 3, 0, [(0, 1), (1, 1), (2, 1), (3, 1), (4, 1), (5, 1), (6, 1)]⟩ := by kernel_rfl
@[go_sem] theorem tI63 : tyI Tryz.prog 63 = some ⟨1, 8, false, [.nilFunc], 0, 0, []⟩ := by kernel_rfl
@[go_sem] theorem tI64 : tyI Tryz.prog 64 = some ⟨1, 8, false, [.nilFunc], 0, 0, []⟩ := by kernel_rfl
@[go_sem] theorem tI65 : tyI Tryz.prog 65 = some ⟨1, 8, false, [.pointer none], 0, 67, []⟩ := by kernel_rfl
@[go_sem] theorem tI66 : tyI Tryz.prog 66 = some ⟨7, 120, true, [.slice none 0 0, .slice none 0 0, .int .i64 0, .int .i64 0, .int .i64 0, .slice none 0 0, .slice none 0 0], 3, 0, [(0, 3), (3, 2), (5, 1), (6, 1)]⟩ := by kernel_rfl
@[go_sem] theorem tI67 : tyI Tryz.prog 67 = some ⟨7, 120, true, [.slice none 0 0, .slice none 0 0, .int .i64 0, .int .i64 0, .int .i64 0, .slice none 0 0, .slice none 0 0], 3, 0, [(0, 3), (3, 2), (5, 1), (6, 1)]⟩ := by kernel_rfl
@[go_sem] theorem tI68 : tyI Tryz.prog 68 = some ⟨1, 8, false, [.nilFunc], 0, 0, []⟩ := by kernel_rfl
@[go_sem] theorem tI69 : tyI Tryz.prog 69 = some ⟨5, 72, true, [.slice none 0 0, .slice none 0 0, .int .i64 0, .int .i64 0, .int .i64 0], 3, 0, [(0, 3), (3, 2)]⟩ := by kernel_rfl
@[go_sem] theorem tI70 : tyI Tryz.prog 70 = some ⟨5, 72, true, [.slice none 0 0, .slice none 0 0, .int .i64 0, .int .i64 0, .int .i64 0], 3, 0, [(0, 3), (3, 2)]⟩ := by kernel_rfl
@[go_sem] theorem tI71 : tyI Tryz.prog 71 = some ⟨1, 8, false, [.nilFunc], 0, 0, []⟩ := by kernel_rfl
@[go_sem] theorem tI72 : tyI Tryz.prog 72 = some ⟨1, 8, false, [.nilFunc], 0, 0, []⟩ := by kernel_rfl
@[go_sem] theorem tI73 : tyI Tryz.prog 73 = some ⟨1, 8, false, [.nilFunc], 0, 0, []⟩ := by kernel_rfl
@[go_sem] theorem tI74 : tyI Tryz.prog 74 = some ⟨1, 8, false, [.nilFunc], 0, 0, []⟩ := by kernel_rfl
@[go_sem] theorem tI75 : tyI Tryz.prog 75 = some ⟨1, 24, false, [.slice none 0 0], 1, 56, []⟩ := by kernel_rfl
@[go_sem] theorem tI76 : tyI Tryz.prog 76 = some ⟨1, 24, true, [.slice none 0 0], 3, 0, [(0, 1)]⟩ := by kernel_rfl
@[go_sem] theorem tI77 : tyI Tryz.prog 77 = some ⟨1, 24, true, [.slice none 0 0], 3, 0, [(0, 1)]⟩ := by kernel_rfl
@[go_sem] theorem tI78 : tyI Tryz.prog 78 = some ⟨1, 8, false, [.nilFunc], 0, 0, []⟩ := by kernel_rfl
@[go_sem] theorem tI79 : tyI Tryz.prog 79 = some ⟨1, 8, false, [.nilFunc], 0, 0, []⟩ := by kernel_rfl
@[go_sem] theorem tI80 : tyI Tryz.prog 80 = some ⟨4, 32, true, [.int .i64 0, .int .i64 0, .int .i64 0, .int .i64 0], 3, 0, [(0, 1), (1, 1), (2, 1), (3, 1)]⟩ := by kernel_rfl
@[go_sem] theorem tI81 : tyI Tryz.prog 81 = some ⟨4, 32, true, [.int .i64 0, .int .i64 0, .int .i64 0, .int .i64 0], 3, 0, [(0, 1), (1, 1), (2, 1), (3, 1)]⟩ := by kernel_rfl
@[go_sem] theorem tI82 : tyI Tryz.prog 82 = some ⟨1, 0, false, [.tuple { toList := [.agg { toList := [.int .i64 0, .int .i64 0, .int .i64 0, .int .i64 0] }, .int .i64 0] }], 0, 0, []⟩ := by kernel_rfl
@[go_sem] theorem tI83 : tyI Tryz.prog 83 = some ⟨1, 8, false, [.nilFunc], 0, 0, []⟩ := by kernel_rfl
@[go_sem] theorem tI84 : tyI Tryz.prog 84 = some ⟨4, 32, true, [.int .i64 0, .int .i64 0, .int .i64 0, .int .i64 0], 2, 3, [(0, 1)]⟩ := by kernel_rfl
@[go_sem] theorem tI85 : tyI Tryz.prog 85 = some ⟨3, 24, true, [.int .i64 0, .int .i64 0, .int .i64 0], 3, 0, [(0, 1), (1, 1), (2, 1)]⟩ := by kernel_rfl
@[go_sem] theorem tI86 : tyI Tryz.prog 86 = some ⟨3, 24, true, [.int .i64 0, .int .i64 0, .int .i64 0], 3, 0, [(0, 1), (1, 1), (2, 1)]⟩ := by kernel_rfl
@[go_sem] theorem tI87 : tyI Tryz.prog 87 = some ⟨1, 8, false, [.nilFunc], 0, 0, []⟩ := by kernel_rfl
@[go_sem] theorem tI88 : tyI Tryz.prog 88 = some ⟨1, 8, false, [.nilFunc], 0, 0, []⟩ := by kernel_rfl
@[go_sem] theorem tI89 : tyI Tryz.prog 89 = some ⟨1, 8, false, [.nilFunc], 0, 0, []⟩ := by kernel_rfl
@[go_sem] theorem tI90 : tyI Tryz.prog 90 = some ⟨1, 8, false, [.map none], 0, 0, []⟩ := by kernel_rfl
@[go_sem] theorem tI91 : tyI Tryz.prog 91 = some ⟨1, 24, false, [.slice none 0 0], 1, 126, []⟩ := by kernel_rfl
@[go_sem] theorem tI92 : tyI Tryz.prog 92 = some ⟨1, 8, false, [.nilFunc], 0, 0, []⟩ := by kernel_rfl
@[go_sem] theorem tI93 : tyI Tryz.prog 93 = some ⟨1, 0, false, [.tuple { toList := [.slice none 0 0, .int .i64 0, .int .i64 0] }], 0, 0, []⟩ := by kernel_rfl
@[go_sem] theorem tI94 : tyI Tryz.prog 94 = some ⟨1, 8, false, [.nilFunc], 0, 0, []⟩ := by kernel_rfl
@[go_sem] theorem tI95 : tyI Tryz.prog 95 = some ⟨1, 8, false, [.nilFunc], 0, 0, []⟩ := by kernel_rfl
@[go_sem] theorem tI96 : tyI Tryz.prog 96 = some ⟨1, 8, false, [.nilFunc], 0, 0, []⟩ := by kernel_rfl
@[go_sem] theorem tI97 : tyI Tryz.prog 97 = some ⟨1, 8, false, [.nilFunc], 0, 0, []⟩ := by kernel_rfl
@[go_sem] theorem tI98 : tyI Tryz.prog 98 = some ⟨1, 8, false, [.nilFunc], 0, 0, []⟩ := by kernel_rfl
@[go_sem] theorem tI99 : tyI Tryz.prog 99 = some ⟨1, 8, false, [.nilFunc], 0, 0, []⟩ := by kernel_rfl
@[go_sem] theorem tI100 : tyI Tryz.prog 100 = some ⟨1, 8, false, [.nilFunc], 0, 0, []⟩ := by kernel_rfl
@[go_sem] theorem tI101 : tyI Tryz.prog 101 = some ⟨1, 24, false, [.slice none 0 0], 1, 56, []⟩ := by kernel_rfl
@[go_sem] theorem tI102 : tyI Tryz.prog 102 = some ⟨1, 8, false, [.nilFunc], 0, 0, []⟩ := by kernel_rfl
@[go_sem] theorem tI103 : tyI Tryz.prog 103 = some ⟨1, 8, false, [.nilFunc], 0, 0, []⟩ := by kernel_rfl
@[go_sem] theorem tI104 : tyI Tryz.prog 104 = some ⟨1, 8, false, [.nilFunc], 0, 0, []⟩ := by kernel_rfl
@[go_sem] theorem tI105 : tyI Tryz.prog 105 = some ⟨1, 8, false, [.nilFunc], 0, 0, []⟩ := by kernel_rfl
@[go_sem] theorem tI106 : tyI Tryz.prog 106 = some ⟨1, 8, false, [.nilFunc], 0, 0, []⟩ := by kernel_rfl
@[go_sem] theorem tI107 : tyI Tryz.prog 107 = some ⟨5, 40, true, [.nilFunc, .nilFunc, .nilFunc, .nilFunc, .nilFunc], 2, 106, [(0, 1)]⟩ := by kernel_rfl
@[go_sem] theorem tI108 : tyI Tryz.prog 108 = some ⟨1, 0, false, [.tuple { toList := [.int .i64 0, .bool false] }], 0, 0, []⟩ := by kernel_rfl
@[go_sem] theorem tI109 : tyI Tryz.prog 109 = some ⟨1, 8, false, [.nilFunc], 0, 0, []⟩ := by kernel_rfl
@[go_sem] theorem tI110 : tyI Tryz.prog 110 = some ⟨1, 8, false, [.nilFunc], 0, 0, []⟩ := by kernel_rfl
@[go_sem] theorem tI111 : tyI Tryz.prog 111 = some ⟨2, 16, true, [.int .i64 0, .int .i64 0], 3, 0, [(0, 1), (1, 1)]⟩ := by kernel_rfl
@[go_sem] theorem tI112 : tyI Tryz.prog 112 = some ⟨2, 16, true, [.int .i64 0, .int .i64 0], 3, 0, [(0, 1), (1, 1)]⟩ := by kernel_rfl
@[go_sem] theorem tI113 : tyI Tryz.prog 113 = some ⟨1, 24, false, [.slice none 0 0], 1, 116, []⟩ := by kernel_rfl
@[go_sem] theorem tI114 : tyI Tryz.prog 114 = some ⟨1, 8, false, [.nilFunc], 0, 0, []⟩ := by kernel_rfl
@[go_sem] theorem tI115 : tyI Tryz.prog 115 = some ⟨5, 40, true, [.int .i64 0, .int .i64 0, .int .i64 0, .int .i64 0, .int .i64 0], 3, 0, [(0, 1), (1, 1), (2, 1), (3, 1), (4, 1)]⟩ := by kernel_rfl
@[go_sem] theorem tI116 : tyI Tryz.prog 116 = some ⟨5, 40, true, [.int .i64 0, .int .i64 0, .int .i64 0, .int .i64 0, .int .i64 0], 3, 0, [(0, 1), (1, 1), (2, 1), (3, 1), (4, 1)]⟩ := by kernel_rfl
@[go_sem] theorem tI117 : tyI Tryz.prog 117 = some ⟨1, 0, false, [.tuple { toList := [.agg { toList := [.int .i64 0, .int .i64 0] }, .int .i64 0] }], 0, 0, []⟩ := by kernel_rfl
@[go_sem] theorem tI118 : tyI Tryz.prog 118 = some ⟨1, 8, false, [.nilFunc], 0, 0, []⟩ := by kernel_rfl
@[go_sem] theorem tI119 : tyI Tryz.prog 119 = some ⟨1, 8, false, [.nilFunc], 0, 0, []⟩ := by kernel_rfl
@[go_sem] theorem tI120 : tyI Tryz.prog 120 = some ⟨5, 56, true, [.int .i64 0, .int .i64 0, .int .i64 0, .int .i64 0, .slice none 0 0], 3, 0, [(0, 4), (4, 1)]⟩ := by kernel_rfl
@[go_sem] theorem tI121 : tyI Tryz.prog 121 = some ⟨5, 56, true, [.int .i64 0, .int .i64 0, .int .i64 0, .int .i64 0, .slice none 0 0], 3, 0, [(0, 4), (4, 1)]⟩ := by kernel_rfl
@[go_sem] theorem tI122 : tyI Tryz.prog 122 = some ⟨1, 8, false, [.nilFunc], 0, 0, []⟩ := by kernel_rfl
@[go_sem] theorem tI123 : tyI Tryz.prog 123 = some ⟨2, 16, true, [.int .i64 0, .int .i64 0], 3, 0, [(0, 2)]⟩ := by kernel_rfl
@[go_sem] theorem tI124 : tyI Tryz.prog 124 = some ⟨2, 16, true, [.int .i64 0, .int .i64 0], 3, 0, [(0, 2)]⟩ := by kernel_rfl
@[go_sem] theorem tI125 : tyI Tryz.prog 125 = some ⟨3, 24, true, [.int .i64 0, .int .i64 0, .int .i64 0], 3, 0, [(0, 1), (1, 1), (2, 1)]⟩ := by kernel_rfl
@[go_sem] theorem tI126 : tyI Tryz.prog 126 = some ⟨3, 24, true, [.int .i64 0, .int .i64 0, .int .i64 0], 3, 0, [(0, 1), (1, 1), (2, 1)]⟩ := by kernel_rfl
@[go_sem] theorem tI127 : tyI Tryz.prog 127 = some ⟨1, 8, false, [.nilFunc], 0, 0, []⟩ := by kernel_rfl
@[go_sem] theorem tI128 : tyI Tryz.prog 128 = some ⟨1, 8, false, [.nilFunc], 0, 0, []⟩ := by kernel_rfl
@[go_sem] theorem tI129 : tyI Tryz.prog 129 = some ⟨1, 24, false, [.slice none 0 0], 1, 136, []⟩ := by kernel_rfl
@[go_sem] theorem tI130 : tyI Tryz.prog 130 = some ⟨1, 0, false, [.tuple { toList := [.slice none 0 0, .int .i64 0, .int .i64 0] }], 0, 0, []⟩ := by kernel_rfl
@[go_sem] theorem tI131 : tyI Tryz.prog 131 = some ⟨1, 8, false, [.nilFunc], 0, 0, []⟩ := by kernel_rfl
@[go_sem] theorem tI132 : tyI Tryz.prog 132 = some ⟨3, 40, true, [.slice none 0 0, .int .i64 0, .int .i64 0], 3, 0, [(0, 1), (1, 1), (2, 1)]⟩ := by kernel_rfl
@[go_sem] theorem tI133 : tyI Tryz.prog 133 = some ⟨3, 40, true, [.slice none 0 0, .int .i64 0, .int .i64 0], 3, 0, [(0, 1), (1, 1), (2, 1)]⟩ := by kernel_rfl
@[go_sem] theorem tI134 : tyI Tryz.prog 134 = some ⟨1, 8, false, [.nilFunc], 0, 0, []⟩ := by kernel_rfl
@[go_sem] theorem tI135 : tyI Tryz.prog 135 = some ⟨4, 32, true, [.int .i64 0, .int .i32 0, .int .i64 0, .int .i64 0], 3, 0, [(0, 1), (1, 1), (2, 1), (3, 1)]⟩ := by kernel_rfl
@[go_sem] theorem tI136 : tyI Tryz.prog 136 = some ⟨4, 32, true, [.int .i64 0, .int .i32 0, .int .i64 0, .int .i64 0], 3, 0, [(0, 1), (1, 1), (2, 1), (3, 1)]⟩ := by kernel_rfl
@[go_sem] theorem tI137 : tyI Tryz.prog 137 = some ⟨1, 24, false, [.slice none 0 0], 1, 47, []⟩ := by kernel_rfl
@[go_sem] theorem tI138 : tyI Tryz.prog 138 = some ⟨1, 8, false, [.nilFunc], 0, 0, []⟩ := by kernel_rfl
@[go_sem] theorem tI139 : tyI Tryz.prog 139 = some ⟨1, 8, false, [.nilFunc], 0, 0, []⟩ := by kernel_rfl
@[go_sem] theorem tI140 : tyI Tryz.prog 140 = some ⟨1, 8, false, [.nilFunc], 0, 0, []⟩ := by kernel_rfl
@[go_sem] theorem tI141 : tyI Tryz.prog 141 = some ⟨1, 8, false, [.int .u64 0], 0, 0, []⟩ := by kernel_rfl
@[go_sem] theorem tI142 : tyI Tryz.prog 142 = some ⟨1, 8, false, [.nilFunc], 0, 0, []⟩ := by kernel_rfl
@[go_sem] theorem tI143 : tyI Tryz.prog 143 = some ⟨1, 8, false, [.nilFunc], 0, 0, []⟩ := by kernel_rfl
@[go_sem] theorem tI144 : tyI Tryz.prog 144 = some ⟨1, 8, false, [.nilFunc], 0, 0, []⟩ := by kernel_rfl
@[go_sem] theorem tI145 : tyI Tryz.prog 145 = some ⟨1, 8, false, [.nilFunc], 0, 0, []⟩ := by kernel_rfl
@[go_sem] theorem tI146 : tyI Tryz.prog 146 = some ⟨4, 32, true, [.int .i64 0, .int .i64 0, .int .i64 0, .int .i64 0], 3, 0, [(0, 1), (1, 1), (2, 1), (3, 1)]⟩ := by kernel_rfl
@[go_sem] theorem tI147 : tyI Tryz.prog 147 = some ⟨4, 32, true, [.int .i64 0, .int .i64 0, .int .i64 0, .int .i64 0], 3, 0, [(0, 1), (1, 1), (2, 1), (3, 1)]⟩ := by kernel_rfl
@[go_sem] theorem tI148 : tyI Tryz.prog 148 = some ⟨11, 88, true, [.int .i64 0, .int .i64 0, .int .i64 0, .int .i64 0, .int .i64 0, .int .i64 0, .int .i64 0, .int .i64 0, .int .i64 0, .int .i64 0, .int .i64 0], 3, 0, [(0, 7), (7, 4)]⟩ := by kernel_rfl
@[go_sem] theorem tI149 : tyI Tryz.prog 149 = some ⟨11, 88, true, [.int .i64 0, .int .i64 0, .int .i64 0, .int .i64 0, .int .i64 0, .int .i64 0, .int .i64 0, .int .i64 0, .int .i64 0, .int .i64 0, .int .i64 0], 3, 0, [(0, 7), (7, 4)]⟩ := by kernel_rfl
@[go_sem] theorem tI150 : tyI Tryz.prog 150 = some ⟨1, 8, false, [.nilFunc], 0, 0, []⟩ := by kernel_rfl
@[go_sem] theorem tI151 : tyI Tryz.prog 151 = some ⟨1, 8, false, [.nilFunc], 0, 0, []⟩ := by kernel_rfl
@[go_sem] theorem tI152 : tyI Tryz.prog 152 = some ⟨1, 8, false, [.nilFunc], 0, 0, []⟩ := by kernel_rfl
@[go_sem] theorem tI153 : tyI Tryz.prog 153 = some ⟨1, 8, false, [.nilFunc], 0, 0, []⟩ := by kernel_rfl
@[go_sem] theorem tI154 : tyI Tryz.prog 154 = some ⟨1, 8, false, [.nilFunc], 0, 0, []⟩ := by kernel_rfl
@[go_sem] theorem tI155 : tyI Tryz.prog 155 = some ⟨1, 8, false, [.nilFunc], 0, 0, []⟩ := by kernel_rfl
@[go_sem] theorem tI156 : tyI Tryz.prog 156 = some ⟨1, 8, false, [.nilFunc], 0, 0, []⟩ := by kernel_rfl
@[go_sem] theorem tI157 : tyI Tryz.prog 157 = some ⟨1, 8, false, [.nilFunc], 0, 0, []⟩ := by kernel_rfl
@[go_sem] theorem tI158 : tyI Tryz.prog 158 = some ⟨1, 8, false, [.nilFunc], 0, 0, []⟩ := by kernel_rfl
@[go_sem] theorem tI159 : tyI Tryz.prog 159 = some ⟨1, 8, false, [.nilFunc], 0, 0, []⟩ := by kernel_rfl
@[go_sem] theorem tI160 : tyI Tryz.prog 160 = some ⟨1, 8, false, [.pointer none], 0, 121, []⟩ := by kernel_rfl
@[go_sem] theorem tI161 : tyI Tryz.prog 161 = some ⟨1, 8, false, [.nilFunc], 0, 0, []⟩ := by kernel_rfl
@[go_sem] theorem tI162 : tyI Tryz.prog 162 = some ⟨1, 8, false, [.nilFunc], 0, 0, []⟩ := by kernel_rfl
@[go_sem] theorem tI163 : tyI Tryz.prog 163 = some ⟨1, 8, false, [.pointer none], 0, 124, []⟩ := by kernel_rfl
@[go_sem] theorem tI164 : tyI Tryz.prog 164 = some ⟨2, 32, true, [.slice none 0 0, .int .i64 0], 3, 0, [(0, 1), (1, 1)]⟩ := by kernel_rfl
@[go_sem] theorem tI165 : tyI Tryz.prog 165 = some ⟨2, 32, true, [.slice none 0 0, .int .i64 0], 3, 0, [(0, 1), (1, 1)]⟩ := by kernel_rfl
@[go_sem] theorem tI166 : tyI Tryz.prog 166 = some ⟨1, 8, false, [.nilFunc], 0, 0, []⟩ := by kernel_rfl
@[go_sem] theorem tI167 : tyI Tryz.prog 167 = some ⟨1, 8, false, [.nilFunc], 0, 0, []⟩ := by kernel_rfl
@[go_sem] theorem tI168 : tyI Tryz.prog 168 = some ⟨1, 8, false, [.nilFunc], 0, 0, []⟩ := by kernel_rfl
@[go_sem] theorem tI169 : tyI Tryz.prog 169 = some ⟨1, 8, false, [.nilFunc], 0, 0, []⟩ := by kernel_rfl
@[go_sem] theorem tI170 : tyI Tryz.prog 170 = some ⟨1, 8, false, [.nilFunc], 0, 0, []⟩ := by kernel_rfl
@[go_sem] theorem tI171 : tyI Tryz.prog 171 = some ⟨1, 8, false, [.nilFunc], 0, 0, []⟩ := by kernel_rfl
@[go_sem] theorem tI172 : tyI Tryz.prog 172 = some ⟨1, 8, false, [.nilFunc], 0, 0, []⟩ := by kernel_rfl
@[go_sem] theorem tI173 : tyI Tryz.prog 173 = some ⟨5, 56, true, [.int .i64 0, .int .i64 0, .slice none 0 0, .int .i64 0, .int .i64 0], 3, 0, [(0, 2), (2, 1), (3, 1), (4, 1)]⟩ := by kernel_rfl
@[go_sem] theorem tI174 : tyI Tryz.prog 174 = some ⟨5, 56, true, [.int .i64 0, .int .i64 0, .slice none 0 0, .int .i64 0, .int .i64 0], 3, 0, [(0, 2), (2, 1), (3, 1), (4, 1)]⟩ := by kernel_rfl
@[go_sem] theorem tI175 : tyI Tryz.prog 175 = some ⟨1, 8, false, [.nilFunc], 0, 0, []⟩ := by kernel_rfl
@[go_sem] theorem tI176 : tyI Tryz.prog 176 = some ⟨1, 8, false, [.nilFunc], 0, 0, []⟩ := by kernel_rfl
@[go_sem] theorem tI177 : tyI Tryz.prog 177 = some ⟨1, 8, false, [.nilFunc], 0, 0, []⟩ := by kernel_rfl
@[go_sem] theorem tI178 : tyI Tryz.prog 178 = some ⟨1, 8, false, [.nilFunc], 0, 0, []⟩ := by kernel_rfl
@[go_sem] theorem tI179 : tyI Tryz.prog 179 = some ⟨1, 8, false, [.nilFunc], 0, 0, []⟩ := by kernel_rfl
@[go_sem] theorem tI180 : tyI Tryz.prog 180 = some ⟨1, 8, false, [.nilFunc], 0, 0, []⟩ := by kernel_rfl
@[go_sem] theorem tI181 : tyI Tryz.prog 181 = some ⟨1, 8, false, [.nilFunc], 0, 0, []⟩ := by kernel_rfl
@[go_sem] theorem tI182 : tyI Tryz.prog 182 = some ⟨2, 16, true, [.int .i64 0, .int .i64 0], 3, 0, [(0, 1), (1, 1)]⟩ := by kernel_rfl
@[go_sem] theorem tI183 : tyI Tryz.prog 183 = some ⟨2, 16, true, [.int .i64 0, .int .i64 0], 3, 0, [(0, 1), (1, 1)]⟩ := by kernel_rfl
@[go_sem] theorem tI184 : tyI Tryz.prog 184 = some ⟨1, 8, false, [.nilFunc], 0, 0, []⟩ := by kernel_rfl
@[go_sem] theorem tI185 : tyI Tryz.prog 185 = some ⟨1, 8, false, [.nilFunc], 0, 0, []⟩ := by kernel_rfl
@[go_sem] theorem tI186 : tyI Tryz.prog 186 = some ⟨1, 8, false, [.nilFunc], 0, 0, []⟩ := by kernel_rfl
@[go_sem] theorem tI187 : tyI Tryz.prog 187 = some ⟨1, 8, false, [.nilFunc], 0, 0, []⟩ := by kernel_rfl
@[go_sem] theorem tI188 : tyI Tryz.prog 188 = some ⟨1, 8, false, [.nilFunc], 0, 0, []⟩ := by kernel_rfl
@[go_sem] theorem tI189 : tyI Tryz.prog 189 = some ⟨1, 8, false, [.nilFunc], 0, 0, []⟩ := by kernel_rfl
@[go_sem] theorem tI190 : tyI Tryz.prog 190 = some ⟨1, 8, false, [.nilFunc], 0, 0, []⟩ := by kernel_rfl
@[go_sem] theorem tI191 : tyI Tryz.prog 191 = some ⟨1, 8, false, [.nilFunc], 0, 0, []⟩ := by kernel_rfl
@[go_sem] theorem tI192 : tyI Tryz.prog 192 = some ⟨1, 8, false, [.nilFunc], 0, 0, []⟩ := by kernel_rfl
@[go_sem] theorem tI193 : tyI Tryz.prog 193 = some ⟨10, 96, true, [.int .i64 0, .int .i64 0, .int .i64 0, .int .i64 0, .int .i64 0, .int .i64 0, .int .i64 0, .slice none 0 0, .int .i64 0, .int .i64 0], 3, 0, [(0, 7), (7, 1), (8, 2)]⟩ := by kernel_rfl
@[go_sem] theorem tI194 : tyI Tryz.prog 194 = some ⟨10, 96, true, [.int .i64 0, .int .i64 0, .int .i64 0, .int .i64 0, .int .i64 0, .int .i64 0, .int .i64 0, .slice none 0 0, .int .i64 0, .int .i64 0], 3, 0, [(0, 7), (7, 1), (8, 2)]⟩ := by kernel_rfl
@[go_sem] theorem tI195 : tyI Tryz.prog 195 = some ⟨1, 8, false, [.nilFunc], 0, 0, []⟩ := by kernel_rfl
@[go_sem] theorem tI196 : tyI Tryz.prog 196 = some ⟨1, 8, false, [.nilFunc], 0, 0, []⟩ := by kernel_rfl
@[go_sem] theorem tI197 : tyI Tryz.prog 197 = some ⟨1, 8, false, [.nilFunc], 0, 0, []⟩ := by kernel_rfl
@[go_sem] theorem tI198 : tyI Tryz.prog 198 = some ⟨1, 8, false, [.nilFunc], 0, 0, []⟩ := by kernel_rfl
@[go_sem] theorem tI199 : tyI Tryz.prog 199 = some ⟨1, 8, false, [.nilFunc], 0, 0, []⟩ := by kernel_rfl
@[go_sem] theorem tI200 : tyI Tryz.prog 200 = some ⟨1, 8, false, [.nilFunc], 0, 0, []⟩ := by kernel_rfl
@[go_sem] theorem tI201 : tyI Tryz.prog 201 = some ⟨1, 8, false, [.nilFunc], 0, 0, []⟩ := by kernel_rfl
@[go_sem] theorem tI202 : tyI Tryz.prog 202 = some ⟨1, 8, false, [.nilFunc], 0, 0, []⟩ := by kernel_rfl
@[go_sem] theorem tI203 : tyI Tryz.prog 203 = some ⟨1, 24, false, [.slice none 0 0], 1, 5, []⟩ := by kernel_rfl
@[go_sem] theorem tI204 : tyI Tryz.prog 204 = some ⟨1, 8, false, [.nilFunc], 0, 0, []⟩ := by kernel_rfl
@[go_sem] theorem tI205 : tyI Tryz.prog 205 = some ⟨1, 8, false, [.nilFunc], 0, 0, []⟩ := by kernel_rfl
@[go_sem] theorem tI206 : tyI Tryz.prog 206 = some ⟨1, 8, false, [.nilFunc], 0, 0, []⟩ := by kernel_rfl
@[go_sem] theorem tI207 : tyI Tryz.prog 207 = some ⟨4, 40, true, [.pointer none, .pointer none, .pointer none, .string { data := { toList := [] } }], 3, 0, [(0, 1), (1, 1), (2, 1), (3, 1)]⟩ := by kernel_rfl
@[go_sem] theorem tI208 : tyI Tryz.prog 208 = some ⟨4, 40, true, [.pointer none, .pointer none, .pointer none, .string { data := { toList := [] } }], 3, 0, [(0, 1), (1, 1), (2, 1), (3, 1)]⟩ := by kernel_rfl
@[go_sem] theorem tI209 : tyI Tryz.prog 209 = some ⟨0, 0, true, [], 2, 16, [(0, 1)]⟩ := by kernel_rfl
@[go_sem] theorem tI210 : tyI Tryz.prog 210 = some ⟨0, 0, true, [], 3, 0, [(0, 0)]⟩ := by kernel_rfl
@[go_sem] theorem tI211 : tyI Tryz.prog 211 = some ⟨0, 0, true, [], 3, 0, [(0, 0)]⟩ := by kernel_rfl
@[go_sem] theorem tI212 : tyI Tryz.prog 212 = some ⟨1, 4, false, [.int .u32 0], 0, 0, []⟩ := by kernel_rfl
@[go_sem] theorem tI213 : tyI Tryz.prog 213 = some ⟨1, 1, false, [.int .u8 0], 0, 0, []⟩ := by kernel_rfl
@[go_sem] theorem tI214 : tyI Tryz.prog 214 = some ⟨1, 1, false, [.int .u8 0], 0, 0, []⟩ := by kernel_rfl
@[go_sem] theorem tI215 : tyI Tryz.prog 215 = some ⟨1, 8, false, [.nilFunc], 0, 0, []⟩ := by kernel_rfl
@[go_sem] theorem tI216 : tyI Tryz.prog 216 = some ⟨1, 8, false, [.pointer none], 0, 5, []⟩ := by kernel_rfl
@[go_sem] theorem tI217 : tyI Tryz.prog 217 = some ⟨1, 4, false, [.int .i32 0], 0, 0, []⟩ := by kernel_rfl
@[go_sem] theorem tI218 : tyI Tryz.prog 218 = some ⟨1, 4, false, [.int .i32 0], 0, 0, []⟩ := by kernel_rfl
@[go_sem] theorem tI219 : tyI Tryz.prog 219 = some ⟨11, 48, true, [.int .u64 0, .int .u64 0, .int .u32 0, .int .u8 0, .int .u8 0, .int .u8 0, .int .u8 0, .nilFunc, .pointer none, .int .i32 0, .int .i32 0], 3, 0, [(0, 1), (1, 1), (2, 1), (3, 1), (4, 1), (5, 1), (6, 1), (7, 1), (8, 1), (9, 1), (10, 1)]⟩ := by kernel_rfl
@[go_sem] theorem tI220 : tyI Tryz.prog 220 = some ⟨11, 48, true, [.int .u64 0, .int .u64 0, .int .u32 0, .int .u8 0, .int .u8 0, .int .u8 0, .int .u8 0, .nilFunc, .pointer none, .int .i32 0, .int .i32 0], 3, 0, [(0, 1), (1, 1), (2, 1), (3, 1), (4, 1), (5, 1), (6, 1), (7, 1), (8, 1), (9, 1), (10, 1)]⟩ := by kernel_rfl
@[go_sem] theorem tI221 : tyI Tryz.prog 221 = some ⟨1, 8, false, [.pointer none], 0, 0, []⟩ := by kernel_rfl
@[go_sem] theorem fK7 : flatK Tryz.prog 7 = some [true, true, false, true] := by kernel_rfl
@[go_sem] theorem fK8 : flatK Tryz.prog 8 = some [true, true, false, true] := by kernel_rfl
@[go_sem] theorem fK38 : flatK Tryz.prog 38 = some [true, true] := by kernel_rfl
@[go_sem] theorem fK39 : flatK Tryz.prog 39 = some [true, true] := by kernel_rfl
@[go_sem] theorem fK46 : flatK Tryz.prog 46 = some [true, true, true, true, true, true, true, true] := by kernel_rfl
@[go_sem] theorem fK47 : flatK Tryz.prog 47 = some [true, true, true, true, true, true, true, true] := by kernel_rfl
@[go_sem] theorem fK48 : flatK Tryz.prog 48 = some [true, true] := by kernel_rfl
@[go_sem] theorem fK49 : flatK Tryz.prog 49 = some [true, true] := by kernel_rfl
@[go_sem] theorem fK53 : flatK Tryz.prog 53 = some [true, true, true, true, true, true, true, true, true, true, true, true] := by kernel_rfl
@[go_sem] theorem fK54 : flatK Tryz.prog 54 = some [true, true, true, true, true, true, true, true, true, true, true, true] := by kernel_rfl
@[go_sem] theorem fK61 : flatK Tryz.prog 61 = some [true, true, true, true, true, true, true] := by kernel_rfl
@[go_sem] theorem fK62 : flatK Tryz.prog 62 = some [true, true, true, true, true, true, true] := by kernel_rfl
@[go_sem] theorem fK80 : flatK Tryz.prog 80 = some [true, true, true, true] := by kernel_rfl
@[go_sem] theorem fK81 : flatK Tryz.prog 81 = some [true, true, true, true] := by kernel_rfl
@[go_sem] theorem fK85 : flatK Tryz.prog 85 = some [true, true, true] := by kernel_rfl
@[go_sem] theorem fK86 : flatK Tryz.prog 86 = some [true, true, true] := by kernel_rfl
@[go_sem] theorem fK111 : flatK Tryz.prog 111 = some [true, true] := by kernel_rfl
@[go_sem] theorem fK112 : flatK Tryz.prog 112 = some [true, true] := by kernel_rfl
@[go_sem] theorem fK115 : flatK Tryz.prog 115 = some [true, true, true, true, true] := by kernel_rfl
@[go_sem] theorem fK116 : flatK Tryz.prog 116 = some [true, true, true, true, true] := by kernel_rfl
@[go_sem] theorem fK125 : flatK Tryz.prog 125 = some [true, true, true] := by kernel_rfl
@[go_sem] theorem fK126 : flatK Tryz.prog 126 = some [true, true, true] := by kernel_rfl
@[go_sem] theorem fK135 : flatK Tryz.prog 135 = some [true, true, true, true] := by kernel_rfl
@[go_sem] theorem fK136 : flatK Tryz.prog 136 = some [true, true, true, true] := by kernel_rfl
@[go_sem] theorem fK146 : flatK Tryz.prog 146 = some [true, true, true, true] := by kernel_rfl
@[go_sem] theorem fK147 : flatK Tryz.prog 147 = some [true, true, true, true] := by kernel_rfl
@[go_sem] theorem fK182 : flatK Tryz.prog 182 = some [true, true] := by kernel_rfl
@[go_sem] theorem fK183 : flatK Tryz.prog 183 = some [true, true] := by kernel_rfl
@[go_sem] theorem aR84 : arrOf Tryz.prog 84 = some (4, 1) := by kernel_rfl
@[go_sem] theorem aR107 : arrOf Tryz.prog 107 = some (5, 1) := by kernel_rfl
@[go_sem] theorem aR209 : arrOf Tryz.prog 209 = some (0, 1) := by kernel_rfl
@[go_sem] theorem aV84 : arrV Tryz.prog 84 = some 4 := by kernel_rfl
@[go_sem] theorem aV107 : arrV Tryz.prog 107 = some 5 := by kernel_rfl
@[go_sem] theorem aV209 : arrV Tryz.prog 209 = some 0 := by kernel_rfl
@[go_sem] theorem rT0 : rowsTy Tryz.prog 0 = [] := by kernel_rfl
@[go_sem] theorem rT1 : rowsTy Tryz.prog 1 = [] := by kernel_rfl
@[go_sem] theorem rT2 : rowsTy Tryz.prog 2 = [] := by kernel_rfl
@[go_sem] theorem rT3 : rowsTy Tryz.prog 3 = [] := by kernel_rfl
@[go_sem] theorem rT4 : rowsTy Tryz.prog 4 = [] := by kernel_rfl
@[go_sem] theorem rT5 : rowsTy Tryz.prog 5 = [] := by kernel_rfl
@[go_sem] theorem rT6 : rowsTy Tryz.prog 6 = [] := by kernel_rfl
@[go_sem] theorem rT7 : rowsTy Tryz.prog 7 = [] := by kernel_rfl
@[go_sem] theorem rT8 : rowsTy Tryz.prog 8 = [] := by kernel_rfl
@[go_sem] theorem rT9 : rowsTy Tryz.prog 9 = [] := by kernel_rfl
@[go_sem] theorem rT10 : rowsTy Tryz.prog 10 = [] := by kernel_rfl
@[go_sem] theorem rT11 : rowsTy Tryz.prog 11 = [] := by kernel_rfl
@[go_sem] theorem rT12 : rowsTy Tryz.prog 12 = [] := by kernel_rfl
@[go_sem] theorem rT13 : rowsTy Tryz.prog 13 = [] := by kernel_rfl
@[go_sem] theorem rT14 : rowsTy Tryz.prog 14 = [] := by kernel_rfl
@[go_sem] theorem rT15 : rowsTy Tryz.prog 15 = [] := by kernel_rfl
@[go_sem] theorem rT16 : rowsTy Tryz.prog 16 = [] := by kernel_rfl
@[go_sem] theorem rT17 : rowsTy Tryz.prog 17 = [] := by kernel_rfl
@[go_sem] theorem rT18 : rowsTy Tryz.prog 18 = [] := by kernel_rfl
@[go_sem] theorem rT19 : rowsTy Tryz.prog 19 = [] := by kernel_rfl
@[go_sem] theorem rT20 : rowsTy Tryz.prog 20 = [] := by kernel_rfl
@[go_sem] theorem rT21 : rowsTy Tryz.prog 21 = [] := by kernel_rfl
@[go_sem] theorem rT22 : rowsTy Tryz.prog 22 = [some (56, 20)] := by kernel_rfl
@[go_sem] theorem rT23 : rowsTy Tryz.prog 23 = [] := by kernel_rfl
@[go_sem] theorem rT24 : rowsTy Tryz.prog 24 = [] := by kernel_rfl
@[go_sem] theorem rT25 : rowsTy Tryz.prog 25 = [some (47, 8)] := by kernel_rfl
@[go_sem] theorem rT26 : rowsTy Tryz.prog 26 = [some (62, 7)] := by kernel_rfl
@[go_sem] theorem rT27 : rowsTy Tryz.prog 27 = [some (47, 8), some (62, 7), none] := by kernel_rfl
@[go_sem] theorem rT28 : rowsTy Tryz.prog 28 = [some (47, 8), some (62, 7), none] := by kernel_rfl
@[go_sem] theorem rT29 : rowsTy Tryz.prog 29 = [] := by kernel_rfl
@[go_sem] theorem rT30 : rowsTy Tryz.prog 30 = [] := by kernel_rfl
@[go_sem] theorem rT31 : rowsTy Tryz.prog 31 = [] := by kernel_rfl
@[go_sem] theorem rT32 : rowsTy Tryz.prog 32 = [] := by kernel_rfl
@[go_sem] theorem rT33 : rowsTy Tryz.prog 33 = [] := by kernel_rfl
@[go_sem] theorem rT34 : rowsTy Tryz.prog 34 = [] := by kernel_rfl
@[go_sem] theorem rT35 : rowsTy Tryz.prog 35 = [some (49, 2)] := by kernel_rfl
@[go_sem] theorem rT36 : rowsTy Tryz.prog 36 = [] := by kernel_rfl
@[go_sem] theorem rT37 : rowsTy Tryz.prog 37 = [] := by kernel_rfl
@[go_sem] theorem rT38 : rowsTy Tryz.prog 38 = [] := by kernel_rfl
@[go_sem] theorem rT39 : rowsTy Tryz.prog 39 = [] := by kernel_rfl
@[go_sem] theorem rT40 : rowsTy Tryz.prog 40 = [some (3, 1)] := by kernel_rfl
@[go_sem] theorem rT41 : rowsTy Tryz.prog 41 = [] := by kernel_rfl
@[go_sem] theorem rT42 : rowsTy Tryz.prog 42 = [] := by kernel_rfl
@[go_sem] theorem rT43 : rowsTy Tryz.prog 43 = [some (86, 3)] := by kernel_rfl
@[go_sem] theorem rT44 : rowsTy Tryz.prog 44 = [] := by kernel_rfl
@[go_sem] theorem rT45 : rowsTy Tryz.prog 45 = [] := by kernel_rfl
@[go_sem] theorem rT46 : rowsTy Tryz.prog 46 = [] := by kernel_rfl
@[go_sem] theorem rT47 : rowsTy Tryz.prog 47 = [] := by kernel_rfl
@[go_sem] theorem rT48 : rowsTy Tryz.prog 48 = [] := by kernel_rfl
@[go_sem] theorem rT49 : rowsTy Tryz.prog 49 = [] := by kernel_rfl
@[go_sem] theorem rT50 : rowsTy Tryz.prog 50 = [] := by kernel_rfl
@[go_sem] theorem rT51 : rowsTy Tryz.prog 51 = [] := by kernel_rfl
@[go_sem] theorem rT52 : rowsTy Tryz.prog 52 = [] := by kernel_rfl
@[go_sem] theorem rT53 : rowsTy Tryz.prog 53 = [] := by kernel_rfl
@[go_sem] theorem rT54 : rowsTy Tryz.prog 54 = [] := by kernel_rfl
@[go_sem] theorem rT55 : rowsTy Tryz.prog 55 = [none, none, none, none, none, none, none, none, none, none, none, none, none, none, none, none, some (3, 1), none, none, none] := by kernel_rfl
@[go_sem] theorem rT56 : rowsTy Tryz.prog 56 = [none, none, none, none, none, none, none, none, none, none, none, none, none, none, none, none, some (3, 1), none, none, none] := by kernel_rfl
@[go_sem] theorem rT57 : rowsTy Tryz.prog 57 = [] := by kernel_rfl
@[go_sem] theorem rT58 : rowsTy Tryz.prog 58 = [] := by kernel_rfl
@[go_sem] theorem rT59 : rowsTy Tryz.prog 59 = [] := by kernel_rfl
@[go_sem] theorem rT60 : rowsTy Tryz.prog 60 = [] := by kernel_rfl
@[go_sem] theorem rT61 : rowsTy Tryz.prog 61 = [] := by kernel_rfl
@[go_sem] theorem rT62 : rowsTy Tryz.prog 62 = [] := by kernel_rfl
@[go_sem] theorem rT63 : rowsTy Tryz.prog 63 = [] := by kernel_rfl
@[go_sem] theorem rT64 : rowsTy Tryz.prog 64 = [] := by kernel_rfl
@[go_sem] theorem rT65 : rowsTy Tryz.prog 65 = [] := by kernel_rfl
@[go_sem] theorem rT66 : rowsTy Tryz.prog 66 = [some (47, 8), some (62, 7), none, none, none, some (56, 20), some (49, 2)] := by kernel_rfl
@[go_sem] theorem rT67 : rowsTy Tryz.prog 67 = [some (47, 8), some (62, 7), none, none, none, some (56, 20), some (49, 2)] := by kernel_rfl
@[go_sem] theorem rT68 : rowsTy Tryz.prog 68 = [] := by kernel_rfl
@[go_sem] theorem rT69 : rowsTy Tryz.prog 69 = [some (47, 8), some (62, 7), none, none, none] := by kernel_rfl
@[go_sem] theorem rT70 : rowsTy Tryz.prog 70 = [some (47, 8), some (62, 7), none, none, none] := by kernel_rfl
@[go_sem] theorem rT71 : rowsTy Tryz.prog 71 = [] := by kernel_rfl
@[go_sem] theorem rT72 : rowsTy Tryz.prog 72 = [] := by kernel_rfl
@[go_sem] theorem rT73 : rowsTy Tryz.prog 73 = [] := by kernel_rfl
@[go_sem] theorem rT74 : rowsTy Tryz.prog 74 = [] := by kernel_rfl
@[go_sem] theorem rT75 : rowsTy Tryz.prog 75 = [some (56, 20)] := by kernel_rfl
@[go_sem] theorem rT76 : rowsTy Tryz.prog 76 = [some (56, 20)] := by kernel_rfl
@[go_sem] theorem rT77 : rowsTy Tryz.prog 77 = [some (56, 20)] := by kernel_rfl
@[go_sem] theorem rT78 : rowsTy Tryz.prog 78 = [] := by kernel_rfl
@[go_sem] theorem rT79 : rowsTy Tryz.prog 79 = [] := by kernel_rfl
@[go_sem] theorem rT80 : rowsTy Tryz.prog 80 = [] := by kernel_rfl
@[go_sem] theorem rT81 : rowsTy Tryz.prog 81 = [] := by kernel_rfl
@[go_sem] theorem rT82 : rowsTy Tryz.prog 82 = [] := by kernel_rfl
@[go_sem] theorem rT83 : rowsTy Tryz.prog 83 = [] := by kernel_rfl
@[go_sem] theorem rT84 : rowsTy Tryz.prog 84 = [] := by kernel_rfl
@[go_sem] theorem rT85 : rowsTy Tryz.prog 85 = [] := by kernel_rfl
@[go_sem] theorem rT86 : rowsTy Tryz.prog 86 = [] := by kernel_rfl
@[go_sem] theorem rT87 : rowsTy Tryz.prog 87 = [] := by kernel_rfl
@[go_sem] theorem rT88 : rowsTy Tryz.prog 88 = [] := by kernel_rfl
@[go_sem] theorem rT89 : rowsTy Tryz.prog 89 = [] := by kernel_rfl
@[go_sem] theorem rT90 : rowsTy Tryz.prog 90 = [] := by kernel_rfl
@[go_sem] theorem rT91 : rowsTy Tryz.prog 91 = [some (126, 3)] := by kernel_rfl
@[go_sem] theorem rT92 : rowsTy Tryz.prog 92 = [] := by kernel_rfl
@[go_sem] theorem rT93 : rowsTy Tryz.prog 93 = [] := by kernel_rfl
@[go_sem] theorem rT94 : rowsTy Tryz.prog 94 = [] := by kernel_rfl
@[go_sem] theorem rT95 : rowsTy Tryz.prog 95 = [] := by kernel_rfl
@[go_sem] theorem rT96 : rowsTy Tryz.prog 96 = [] := by kernel_rfl
@[go_sem] theorem rT97 : rowsTy Tryz.prog 97 = [] := by kernel_rfl
@[go_sem] theorem rT98 : rowsTy Tryz.prog 98 = [] := by kernel_rfl
@[go_sem] theorem rT99 : rowsTy Tryz.prog 99 = [] := by kernel_rfl
@[go_sem] theorem rT100 : rowsTy Tryz.prog 100 = [] := by kernel_rfl
@[go_sem] theorem rT101 : rowsTy Tryz.prog 101 = [some (56, 20)] := by kernel_rfl
@[go_sem] theorem rT102 : rowsTy Tryz.prog 102 = [] := by kernel_rfl
@[go_sem] theorem rT103 : rowsTy Tryz.prog 103 = [] := by kernel_rfl
@[go_sem] theorem rT104 : rowsTy Tryz.prog 104 = [] := by kernel_rfl
@[go_sem] theorem rT105 : rowsTy Tryz.prog 105 = [] := by kernel_rfl
@[go_sem] theorem rT106 : rowsTy Tryz.prog 106 = [] := by kernel_rfl
@[go_sem] theorem rT107 : rowsTy Tryz.prog 107 = [] := by kernel_rfl
@[go_sem] theorem rT108 : rowsTy Tryz.prog 108 = [] := by kernel_rfl
@[go_sem] theorem rT109 : rowsTy Tryz.prog 109 = [] := by kernel_rfl
@[go_sem] theorem rT110 : rowsTy Tryz.prog 110 = [] := by kernel_rfl
@[go_sem] theorem rT111 : rowsTy Tryz.prog 111 = [] := by kernel_rfl
@[go_sem] theorem rT112 : rowsTy Tryz.prog 112 = [] := by kernel_rfl
@[go_sem] theorem rT113 : rowsTy Tryz.prog 113 = [some (116, 5)] := by kernel_rfl
@[go_sem] theorem rT114 : rowsTy Tryz.prog 114 = [] := by kernel_rfl
@[go_sem] theorem rT115 : rowsTy Tryz.prog 115 = [] := by kernel_rfl
@[go_sem] theorem rT116 : rowsTy Tryz.prog 116 = [] := by kernel_rfl
@[go_sem] theorem rT117 : rowsTy Tryz.prog 117 = [] := by kernel_rfl
@[go_sem] theorem rT118 : rowsTy Tryz.prog 118 = [] := by kernel_rfl
@[go_sem] theorem rT119 : rowsTy Tryz.prog 119 = [] := by kernel_rfl
@[go_sem] theorem rT120 : rowsTy Tryz.prog 120 = [none, none, none, none, some (3, 1)] := by kernel_rfl
@[go_sem] theorem rT121 : rowsTy Tryz.prog 121 = [none, none, none, none, some (3, 1)] := by kernel_rfl
@[go_sem] theorem rT122 : rowsTy Tryz.prog 122 = [] := by kernel_rfl
@[go_sem] theorem rT123 : rowsTy Tryz.prog 123 = [] := by kernel_rfl
@[go_sem] theorem rT124 : rowsTy Tryz.prog 124 = [] := by kernel_rfl
@[go_sem] theorem rT125 : rowsTy Tryz.prog 125 = [] := by kernel_rfl
@[go_sem] theorem rT126 : rowsTy Tryz.prog 126 = [] := by kernel_rfl
@[go_sem] theorem rT127 : rowsTy Tryz.prog 127 = [] := by kernel_rfl
@[go_sem] theorem rT128 : rowsTy Tryz.prog 128 = [] := by kernel_rfl
@[go_sem] theorem rT129 : rowsTy Tryz.prog 129 = [some (136, 4)] := by kernel_rfl
@[go_sem] theorem rT130 : rowsTy Tryz.prog 130 = [] := by kernel_rfl
@[go_sem] theorem rT131 : rowsTy Tryz.prog 131 = [] := by kernel_rfl
@[go_sem] theorem rT132 : rowsTy Tryz.prog 132 = [some (56, 20), none, none] := by kernel_rfl
@[go_sem] theorem rT133 : rowsTy Tryz.prog 133 = [some (56, 20), none, none] := by kernel_rfl
@[go_sem] theorem rT134 : rowsTy Tryz.prog 134 = [] := by kernel_rfl
@[go_sem] theorem rT135 : rowsTy Tryz.prog 135 = [] := by kernel_rfl
@[go_sem] theorem rT136 : rowsTy Tryz.prog 136 = [] := by kernel_rfl
@[go_sem] theorem rT137 : rowsTy Tryz.prog 137 = [some (47, 8)] := by kernel_rfl
@[go_sem] theorem rT138 : rowsTy Tryz.prog 138 = [] := by kernel_rfl
@[go_sem] theorem rT139 : rowsTy Tryz.prog 139 = [] := by kernel_rfl
@[go_sem] theorem rT140 : rowsTy Tryz.prog 140 = [] := by kernel_rfl
@[go_sem] theorem rT141 : rowsTy Tryz.prog 141 = [] := by kernel_rfl
@[go_sem] theorem rT142 : rowsTy Tryz.prog 142 = [] := by kernel_rfl
@[go_sem] theorem rT143 : rowsTy Tryz.prog 143 = [] := by kernel_rfl
@[go_sem] theorem rT144 : rowsTy Tryz.prog 144 = [] := by kernel_rfl
@[go_sem] theorem rT145 : rowsTy Tryz.prog 145 = [] := by kernel_rfl
@[go_sem] theorem rT146 : rowsTy Tryz.prog 146 = [] := by kernel_rfl
@[go_sem] theorem rT147 : rowsTy Tryz.prog 147 = [] := by kernel_rfl
@[go_sem] theorem rT148 : rowsTy Tryz.prog 148 = [] := by kernel_rfl
@[go_sem] theorem rT149 : rowsTy Tryz.prog 149 = [] := by kernel_rfl
@[go_sem] theorem rT150 : rowsTy Tryz.prog 150 = [] := by kernel_rfl
@[go_sem] theorem rT151 : rowsTy Tryz.prog 151 = [] := by kernel_rfl
@[go_sem] theorem rT152 : rowsTy Tryz.prog 152 = [] := by kernel_rfl
@[go_sem] theorem rT153 : rowsTy Tryz.prog 153 = [] := by kernel_rfl
@[go_sem] theorem rT154 : rowsTy Tryz.prog 154 = [] := by kernel_rfl
@[go_sem] theorem rT155 : rowsTy Tryz.prog 155 = [] := by kernel_rfl
@[go_sem] theorem rT156 : rowsTy Tryz.prog 156 = [] := by kernel_rfl
@[go_sem] theorem rT157 : rowsTy Tryz.prog 157 = [] := by kernel_rfl
@[go_sem] theorem rT158 : rowsTy Tryz.prog 158 = [] := by kernel_rfl
@[go_sem] theorem rT159 : rowsTy Tryz.prog 159 = [] := by kernel_rfl
@[go_sem] theorem rT160 : rowsTy Tryz.prog 160 = [] := by kernel_rfl
@[go_sem] theorem rT161 : rowsTy Tryz.prog 161 = [] := by kernel_rfl
@[go_sem] theorem rT162 : rowsTy Tryz.prog 162 = [] := by kernel_rfl
@[go_sem] theorem rT163 : rowsTy Tryz.prog 163 = [] := by kernel_rfl
@[go_sem] theorem rT164 : rowsTy Tryz.prog 164 = [some (3, 1), none] := by kernel_rfl
@[go_sem] theorem rT165 : rowsTy Tryz.prog 165 = [some (3, 1), none] := by kernel_rfl
@[go_sem] theorem rT166 : rowsTy Tryz.prog 166 = [] := by kernel_rfl
@[go_sem] theorem rT167 : rowsTy Tryz.prog 167 = [] := by kernel_rfl
@[go_sem] theorem rT168 : rowsTy Tryz.prog 168 = [] := by kernel_rfl
@[go_sem] theorem rT169 : rowsTy Tryz.prog 169 = [] := by kernel_rfl
@[go_sem] theorem rT170 : rowsTy Tryz.prog 170 = [] := by kernel_rfl
@[go_sem] theorem rT171 : rowsTy Tryz.prog 171 = [] := by kernel_rfl
@[go_sem] theorem rT172 : rowsTy Tryz.prog 172 = [] := by kernel_rfl
@[go_sem] theorem rT173 : rowsTy Tryz.prog 173 = [none, none, some (62, 7), none, none] := by kernel_rfl
@[go_sem] theorem rT174 : rowsTy Tryz.prog 174 = [none, none, some (62, 7), none, none] := by kernel_rfl
@[go_sem] theorem rT175 : rowsTy Tryz.prog 175 = [] := by kernel_rfl
@[go_sem] theorem rT176 : rowsTy Tryz.prog 176 = [] := by kernel_rfl
@[go_sem] theorem rT177 : rowsTy Tryz.prog 177 = [] := by kernel_rfl
@[go_sem] theorem rT178 : rowsTy Tryz.prog 178 = [] := by kernel_rfl
@[go_sem] theorem rT179 : rowsTy Tryz.prog 179 = [] := by kernel_rfl
@[go_sem] theorem rT180 : rowsTy Tryz.prog 180 = [] := by kernel_rfl
@[go_sem] theorem rT181 : rowsTy Tryz.prog 181 = [] := by kernel_rfl
@[go_sem] theorem rT182 : rowsTy Tryz.prog 182 = [] := by kernel_rfl
@[go_sem] theorem rT183 : rowsTy Tryz.prog 183 = [] := by kernel_rfl
@[go_sem] theorem rT184 : rowsTy Tryz.prog 184 = [] := by kernel_rfl
@[go_sem] theorem rT185 : rowsTy Tryz.prog 185 = [] := by kernel_rfl
@[go_sem] theorem rT186 : rowsTy Tryz.prog 186 = [] := by kernel_rfl
@[go_sem] theorem rT187 : rowsTy Tryz.prog 187 = [] := by kernel_rfl
@[go_sem] theorem rT188 : rowsTy Tryz.prog 188 = [] := by kernel_rfl
@[go_sem] theorem rT189 : rowsTy Tryz.prog 189 = [] := by kernel_rfl
@[go_sem] theorem rT190 : rowsTy Tryz.prog 190 = [] := by kernel_rfl
@[go_sem] theorem rT191 : rowsTy Tryz.prog 191 = [] := by kernel_rfl
@[go_sem] theorem rT192 : rowsTy Tryz.prog 192 = [] := by kernel_rfl
@[go_sem] theorem rT193 : rowsTy Tryz.prog 193 = [none, none, none, none, none, none, none, some (62, 7), none, none] := by kernel_rfl
@[go_sem] theorem rT194 : rowsTy Tryz.prog 194 = [none, none, none, none, none, none, none, some (62, 7), none, none] := by kernel_rfl
@[go_sem] theorem rT195 : rowsTy Tryz.prog 195 = [] := by kernel_rfl
@[go_sem] theorem rT196 : rowsTy Tryz.prog 196 = [] := by kernel_rfl
@[go_sem] theorem rT197 : rowsTy Tryz.prog 197 = [] := by kernel_rfl
@[go_sem] theorem rT198 : rowsTy Tryz.prog 198 = [] := by kernel_rfl
@[go_sem] theorem rT199 : rowsTy Tryz.prog 199 = [] := by kernel_rfl
@[go_sem] theorem rT200 : rowsTy Tryz.prog 200 = [] := by kernel_rfl
@[go_sem] theorem rT201 : rowsTy Tryz.prog 201 = [] := by kernel_rfl
@[go_sem] theorem rT202 : rowsTy Tryz.prog 202 = [] := by kernel_rfl
@[go_sem] theorem rT203 : rowsTy Tryz.prog 203 = [some (5, 1)] := by kernel_rfl
@[go_sem] theorem rT204 : rowsTy Tryz.prog 204 = [] := by kernel_rfl
@[go_sem] theorem rT205 : rowsTy Tryz.prog 205 = [] := by kernel_rfl
@[go_sem] theorem rT206 : rowsTy Tryz.prog 206 = [] := by kernel_rfl
@[go_sem] theorem rT207 : rowsTy Tryz.prog 207 = [] := by kernel_rfl
@[go_sem] theorem rT208 : rowsTy Tryz.prog 208 = [] := by kernel_rfl
@[go_sem] theorem rT209 : rowsTy Tryz.prog 209 = [] := by kernel_rfl
@[go_sem] theorem rT210 : rowsTy Tryz.prog 210 = [] := by kernel_rfl
@[go_sem] theorem rT211 : rowsTy Tryz.prog 211 = [] := by kernel_rfl
@[go_sem] theorem rT212 : rowsTy Tryz.prog 212 = [] := by kernel_rfl
@[go_sem] theorem rT213 : rowsTy Tryz.prog 213 = [] := by kernel_rfl
@[go_sem] theorem rT214 : rowsTy Tryz.prog 214 = [] := by kernel_rfl
@[go_sem] theorem rT215 : rowsTy Tryz.prog 215 = [] := by kernel_rfl
@[go_sem] theorem rT216 : rowsTy Tryz.prog 216 = [] := by kernel_rfl
@[go_sem] theorem rT217 : rowsTy Tryz.prog 217 = [] := by kernel_rfl
@[go_sem] theorem rT218 : rowsTy Tryz.prog 218 = [] := by kernel_rfl
@[go_sem] theorem rT219 : rowsTy Tryz.prog 219 = [] := by kernel_rfl
@[go_sem] theorem rT220 : rowsTy Tryz.prog 220 = [] := by kernel_rfl
@[go_sem] theorem rT221 : rowsTy Tryz.prog 221 = [] := by kernel_rfl
@[go_sem] theorem follows_any : Tryz.prog.follows .mixedOrders = true := by kernel_rfl
@[go_sem] theorem fT7_0 : fieldT Tryz.prog 7 0 = some 2 := by kernel_rfl
@[go_sem] theorem fT7_1 : fieldT Tryz.prog 7 1 = some 3 := by kernel_rfl
@[go_sem] theorem fT7_2 : fieldT Tryz.prog 7 2 = some 4 := by kernel_rfl
@[go_sem] theorem fT7_3 : fieldT Tryz.prog 7 3 = some 6 := by kernel_rfl
@[go_sem] theorem fT8_0 : fieldT Tryz.prog 8 0 = some 2 := by kernel_rfl
@[go_sem] theorem fT8_1 : fieldT Tryz.prog 8 1 = some 3 := by kernel_rfl
@[go_sem] theorem fT8_2 : fieldT Tryz.prog 8 2 = some 4 := by kernel_rfl
@[go_sem] theorem fT8_3 : fieldT Tryz.prog 8 3 = some 6 := by kernel_rfl
@[go_sem] theorem fT13_0 : fieldT Tryz.prog 13 0 = some 9 := by kernel_rfl
@[go_sem] theorem fT13_1 : fieldT Tryz.prog 13 1 = some 12 := by kernel_rfl
@[go_sem] theorem fT14_0 : fieldT Tryz.prog 14 0 = some 9 := by kernel_rfl
@[go_sem] theorem fT14_1 : fieldT Tryz.prog 14 1 = some 12 := by kernel_rfl
@[go_sem] theorem fT18_0 : fieldT Tryz.prog 18 0 = some 17 := by kernel_rfl
@[go_sem] theorem fT19_0 : fieldT Tryz.prog 19 0 = some 17 := by kernel_rfl
@[go_sem] theorem fT27_0 : fieldT Tryz.prog 27 0 = some 25 := by kernel_rfl
@[go_sem] theorem fT27_1 : fieldT Tryz.prog 27 1 = some 26 := by kernel_rfl
@[go_sem] theorem fT27_2 : fieldT Tryz.prog 27 2 = some 3 := by kernel_rfl
@[go_sem] theorem fT28_0 : fieldT Tryz.prog 28 0 = some 25 := by kernel_rfl
@[go_sem] theorem fT28_1 : fieldT Tryz.prog 28 1 = some 26 := by kernel_rfl
@[go_sem] theorem fT28_2 : fieldT Tryz.prog 28 2 = some 3 := by kernel_rfl
@[go_sem] theorem fT38_0 : fieldT Tryz.prog 38 0 = some 3 := by kernel_rfl
@[go_sem] theorem fT38_1 : fieldT Tryz.prog 38 1 = some 3 := by kernel_rfl
@[go_sem] theorem fT39_0 : fieldT Tryz.prog 39 0 = some 3 := by kernel_rfl
@[go_sem] theorem fT39_1 : fieldT Tryz.prog 39 1 = some 3 := by kernel_rfl
@[go_sem] theorem fT46_0 : fieldT Tryz.prog 46 0 = some 3 := by kernel_rfl
@[go_sem] theorem fT46_1 : fieldT Tryz.prog 46 1 = some 3 := by kernel_rfl
@[go_sem] theorem fT46_2 : fieldT Tryz.prog 46 2 = some 3 := by kernel_rfl
@[go_sem] theorem fT46_3 : fieldT Tryz.prog 46 3 = some 3 := by kernel_rfl
@[go_sem] theorem fT46_4 : fieldT Tryz.prog 46 4 = some 3 := by kernel_rfl
@[go_sem] theorem fT46_5 : fieldT Tryz.prog 46 5 = some 3 := by kernel_rfl
@[go_sem] theorem fT46_6 : fieldT Tryz.prog 46 6 = some 3 := by kernel_rfl
@[go_sem] theorem fT46_7 : fieldT Tryz.prog 46 7 = some 3 := by kernel_rfl
@[go_sem] theorem fT47_0 : fieldT Tryz.prog 47 0 = some 3 := by kernel_rfl
@[go_sem] theorem fT47_1 : fieldT Tryz.prog 47 1 = some 3 := by kernel_rfl
@[go_sem] theorem fT47_2 : fieldT Tryz.prog 47 2 = some 3 := by kernel_rfl
@[go_sem] theorem fT47_3 : fieldT Tryz.prog 47 3 = some 3 := by kernel_rfl
@[go_sem] theorem fT47_4 : fieldT Tryz.prog 47 4 = some 3 := by kernel_rfl
@[go_sem] theorem fT47_5 : fieldT Tryz.prog 47 5 = some 3 := by kernel_rfl
@[go_sem] theorem fT47_6 : fieldT Tryz.prog 47 6 = some 3 := by kernel_rfl
@[go_sem] theorem fT47_7 : fieldT Tryz.prog 47 7 = some 3 := by kernel_rfl
@[go_sem] theorem fT48_0 : fieldT Tryz.prog 48 0 = some 3 := by kernel_rfl
@[go_sem] theorem fT48_1 : fieldT Tryz.prog 48 1 = some 3 := by kernel_rfl
@[go_sem] theorem fT49_0 : fieldT Tryz.prog 49 0 = some 3 := by kernel_rfl
@[go_sem] theorem fT49_1 : fieldT Tryz.prog 49 1 = some 3 := by kernel_rfl
@[go_sem] theorem fT53_0 : fieldT Tryz.prog 53 0 = some 3 := by kernel_rfl
@[go_sem] theorem fT53_1 : fieldT Tryz.prog 53 1 = some 3 := by kernel_rfl
@[go_sem] theorem fT53_2 : fieldT Tryz.prog 53 2 = some 3 := by kernel_rfl
@[go_sem] theorem fT53_3 : fieldT Tryz.prog 53 3 = some 3 := by kernel_rfl
@[go_sem] theorem fT53_4 : fieldT Tryz.prog 53 4 = some 3 := by kernel_rfl
@[go_sem] theorem fT53_5 : fieldT Tryz.prog 53 5 = some 3 := by kernel_rfl
@[go_sem] theorem fT53_6 : fieldT Tryz.prog 53 6 = some 3 := by kernel_rfl
@[go_sem] theorem fT53_7 : fieldT Tryz.prog 53 7 = some 3 := by kernel_rfl
@[go_sem] theorem fT53_8 : fieldT Tryz.prog 53 8 = some 3 := by kernel_rfl
@[go_sem] theorem fT53_9 : fieldT Tryz.prog 53 9 = some 3 := by kernel_rfl
@[go_sem] theorem fT53_10 : fieldT Tryz.prog 53 10 = some 3 := by kernel_rfl
@[go_sem] theorem fT53_11 : fieldT Tryz.prog 53 11 = some 3 := by kernel_rfl
@[go_sem] theorem fT54_0 : fieldT Tryz.prog 54 0 = some 3 := by kernel_rfl
@[go_sem] theorem fT54_1 : fieldT Tryz.prog 54 1 = some 3 := by kernel_rfl
@[go_sem] theorem fT54_2 : fieldT Tryz.prog 54 2 = some 3 := by kernel_rfl
@[go_sem] theorem fT54_3 : fieldT Tryz.prog 54 3 = some 3 := by kernel_rfl
@[go_sem] theorem fT54_4 : fieldT Tryz.prog 54 4 = some 3 := by kernel_rfl
@[go_sem] theorem fT54_5 : fieldT Tryz.prog 54 5 = some 3 := by kernel_rfl
@[go_sem] theorem fT54_6 : fieldT Tryz.prog 54 6 = some 3 := by kernel_rfl
@[go_sem] theorem fT54_7 : fieldT Tryz.prog 54 7 = some 3 := by kernel_rfl
@[go_sem] theorem fT54_8 : fieldT Tryz.prog 54 8 = some 3 := by kernel_rfl
@[go_sem] theorem fT54_9 : fieldT Tryz.prog 54 9 = some 3 := by kernel_rfl
@[go_sem] theorem fT54_10 : fieldT Tryz.prog 54 10 = some 3 := by kernel_rfl
@[go_sem] theorem fT54_11 : fieldT Tryz.prog 54 11 = some 3 := by kernel_rfl
@[go_sem] theorem fT55_0 : fieldT Tryz.prog 55 0 = some 3 := by kernel_rfl
@[go_sem] theorem fT55_1 : fieldT Tryz.prog 55 1 = some 3 := by kernel_rfl
@[go_sem] theorem fT55_2 : fieldT Tryz.prog 55 2 = some 54 := by kernel_rfl
@[go_sem] theorem fT55_3 : fieldT Tryz.prog 55 3 = some 3 := by kernel_rfl
@[go_sem] theorem fT55_4 : fieldT Tryz.prog 55 4 = some 3 := by kernel_rfl
@[go_sem] theorem fT55_5 : fieldT Tryz.prog 55 5 = some 40 := by kernel_rfl
@[go_sem] theorem fT55_6 : fieldT Tryz.prog 55 6 = some 3 := by kernel_rfl
@[go_sem] theorem fT55_7 : fieldT Tryz.prog 55 7 = some 3 := by kernel_rfl
@[go_sem] theorem fT55_8 : fieldT Tryz.prog 55 8 = some 3 := by kernel_rfl
@[go_sem] theorem fT56_0 : fieldT Tryz.prog 56 0 = some 3 := by kernel_rfl
@[go_sem] theorem fT56_1 : fieldT Tryz.prog 56 1 = some 3 := by kernel_rfl
@[go_sem] theorem fT56_2 : fieldT Tryz.prog 56 2 = some 54 := by kernel_rfl
@[go_sem] theorem fT56_3 : fieldT Tryz.prog 56 3 = some 3 := by kernel_rfl
@[go_sem] theorem fT56_4 : fieldT Tryz.prog 56 4 = some 3 := by kernel_rfl
@[go_sem] theorem fT56_5 : fieldT Tryz.prog 56 5 = some 40 := by kernel_rfl
@[go_sem] theorem fT56_6 : fieldT Tryz.prog 56 6 = some 3 := by kernel_rfl
@[go_sem] theorem fT56_7 : fieldT Tryz.prog 56 7 = some 3 := by kernel_rfl
@[go_sem] theorem fT56_8 : fieldT Tryz.prog 56 8 = some 3 := by kernel_rfl
@[go_sem] theorem fT61_0 : fieldT Tryz.prog 61 0 = some 3 := by kernel_rfl
@[go_sem] theorem fT61_1 : fieldT Tryz.prog 61 1 = some 3 := by kernel_rfl
@[go_sem] theorem fT61_2 : fieldT Tryz.prog 61 2 = some 3 := by kernel_rfl
@[go_sem] theorem fT61_3 : fieldT Tryz.prog 61 3 = some 3 := by kernel_rfl
@[go_sem] theorem fT61_4 : fieldT Tryz.prog 61 4 = some 3 := by kernel_rfl
@[go_sem] theorem fT61_5 : fieldT Tryz.prog 61 5 = some 3 := by kernel_rfl
@[go_sem] theorem fT61_6 : fieldT Tryz.prog 61 6 = some 3 := by kernel_rfl
@[go_sem] theorem fT62_0 : fieldT Tryz.prog 62 0 = some 3 := by kernel_rfl
@[go_sem] theorem fT62_1 : fieldT Tryz.prog 62 1 = some 3 := by kernel_rfl
@[go_sem] theorem fT62_2 : fieldT Tryz.prog 62 2 = some 3 := by kernel_rfl
@[go_sem] theorem fT62_3 : fieldT Tryz.prog 62 3 = some 3 := by kernel_rfl
@[go_sem] theorem fT62_4 : fieldT Tryz.prog 62 4 = some 3 := by kernel_rfl
@[go_sem] theorem fT62_5 : fieldT Tryz.prog 62 5 = some 3 := by kernel_rfl
@[go_sem] theorem fT62_6 : fieldT Tryz.prog 62 6 = some 3 := by kernel_rfl
@[go_sem] theorem fT66_0 : fieldT Tryz.prog 66 0 = some 28 := by kernel_rfl
@[go_sem] theorem fT66_1 : fieldT Tryz.prog 66 1 = some 39 := by kernel_rfl
@[go_sem] theorem fT66_2 : fieldT Tryz.prog 66 2 = some 22 := by kernel_rfl
@[go_sem] theorem fT66_3 : fieldT Tryz.prog 66 3 = some 35 := by kernel_rfl
@[go_sem] theorem fT67_0 : fieldT Tryz.prog 67 0 = some 28 := by kernel_rfl
@[go_sem] theorem fT67_1 : fieldT Tryz.prog 67 1 = some 39 := by kernel_rfl
@[go_sem] theorem fT67_2 : fieldT Tryz.prog 67 2 = some 22 := by kernel_rfl
@[go_sem] theorem fT67_3 : fieldT Tryz.prog 67 3 = some 35 := by kernel_rfl
@[go_sem] theorem fT69_0 : fieldT Tryz.prog 69 0 = some 28 := by kernel_rfl
@[go_sem] theorem fT69_1 : fieldT Tryz.prog 69 1 = some 39 := by kernel_rfl
@[go_sem] theorem fT70_0 : fieldT Tryz.prog 70 0 = some 28 := by kernel_rfl
@[go_sem] theorem fT70_1 : fieldT Tryz.prog 70 1 = some 39 := by kernel_rfl
@[go_sem] theorem fT76_0 : fieldT Tryz.prog 76 0 = some 75 := by kernel_rfl
@[go_sem] theorem fT77_0 : fieldT Tryz.prog 77 0 = some 75 := by kernel_rfl
@[go_sem] theorem fT80_0 : fieldT Tryz.prog 80 0 = some 3 := by kernel_rfl
@[go_sem] theorem fT80_1 : fieldT Tryz.prog 80 1 = some 3 := by kernel_rfl
@[go_sem] theorem fT80_2 : fieldT Tryz.prog 80 2 = some 3 := by kernel_rfl
@[go_sem] theorem fT80_3 : fieldT Tryz.prog 80 3 = some 3 := by kernel_rfl
@[go_sem] theorem fT81_0 : fieldT Tryz.prog 81 0 = some 3 := by kernel_rfl
@[go_sem] theorem fT81_1 : fieldT Tryz.prog 81 1 = some 3 := by kernel_rfl
@[go_sem] theorem fT81_2 : fieldT Tryz.prog 81 2 = some 3 := by kernel_rfl
@[go_sem] theorem fT81_3 : fieldT Tryz.prog 81 3 = some 3 := by kernel_rfl
@[go_sem] theorem fT85_0 : fieldT Tryz.prog 85 0 = some 3 := by kernel_rfl
@[go_sem] theorem fT85_1 : fieldT Tryz.prog 85 1 = some 3 := by kernel_rfl
@[go_sem] theorem fT85_2 : fieldT Tryz.prog 85 2 = some 3 := by kernel_rfl
@[go_sem] theorem fT86_0 : fieldT Tryz.prog 86 0 = some 3 := by kernel_rfl
@[go_sem] theorem fT86_1 : fieldT Tryz.prog 86 1 = some 3 := by kernel_rfl
@[go_sem] theorem fT86_2 : fieldT Tryz.prog 86 2 = some 3 := by kernel_rfl
@[go_sem] theorem fT111_0 : fieldT Tryz.prog 111 0 = some 3 := by kernel_rfl
@[go_sem] theorem fT111_1 : fieldT Tryz.prog 111 1 = some 3 := by kernel_rfl
@[go_sem] theorem fT112_0 : fieldT Tryz.prog 112 0 = some 3 := by kernel_rfl
@[go_sem] theorem fT112_1 : fieldT Tryz.prog 112 1 = some 3 := by kernel_rfl
@[go_sem] theorem fT115_0 : fieldT Tryz.prog 115 0 = some 3 := by kernel_rfl
@[go_sem] theorem fT115_1 : fieldT Tryz.prog 115 1 = some 3 := by kernel_rfl
@[go_sem] theorem fT115_2 : fieldT Tryz.prog 115 2 = some 3 := by kernel_rfl
@[go_sem] theorem fT115_3 : fieldT Tryz.prog 115 3 = some 3 := by kernel_rfl
@[go_sem] theorem fT115_4 : fieldT Tryz.prog 115 4 = some 3 := by kernel_rfl
@[go_sem] theorem fT116_0 : fieldT Tryz.prog 116 0 = some 3 := by kernel_rfl
@[go_sem] theorem fT116_1 : fieldT Tryz.prog 116 1 = some 3 := by kernel_rfl
@[go_sem] theorem fT116_2 : fieldT Tryz.prog 116 2 = some 3 := by kernel_rfl
@[go_sem] theorem fT116_3 : fieldT Tryz.prog 116 3 = some 3 := by kernel_rfl
@[go_sem] theorem fT116_4 : fieldT Tryz.prog 116 4 = some 3 := by kernel_rfl
@[go_sem] theorem fT120_0 : fieldT Tryz.prog 120 0 = some 81 := by kernel_rfl
@[go_sem] theorem fT120_1 : fieldT Tryz.prog 120 1 = some 40 := by kernel_rfl
@[go_sem] theorem fT121_0 : fieldT Tryz.prog 121 0 = some 81 := by kernel_rfl
@[go_sem] theorem fT121_1 : fieldT Tryz.prog 121 1 = some 40 := by kernel_rfl
@[go_sem] theorem fT123_0 : fieldT Tryz.prog 123 0 = some 39 := by kernel_rfl
@[go_sem] theorem fT124_0 : fieldT Tryz.prog 124 0 = some 39 := by kernel_rfl
@[go_sem] theorem fT125_0 : fieldT Tryz.prog 125 0 = some 3 := by kernel_rfl
@[go_sem] theorem fT125_1 : fieldT Tryz.prog 125 1 = some 3 := by kernel_rfl
@[go_sem] theorem fT125_2 : fieldT Tryz.prog 125 2 = some 3 := by kernel_rfl
@[go_sem] theorem fT126_0 : fieldT Tryz.prog 126 0 = some 3 := by kernel_rfl
@[go_sem] theorem fT126_1 : fieldT Tryz.prog 126 1 = some 3 := by kernel_rfl
@[go_sem] theorem fT126_2 : fieldT Tryz.prog 126 2 = some 3 := by kernel_rfl
@[go_sem] theorem fT132_0 : fieldT Tryz.prog 132 0 = some 22 := by kernel_rfl
@[go_sem] theorem fT132_1 : fieldT Tryz.prog 132 1 = some 3 := by kernel_rfl
@[go_sem] theorem fT132_2 : fieldT Tryz.prog 132 2 = some 3 := by kernel_rfl
@[go_sem] theorem fT133_0 : fieldT Tryz.prog 133 0 = some 22 := by kernel_rfl
@[go_sem] theorem fT133_1 : fieldT Tryz.prog 133 1 = some 3 := by kernel_rfl
@[go_sem] theorem fT133_2 : fieldT Tryz.prog 133 2 = some 3 := by kernel_rfl
@[go_sem] theorem fT135_0 : fieldT Tryz.prog 135 0 = some 3 := by kernel_rfl
@[go_sem] theorem fT135_1 : fieldT Tryz.prog 135 1 = some 21 := by kernel_rfl
@[go_sem] theorem fT135_2 : fieldT Tryz.prog 135 2 = some 3 := by kernel_rfl
@[go_sem] theorem fT135_3 : fieldT Tryz.prog 135 3 = some 3 := by kernel_rfl
@[go_sem] theorem fT136_0 : fieldT Tryz.prog 136 0 = some 3 := by kernel_rfl
@[go_sem] theorem fT136_1 : fieldT Tryz.prog 136 1 = some 21 := by kernel_rfl
@[go_sem] theorem fT136_2 : fieldT Tryz.prog 136 2 = some 3 := by kernel_rfl
@[go_sem] theorem fT136_3 : fieldT Tryz.prog 136 3 = some 3 := by kernel_rfl
@[go_sem] theorem fT146_0 : fieldT Tryz.prog 146 0 = some 3 := by kernel_rfl
@[go_sem] theorem fT146_1 : fieldT Tryz.prog 146 1 = some 3 := by kernel_rfl
@[go_sem] theorem fT146_2 : fieldT Tryz.prog 146 2 = some 3 := by kernel_rfl
@[go_sem] theorem fT146_3 : fieldT Tryz.prog 146 3 = some 3 := by kernel_rfl
@[go_sem] theorem fT147_0 : fieldT Tryz.prog 147 0 = some 3 := by kernel_rfl
@[go_sem] theorem fT147_1 : fieldT Tryz.prog 147 1 = some 3 := by kernel_rfl
@[go_sem] theorem fT147_2 : fieldT Tryz.prog 147 2 = some 3 := by kernel_rfl
@[go_sem] theorem fT147_3 : fieldT Tryz.prog 147 3 = some 3 := by kernel_rfl
@[go_sem] theorem fT148_0 : fieldT Tryz.prog 148 0 = some 62 := by kernel_rfl
@[go_sem] theorem fT148_1 : fieldT Tryz.prog 148 1 = some 147 := by kernel_rfl
@[go_sem] theorem fT149_0 : fieldT Tryz.prog 149 0 = some 62 := by kernel_rfl
@[go_sem] theorem fT149_1 : fieldT Tryz.prog 149 1 = some 147 := by kernel_rfl
@[go_sem] theorem fT164_0 : fieldT Tryz.prog 164 0 = some 40 := by kernel_rfl
@[go_sem] theorem fT164_1 : fieldT Tryz.prog 164 1 = some 3 := by kernel_rfl
@[go_sem] theorem fT165_0 : fieldT Tryz.prog 165 0 = some 40 := by kernel_rfl
@[go_sem] theorem fT165_1 : fieldT Tryz.prog 165 1 = some 3 := by kernel_rfl
@[go_sem] theorem fT173_0 : fieldT Tryz.prog 173 0 = some 112 := by kernel_rfl
@[go_sem] theorem fT173_1 : fieldT Tryz.prog 173 1 = some 26 := by kernel_rfl
@[go_sem] theorem fT173_2 : fieldT Tryz.prog 173 2 = some 3 := by kernel_rfl
@[go_sem] theorem fT173_3 : fieldT Tryz.prog 173 3 = some 3 := by kernel_rfl
@[go_sem] theorem fT174_0 : fieldT Tryz.prog 174 0 = some 112 := by kernel_rfl
@[go_sem] theorem fT174_1 : fieldT Tryz.prog 174 1 = some 26 := by kernel_rfl
@[go_sem] theorem fT174_2 : fieldT Tryz.prog 174 2 = some 3 := by kernel_rfl
@[go_sem] theorem fT174_3 : fieldT Tryz.prog 174 3 = some 3 := by kernel_rfl
@[go_sem] theorem fT182_0 : fieldT Tryz.prog 182 0 = some 3 := by kernel_rfl
@[go_sem] theorem fT182_1 : fieldT Tryz.prog 182 1 = some 3 := by kernel_rfl
@[go_sem] theorem fT183_0 : fieldT Tryz.prog 183 0 = some 3 := by kernel_rfl
@[go_sem] theorem fT183_1 : fieldT Tryz.prog 183 1 = some 3 := by kernel_rfl
@[go_sem] theorem fT193_0 : fieldT Tryz.prog 193 0 = some 62 := by kernel_rfl
@[go_sem] theorem fT193_1 : fieldT Tryz.prog 193 1 = some 26 := by kernel_rfl
@[go_sem] theorem fT193_2 : fieldT Tryz.prog 193 2 = some 112 := by kernel_rfl
@[go_sem] theorem fT194_0 : fieldT Tryz.prog 194 0 = some 62 := by kernel_rfl
@[go_sem] theorem fT194_1 : fieldT Tryz.prog 194 1 = some 26 := by kernel_rfl
@[go_sem] theorem fT194_2 : fieldT Tryz.prog 194 2 = some 112 := by kernel_rfl
@[go_sem] theorem fT207_0 : fieldT Tryz.prog 207 0 = some 17 := by kernel_rfl
@[go_sem] theorem fT207_1 : fieldT Tryz.prog 207 1 = some 17 := by kernel_rfl
@[go_sem] theorem fT207_2 : fieldT Tryz.prog 207 2 = some 17 := by kernel_rfl
@[go_sem] theorem fT207_3 : fieldT Tryz.prog 207 3 = some 9 := by kernel_rfl
@[go_sem] theorem fT208_0 : fieldT Tryz.prog 208 0 = some 17 := by kernel_rfl
@[go_sem] theorem fT208_1 : fieldT Tryz.prog 208 1 = some 17 := by kernel_rfl
@[go_sem] theorem fT208_2 : fieldT Tryz.prog 208 2 = some 17 := by kernel_rfl
@[go_sem] theorem fT208_3 : fieldT Tryz.prog 208 3 = some 9 := by kernel_rfl
@[go_sem] theorem fT210_0 : fieldT Tryz.prog 210 0 = some 209 := by kernel_rfl
@[go_sem] theorem fT211_0 : fieldT Tryz.prog 211 0 = some 209 := by kernel_rfl
@[go_sem] theorem fT219_0 : fieldT Tryz.prog 219 0 = some 12 := by kernel_rfl
@[go_sem] theorem fT219_1 : fieldT Tryz.prog 219 1 = some 12 := by kernel_rfl
@[go_sem] theorem fT219_2 : fieldT Tryz.prog 219 2 = some 212 := by kernel_rfl
@[go_sem] theorem fT219_3 : fieldT Tryz.prog 219 3 = some 213 := by kernel_rfl
@[go_sem] theorem fT219_4 : fieldT Tryz.prog 219 4 = some 5 := by kernel_rfl
@[go_sem] theorem fT219_5 : fieldT Tryz.prog 219 5 = some 5 := by kernel_rfl
@[go_sem] theorem fT219_6 : fieldT Tryz.prog 219 6 = some 214 := by kernel_rfl
@[go_sem] theorem fT219_7 : fieldT Tryz.prog 219 7 = some 215 := by kernel_rfl
@[go_sem] theorem fT219_8 : fieldT Tryz.prog 219 8 = some 216 := by kernel_rfl
@[go_sem] theorem fT219_9 : fieldT Tryz.prog 219 9 = some 217 := by kernel_rfl
@[go_sem] theorem fT219_10 : fieldT Tryz.prog 219 10 = some 218 := by kernel_rfl
@[go_sem] theorem fT220_0 : fieldT Tryz.prog 220 0 = some 12 := by kernel_rfl
@[go_sem] theorem fT220_1 : fieldT Tryz.prog 220 1 = some 12 := by kernel_rfl
@[go_sem] theorem fT220_2 : fieldT Tryz.prog 220 2 = some 212 := by kernel_rfl
@[go_sem] theorem fT220_3 : fieldT Tryz.prog 220 3 = some 213 := by kernel_rfl
@[go_sem] theorem fT220_4 : fieldT Tryz.prog 220 4 = some 5 := by kernel_rfl
@[go_sem] theorem fT220_5 : fieldT Tryz.prog 220 5 = some 5 := by kernel_rfl
@[go_sem] theorem fT220_6 : fieldT Tryz.prog 220 6 = some 214 := by kernel_rfl
@[go_sem] theorem fT220_7 : fieldT Tryz.prog 220 7 = some 215 := by kernel_rfl
@[go_sem] theorem fT220_8 : fieldT Tryz.prog 220 8 = some 216 := by kernel_rfl
@[go_sem] theorem fT220_9 : fieldT Tryz.prog 220 9 = some 217 := by kernel_rfl
@[go_sem] theorem fT220_10 : fieldT Tryz.prog 220 10 = some 218 := by kernel_rfl
@[go_sem] theorem underI2 : Tryz.prog.underlying 2 = some (.int .i64) := Tryz.underlying2
@[go_sem] theorem underI3 : Tryz.prog.underlying 3 = some (.int .i64) := Tryz.underlying3
@[go_sem] theorem underI5 : Tryz.prog.underlying 5 = some (.int .u8) := Tryz.underlying5
@[go_sem] theorem underI21 : Tryz.prog.underlying 21 = some (.int .i32) := Tryz.underlying21
@[go_sem] theorem underI141 : Tryz.prog.underlying 141 = some (.int .u64) := Tryz.underlying141
@[go_sem] theorem underStr : Tryz.prog.underlying 9 = some .string := Tryz.underlying9
@[go_sem] theorem underBool : Tryz.prog.underlying 4 = some .bool := Tryz.underlying4
end Go.Proofs.YtblmebjhhanoaaaGreat
/- ENGINE (second) 13: ranges over functions: the iterator's text is walked where it is called, the rounds where it calls yield; over any program. -/
/- G -/
set_option linter.unusedSimpArgs false
set_option linter.unusedVariables false
namespace Go.Proofs.YtblmebjhhanoaaaGreat
open Go.RowKit

theorem Mod.refit {c : Ctx} {p : Nat → Prop} {ρ : Env} {S : AS} {tm : Array Value} {w : World} (h : Mod c p ρ S tm w) (N' : Nat) (D' : Nat → Prop) (t' : List (Nat × AV)) (lg' : Option (List (List Nat × List Nat))) (tm' : Array Value) (hN : tm'.size = N') (ht : ∀ d, Rep ρ ((find t' d).getD .dead) (tm'.getD d undef)) (hD : ∀ g, D' g → c.w0.heap.size ≤ g ∧ w.heap[g]? = some (.deferred (some []))) :
    Mod ⟨N', c.M, c.w0, c.ρ0, D'⟩ p ρ ⟨t', S.s, lg'⟩ tm' w :=
  ⟨hN, h.base, h.baseR, h.lo, h.dom, ht, h.objs, h.apart, h.old, h.ro, h.rsep, h.rnew, h.rdf, hD, h.frame⟩
theorem Mod.allocs {c : Ctx} {p : Nat → Prop} {ρ : Env} {S : AS} {tm : Array Value} {w : World} (h : Mod c p ρ S tm w) (ob : Obj) : Mod c p ρ S tm (w.alloc ob) :=
  h.step0 [] (fun _ _ e => e) rfl (fun _ _ => rfl) (fun _ e => e) h.dom rfl rfl rfl (by simp) (fun g hg _ => Below.heap_alloc w ob g hg) (fun i o hf => by cases hf) (fun i j oi oj x y _ hf => by cases hf)
theorem Mod.drop1 {c : Ctx} {p : Nat → Prop} {ρ : Env} {S : AS} {tm : Array Value} {w : World} (h : Mod c p ρ S tm w) (k : Nat) : Mod c p ρ (S.upd [(k, none)]) tm w := by
  refine h.step0 [(k, none)] (fun _ _ e => e) rfl (fun _ _ => rfl) (fun _ e => e) h.dom rfl rfl rfl (Nat.le_refl _) (fun g hg _ => rfl) (fun i o hf => ?_) (fun i j oi oj x y _ hf => ?_)
  · simp only [find] at hf
    split at hf <;> cases hf
  · simp only [find] at hf
    split at hf <;> cases hf

def modeIs (st : LoopState) (pe : Option Code) : LM → Prop
  | .ready => st = .ready ∧ pe = none
  | .busy => True
  | .done c => st = .done ∧ pe = some c
def recOf (tm : Array Value) (lc : LoopCode) (st : LoopState) (pe : Option Code) (D : Nat) : Loop := { state := st, pending := pe, fn := lc.fn, tmps := tm, params := lc.params, assign := lc.assign, body := lc.body, defers := D }
/-- a loop's record is turned. -/
theorem Mod.turnL {c : Ctx} {p : Nat → Prop} {ρ : Env} {S : AS} {tm : Array Value} {w : World} (h : Mod c p ρ S tm w) {id : Nat} {tmL : Array Value} {lc : LoopCode} {m : LM} (ho : S.obj id = some (.loop tmL lc m)) :
    ρ.f id = some (.func (.yield lc.blk) #[] #[]) ∧ ∃ D st pe, w.heap[lc.blk]? = some (.loop (recOf tmL lc st pe D)) ∧ modeIs st pe m ∧
      ∀ st' pe' q, (∀ o, q = some o → ∃ m', o = .loop tmL lc m' ∧ modeIs st' pe' m') → Mod c p ρ (S.upd [(id, q)]) tm (w.putObj lc.blk (.loop (recOf tmL lc st' pe' D))) := by
  obtain ⟨x, hx, l, D, st, pe, rfl, h1, rfl, h2⟩ := h.objs id _ ho
  refine ⟨hx, D, st, pe, h1, by cases m <;> exact h2, fun st' pe' q hq => ?_⟩
  have hlt : lc.blk < w.heap.size := (Array.getElem?_eq_some_iff.1 h1).1
  have hT : ∀ q, Touch ρ S [(id, q)] lc.blk := fun q => ⟨id, _, _, q, by simp [find], ho, hx, rfl⟩
  refine h.step0 [(id, q)] (fun _ _ e => e) rfl (fun _ _ => rfl) (fun _ e => e) h.dom rfl rfl rfl (by simp) (fun g hg hnT => ?_) (fun i o hf => ?_) (fun i j oi oj x y hne hf1 hf2 => ?_)
  · exact World.putObj_heap_other (fun e => by subst e; exact hnT (hT q))
  · simp only [find] at hf
    split at hf
    · next e =>
      subst e
      injection hf with hf
      obtain ⟨m', rfl, hm'⟩ := hq o hf
      refine ⟨_, hx, ⟨lc.blk, D, st', pe', rfl, World.putObj_heap_same hlt, rfl, by cases m' <;> exact hm'⟩, fun g hg => ?_⟩
      simp [oblk] at hg
      subst hg
      exact .inr (hT q)
    · cases hf
  · simp only [find] at hf1 hf2
    split at hf1
    · split at hf2
      · omega
      · cases hf2
    · cases hf1

/-- a loop's text fits the slots that rest. -/
structure LoopFit (tm : Array Value) (lc : LoopCode) : Prop where
  asg : dstB tm.size lc.assign = true
  body : dstB tm.size lc.body = true
  ps : ∀ t ∈ lc.params.toList, t < tm.size
  ra : rgB lc.assign = true
  rb : rgB lc.body = true
def zipT : List Tmp → List AV → List (Nat × AV) → List (Nat × AV)
  | p :: ps, a :: us, t => zipT ps us ((p, a) :: t)
  | _, _, t => t
theorem zipT_rep {ρ : Env} : ∀ (ps : List Tmp) (us : List AV) (vs : List Value) (t : List (Nat × AV)) (tm : Array Value), RepL ρ us vs → (∀ q ∈ ps, q < tm.size) → (∀ d, Rep ρ ((find t d).getD .dead) (tm.getD d undef)) →
    (((ps.zip vs).foldl (fun tm q => tm.setIfInBounds q.1 q.2) tm).size = tm.size ∧ ∀ d, Rep ρ ((find (zipT ps us t) d).getD .dead) (((ps.zip vs).foldl (fun tm q => tm.setIfInBounds q.1 q.2) tm).getD d undef))
  | [], us, vs, t, tm, _, _, ht => by
    have : zipT [] us t = t := by unfold zipT; rfl
    rw [this]
    exact ⟨rfl, ht⟩
  | p :: ps, [], vs, t, tm, h, _, ht => by
    cases vs with
    | nil => exact ⟨rfl, ht⟩
    | cons v vs => simp [RepL] at h
  | p :: ps, a :: us, [], t, tm, h, _, ht => by simp [RepL] at h
  | p :: ps, a :: us, v :: vs, t, tm, h, hp, ht => by
    simp only [RepL] at h
    have := zipT_rep ps us vs ((p, a) :: t) (tm.setIfInBounds p v) h.2 (fun q hq => by rw [Array.size_setIfInBounds]; exact hp q (List.mem_cons_of_mem _ hq)) (fun d => ?_)
    · simp only [List.zip_cons_cons, List.foldl_cons, zipT]
      exact ⟨this.1.trans (by simp), this.2⟩
    · have hpl := hp p List.mem_cons_self
      simp only [find]
      split
      · next e =>
        subst e
        have e1 : (tm.setIfInBounds p v).getD p undef = v := by simp [Array.getD_eq_getD_getElem?, Array.getElem?_setIfInBounds, hpl]
        rw [e1]
        exact h.1
      · next e =>
        have e1 : (tm.setIfInBounds p v).getD d undef = tm.getD d undef := by simp [Array.getD_eq_getD_getElem?, Array.getElem?_setIfInBounds, e]
        rw [e1]
        exact ht d

/-- the end of a round: what the iterator goes on with. -/
def yEnd (n id : Nat) (tmI tm : Array Value) (lc : LoopCode) (dst : Option Nat) (CN : Nat → AS → Prop) (b : Bool) (m : LM) (n' : Nat) (S : AS) : Prop :=
  match S.obj id, S.obj (8 * n) with
  | some (.loop tm' lc' _), some (.frm tm2 t) => (tm' = tm ∧ lc' = lc ∧ tm2 = tmI) ∧ CN n' (AS.putO ⟨t, (8 * n, none) :: (id, some (.loop tm lc m)) :: S.s, none⟩ dst (.raw (.bool b)))
  | _, _ => False
def yieldQ (n id : Nat) (tmI tm : Array Value) (lc : LoopCode) (dst : Option Nat) (CN : Nat → AS → Prop) : Exit → Nat → AS → Prop
  | .normal => yEnd n id tmI tm lc dst CN true .ready
  | .ret => yEnd n id tmI tm lc dst CN false (.done .ret)
  | .exit i => yEnd n id tmI tm lc dst CN false (.done (.exit i))
  | _ => fun _ _ => False
/-- a round begins: its record is busy. -/
def yBody (P : Program) (n id : Nat) (tmI tm : Array Value) (lc : LoopCode) (dst : Option Nat) (CN : Nat → AS → Prop) (n' : Nat) (S : AS) : Prop :=
  match S.obj id with
  | some (.loop tm' lc' .ready) => (tm' = tm ∧ lc' = lc) ∧ AWP P lc.body (yieldQ n id tmI tm lc dst CN) n' (S.upd [(id, some (.loop tm lc .busy))])
  | _ => False
def asgQ (P : Program) (n id : Nat) (tmI tm : Array Value) (lc : LoopCode) (dst : Option Nat) (CN : Nat → AS → Prop) : Exit → Nat → AS → Prop
  | .normal => yBody P n id tmI tm lc dst CN
  | _ => fun _ _ => False
/-- **a call of yield**: the loop's round, its text walked here. -/
def kYield (P : Program) (dst : Option Nat) (n : Nat) (CN : Nat → AS → Prop) (S : AS) (args : List AV) (id : Nat) : Prop :=
  match S.obj id, S.obj (id + 1) with
  | some (.loop tm lc .ready), some (.frm tm' t) => (tm' = tm ∧ LoopFit tm lc ∧ args.length = lc.params.toList.length) ∧
      ∀ tmI, AWP P lc.assign (asgQ P n id tmI tm lc dst CN) (n + 1) ⟨zipT lc.params.toList args t, (8 * n, some (.frm tmI S.t)) :: S.s, none⟩
  | _, _ => False

theorem wpIn_round {rd : Option Nat} {m : Nat} {P : Program} {o : Oper} {a : Act} {w w' : World} {K : Act → World → Prop} {Q : Exit → Act → World → Prop} {l : Nat} {f : FuncId} {tmps : Array Value} {assign body : Code} (hr : (execOp a.eval o).run P w = .ok (.round l f tmps assign body) w')
    (h : RoundIn (FW rd) (m - 1) P l f tmps assign body w' fun e w'' => ∃ v, e = .returned v ∧ K (a.put o.dst v) w'') : o.wpIn (FW rd) m P a w K Q := by
  refine ⟨fun _ _ => trivial, ?_⟩
  rw [Oper.semAt_eq _ _ _ (not_defer hr (fun d e => by cases e)), hr]
  refine ⟨fun q => absurd q (by simp [FW, Fence.wide]), h.mono ?_⟩
  rintro e w'' ⟨v, rfl, h2⟩
  exact h2

theorem frm_rep {ρ : Env} {w : World} {x : Value} {tm : Array Value} {t : List (Nat × AV)} (h : ObjAt ρ w x (.frm tm t)) (d : Nat) : Rep ρ ((find t d).getD .dead) (tm.getD d undef) := by
  cases e : find t d with
  | none => simp [Rep]
  | some v => exact h d v (by rw [find'_eq]; exact e)

theorem yield_ok {P : Program} {dst : Option Nat} {n : Nat} {CN : Nat → AS → Prop} {S : AS} {args : List AV} {id : Nat} (h : kYield P dst n CN S args id) : YieldOk P dst n CN S args id := by
  intro o x xs ts ho hdst hxs hx rd m0 c p ρ a w hd hm hn ha K Q hK
  unfold kYield at h
  split at h
  case h_2 => exact h.elim
  next tm lc tm' t e1 e2 =>
  obtain ⟨⟨rfl, hfit, hlen⟩, h⟩ := h
  obtain ⟨hl, D, st, pe, hheap, ⟨rfl, rfl⟩, -⟩ := hm.turnL e1
  have hv := hm.val x
  rw [hx] at hv
  simp only [Rep] at hv
  rw [hl] at hv
  have hev : a.eval x = .func (.yield lc.blk) #[] #[] := (Option.some.inj hv).symm
  have hargs : ∀ l : List Operand, RepL ρ (l.map S.val) (l.map a.eval) := by
    intro l
    induction l with
    | nil => simp [RepL]
    | cons y l ih => simp only [List.map_cons, RepL]; exact ⟨hm.val y, ih⟩
  have hra := hargs xs.toList
  rw [hxs] at hra
  have hrun : (execOp a.eval o).run P w = .ok (.round lc.blk lc.fn ((lc.params.zip (xs.map a.eval)).foldl (fun tmps (q : Tmp × Value) => tmps.setIfInBounds q.1 q.2) tm') lc.assign lc.body) w := by
    have hy := run_yield (P := P) (args := xs.map a.eval) hheap (by have := hra.length; simp at this; simp [recOf]; rw [this, hlen]; simp)
    unfold execOp
    rw [ho]
    simp [resolve, hev, Deferred.ofValue, invoke]
    simpa [recOf] using hy
  have htm : ∃ tmR, tmR = ((lc.params.zip (xs.map a.eval)).foldl (fun tmps (q : Tmp × Value) => tmps.setIfInBounds q.1 q.2) tm') := ⟨_, rfl⟩
  obtain ⟨tmR, htm⟩ := htm
  rw [← htm] at hrun
  have htm2 : tmR = (lc.params.toList.zip (xs.toList.map a.eval)).foldl (fun tmps (q : Tmp × Value) => tmps.setIfInBounds q.1 q.2) tm' := by
    rw [htm, ← Array.foldl_toList]
    simp
  refine wpIn_round hrun ?_
  obtain ⟨xF, hxF, hF⟩ := hm.objs _ _ e2
  -- the round's first state
  have hn0 := hm.n0 (n := n) (fun i hi => by have := hn i hi; omega)
  have hfr : ρ.f (8 * n) = none := hm.fresh (n := n) (fun i hi => by have := hn i hi; omega) (by omega)
  have hadd := hm.add (p' := fun i => p i ∨ i / 8 = n) (w' := w) hfr (by omega) (fun i h => .inl h) (.inr (by omega)) (x := .bool true) (o := .frm a.tmps S.t) rfl (.inl rfl) (fun ρ' he d v hv => by
    rw [find'_eq] at hv
    have := hm.tmps d
    unfold AS.get at this
    rw [hv] at this
    exact Rep.ext he _ _ this) (fun g hg => by cases hg)
  have hext := ext_with (x := Value.bool true) hfr
  obtain ⟨hz1, hz2⟩ := zipT_rep (ρ := ρ.with (8 * n) (.bool true)) lc.params.toList args (xs.toList.map a.eval) t tm' (RepL.ext hext _ _ hra) hfit.ps (fun d => Rep.ext hext _ _ (frm_rep hF d))
  rw [← htm2] at hz1 hz2
  obtain ⟨Ds, f1, f2, f3⟩ := ha
  let cR : Ctx := ⟨tm'.size, c.M, c.w0, c.ρ0, fun g => c.D g ∨ g ∈ Ds⟩
  have hmR : Mod cR (fun i => p i ∨ i / 8 = n) _ ⟨zipT lc.params.toList args t, (8 * n, some (.frm a.tmps S.t)) :: S.s, none⟩ tmR w :=
    hadd.refit tm'.size (fun g => c.D g ∨ g ∈ Ds) _ none tmR hz1 hz2 (fun g hg => by
      rcases hg with hg | hg
      · exact hm.dfr g hg
      · exact ⟨(f3 g hg).1, (f3 g hg).2.2⟩)
  refine roundIn_of_wpIn trivial ?_
  refine wpIn_mono (awp_sound (rd := some lc.blk) (c := cR) lc.assign _ (n + 1) _ _ _ { tmps := tmR, defers := [] } w (.inr hfit.ra) hfit.asg (h a.tmps) hmR (fun i hi => by rcases hi with hi | hi <;> first | (have := hn i hi; omega) | omega) (.nil rfl)) ?_
  rintro e a1 w1 ⟨hdef, n1, S1, p1, ρ1, hQ, hm1, hn1⟩
  cases e with
  | normal =>
    have hQ : yBody P n id a.tmps tm' lc dst CN n1 S1 := hQ
    unfold yBody at hQ
    split at hQ
    case h_2 => exact hQ.elim
    next tm1 lc1 e3 =>
    obtain ⟨⟨rfl, rfl⟩, hQ⟩ := hQ
    obtain ⟨-, D1, st1, pe1, hh1, ⟨rfl, rfl⟩, hturn⟩ := hm1.turnL e3
    refine ⟨_, run_beginRound hh1 rfl, ?_⟩
    have hm2 := hturn .busy none (some (.loop tm1 lc1 .busy)) (fun o ho => ⟨.busy, (Option.some.inj ho).symm, trivial⟩)
    have hdef2 : DefOk cR a1 (w1.putObj lc1.blk (.loop (recOf tm1 lc1 .busy none D1))) := by
      obtain ⟨Ds1, g1, g2, g3⟩ := hdef
      refine ⟨Ds1, g1, g2, fun D' hD' => ⟨(g3 D' hD').1, (g3 D' hD').2.1, ?_⟩⟩
      refine (World.putObj_heap_other fun e => ?_).trans (g3 D' hD').2.2
      have := (g3 D' hD').2.2
      rw [e, hh1] at this
      cases this
    refine wpIn_mono (awp_sound (rd := some lc1.blk) (c := cR) lc1.body _ n1 _ _ _ a1 _ (.inr hfit.rb) hfit.body hQ hm2 hn1 hdef2) ?_
    rintro e a2 w2 ⟨-, n2, S2, p2, ρ2, hQ2, hm3, hn2⟩
    have key : ∀ (jump : Option Code) (m : LM), modeIs (if jump.isNone then .ready else .done) jump m → yEnd n id a.tmps tm1 lc1 dst CN jump.isNone m n2 S2 → ∃ v w', (Instr.endRound lc1.blk jump).run P w2 = .ok v w' ∧ ∃ v', Ending.returned v = .returned v' ∧ K (a.put o.dst v') w' := by
      intro jump m hmode hy
      unfold yEnd at hy
      split at hy
      case h_2 => exact hy.elim
      next tm4 lc4 m4 tm5 t5 e5 e6 =>
      obtain ⟨⟨rfl, rfl, rfl⟩, hy⟩ := hy
      obtain ⟨-, D2, st2, pe2, hh2, -, hturn2⟩ := hm3.turnL e5
      obtain ⟨xF2, -, hF2⟩ := hm3.objs _ _ e6
      refine ⟨_, _, run_endRound jump hh2, _, rfl, ?_⟩
      have hm4 := (hturn2 (if jump.isNone then .ready else .done) jump (some (.loop tm4 lc4 m)) (fun o ho => ⟨m, (Option.some.inj ho).symm, hmode⟩)).drop1 (8 * n)
      have hm5 := hm4.refit c.N c.D t5 none a.tmps hm.size (frm_rep hF2) (fun g hg => hm4.dfr g (.inl hg))
      have hm6 : Mod c p2 ρ2 (AS.putO ⟨t5, (8 * n, none) :: (id, some (.loop tm4 lc4 m)) :: S2.s, none⟩ o.dst (.raw (.bool jump.isNone))) (a.put o.dst (.bool jump.isNone)).tmps _ := Mod.put hm5 o.dst (by simp [Rep]) hd
      rw [hdst] at hm6
      rw [hdst]
      refine hK n2 _ p2 ρ2 _ _ hy hm6 hn2 ?_
      refine DefOk.put (a := a) ?_ dst _
      exact ⟨Ds, f1, f2, fun D' hD' => ⟨(f3 D' hD').1, (f3 D' hD').2.1, (hm4.dfr D' (.inr hD')).2⟩⟩
    cases e with
    | normal => exact key none .ready ⟨rfl, rfl⟩ hQ2
    | ret => exact key (some .ret) (.done .ret) ⟨rfl, rfl⟩ hQ2
    | exit i => exact key (some (.exit i)) (.done (.exit i)) ⟨rfl, rfl⟩ hQ2
    | _ => exact hQ2.elim
  | _ => exact hQ.elim

/-! the statement -/
def kEnd (Q : Exit → Nat → AS → Prop) (n' : Nat) (S : AS) : LM → Prop
  | .ready => Q .normal n' S
  | .done .ret => Q .ret n' S
  | .done (.exit i) => Q (.exit i) n' S
  | _ => False
def rangeEnd (n : Nat) (tm : Array Value) (lc : LoopCode) (Q : Exit → Nat → AS → Prop) (n' : Nat) (S : AS) : Prop :=
  match S.obj (8 * n), S.obj (8 * n + 1) with
  | some (.loop tm' lc' m), some (.frm tm2 t) => (tm' = tm ∧ lc' = lc ∧ tm2 = tm) ∧ kEnd Q n' ⟨t, (8 * n + 1, none) :: (8 * n, none) :: S.s, none⟩ m
  | _, _ => False
def rangeQ (n : Nat) (tm : Array Value) (lc : LoopCode) (Q : Exit → Nat → AS → Prop) : Exit → Nat → AS → Prop
  | .normal => rangeEnd n tm lc Q
  | .ret => rangeEnd n tm lc Q
  | _ => fun _ _ => False

theorem arange {P : Program} {Q : Exit → Nat → AS → Prop} {n : Nat} {S : AS} {g : Operand} {ps : Array Tmp} {asg body : Code} {f : FuncId} {caps : List AV} (hg : S.val g = .clo (.func f) caps) {fn : Func} {code : Code}
    (hf : P.funcs[f]? = some fn) (hb : fn.body = some code) (hfn : fnB P f = true) (hd : dstB fn.ntmps code = true) (hl : (1 + caps.length) ≤ fn.ntmps) (hrs : fn.results = #[])
    (h : ∀ tm lc, LoopFit tm lc → lc.params.toList = ps.toList → lc.assign = asg → lc.body = body → AWP P code (rangeQ n tm lc Q) (n + 1) ⟨slots (.hdr (8 * n) :: caps), (8 * n, some (.loop tm lc .ready)) :: (8 * n + 1, some (.frm tm S.t)) :: S.s, none⟩) :
    ARange P g ps asg body Q n S := by
  intro m0 c p ρ a w hda hdb hps hra hrb hm hn ha
  refine wpIn_rangeFunc (F := FW none) fun fn0 _ => ?_
  obtain ⟨Ds, f1, f2, f3⟩ := ha
  -- the function that is ranged over
  have hv := hm.val g
  rw [hg] at hv
  simp only [Rep] at hv
  obtain ⟨cs, hev, hcs⟩ := hv
  let l := w.heap.size + 1
  let lc : LoopCode := ⟨l, fn0, ps, asg, body⟩
  let wD := w.alloc (.deferred (some []))
  let w1 := wD.alloc (.loop (recOf a.tmps lc .ready none w.heap.size))
  have hsD : wD.heap.size = l := by simp [wD, l]
  obtain ⟨fn1, e1, e2, e3⟩ : ∃ fn, P.funcs[f]? = some fn ∧ fn.name ≠ "runtime.NumGoroutine" ∧ fn.body.isSome = true := by
    unfold fnB at hfn
    cases h1 : P.funcs[f]? with
    | none => rw [h1] at hfn; simp at hfn
    | some fn => rw [h1] at hfn; simp at hfn; exact ⟨fn, rfl, hfn.1, by simpa using hfn.2⟩
  obtain rfl : fn1 = fn := by rw [hf] at e1; exact (Option.some.inj e1).symm
  have hres : (resolve a.eval (rangeCall g l) 0).run P w1 = .ok { target := .fn (.func f) cs.toArray, args := #[.func (.yield l) #[] #[]] } w1 := by
    have hk : a.eval (.const (.func (.yield l) #[] #[])) = .func (.yield l) #[] #[] := rfl
    simp [resolve, rangeCall, hev, Deferred.ofValue, hk]
  have hinv : (invoke (.fn (.func f) cs.toArray) #[.func (.yield l) #[] #[]]).run P w1 = .ok (.enter f (.func (.yield l) #[] #[] :: cs).toArray) w1 := by
    have h4 : ¬ fn1.body = none := fun e => by rw [e] at e3; simp at e3
    simp [invoke, callFunc, e1, e2, h4]
  refine ⟨l, _, _, _, _, f, _, _, run_enterLoop_outer fn0 a.tmps ps asg body, hres, fun _ _ => trivial, hinv, fun q => absurd q (by simp [FW, Fence.wide]), ?_⟩
  -- the iterator's first state
  have hfr0 : ρ.f (8 * n) = none := hm.fresh (n := n) (fun i hi => by have := hn i hi; omega) (by omega)
  have hfr1 : ρ.f (8 * n + 1) = none := hm.fresh (n := n) (fun i hi => by have := hn i hi; omega) (by omega)
  have hn0 := hm.n0 (n := n) (fun i hi => by have := hn i hi; omega)
  have hmA := (hm.allocs (.deferred (some []))).add (p' := fun i => p i ∨ i / 8 = n) (w' := wD) hfr1 (by omega) (fun i h => .inl h) (.inr (by omega)) (x := .bool true) (o := .frm a.tmps S.t) rfl (.inl rfl) (fun ρ' he d v hv => by
    rw [find'_eq] at hv
    have := hm.tmps d
    unfold AS.get at this
    rw [hv] at this
    exact Rep.ext he _ _ this) (fun g hg => by cases hg)
  have hfr2 : (ρ.with (8 * n + 1) (.bool true)).f (8 * n) = none := by
    show (if _ then _ else _) = none
    rw [if_neg (by omega)]; exact hfr0
  have hmB := hmA.add (p' := fun i => p i ∨ i / 8 = n) (w' := w1) hfr2 (by omega) (fun i h => h) (.inr (by omega)) (x := .func (.yield l) #[] #[]) (o := .loop a.tmps lc .ready) rfl (.inr ⟨_, rfl⟩)
    (fun ρ' he => ⟨l, w.heap.size, .ready, none, rfl, by have := World.alloc_heap_new wD (.loop (recOf a.tmps lc .ready none w.heap.size)); rw [hsD] at this; exact this, rfl, rfl, rfl⟩) (fun g hg => by simp [oblk] at hg; omega)
  have hext : ExtE ρ ((ρ.with (8 * n + 1) (.bool true)).with (8 * n) (.func (.yield l) #[] #[])) := (ext_with hfr1).trans (ext_with hfr2)
  have hself : ((ρ.with (8 * n + 1) (.bool true)).with (8 * n) (.func (.yield l) #[] #[])).f (8 * n) = some (.func (.yield l) #[] #[]) := with_self ..
  generalize ((ρ.with (8 * n + 1) (.bool true)).with (8 * n) (.func (.yield l) #[] #[])) = ρ1 at hmB hext hself
  have hkeepD : ∀ D ob, w.heap[D]? = some ob → w1.heap[D]? = some ob := fun D ob hD => by
    have hlt := (Array.getElem?_eq_some_iff.1 hD).1
    rw [Below.heap_alloc wD _ D (by omega), Below.heap_alloc w _ D hlt]
    exact hD
  have hnewD : w1.heap[w.heap.size]? = some (.deferred (some [])) := by
    rw [Below.heap_alloc wD _ w.heap.size (by omega)]
    exact World.alloc_heap_new w _
  have hsz := hm.frame.size
  let cI : Ctx := ⟨fn1.ntmps, c.M, c.w0, c.ρ0, fun g => c.D g ∨ g ∈ Ds ∨ g = w.heap.size⟩
  have hra1 : RepL ρ1 (.hdr (8 * n) :: caps) (.func (.yield l) #[] #[] :: cs) := by
    simp only [RepL, Rep]
    exact ⟨hself, RepL.ext hext _ _ hcs⟩
  have hlen := hra1.length
  have hmI : Mod cI (fun i => p i ∨ i / 8 = n) ρ1 ⟨slots (.hdr (8 * n) :: caps), (8 * n, some (.loop a.tmps lc .ready)) :: (8 * n + 1, some (.frm a.tmps S.t)) :: S.s, none⟩ ((Value.func (.yield l) #[] #[] :: cs).toArray ++ Array.replicate (fn1.ntmps - (Value.func (.yield l) #[] #[] :: cs).toArray.size) undef) w1 := by
    refine hmB.refit fn1.ntmps (fun g => c.D g ∨ g ∈ Ds ∨ g = w.heap.size) (slots (.hdr (8 * n) :: caps)) none _ ?_ (fun d => ?_) (fun g hg => ?_)
    · simp at hlen
      simp
      omega
    · rw [find_slots]
      cases ha : (AV.hdr (8 * n) :: caps)[d]? with
      | none => simp [Rep]
      | some v =>
        obtain ⟨u, h1, h2⟩ := RepL.get d hra1 ha
        simp only [Option.getD_some]
        have hdl : d < (Value.func (.yield l) #[] #[] :: cs).length := (List.getElem?_eq_some_iff.1 h1).1
        have e1 : ((Value.func (.yield l) #[] #[] :: cs).toArray ++ Array.replicate (fn1.ntmps - (Value.func (.yield l) #[] #[] :: cs).toArray.size) undef).getD d undef = u := by
          rw [Array.getD_eq_getD_getElem?, Array.getElem?_append_left (by simpa using hdl)]
          have : (Value.func (.yield l) #[] #[] :: cs).toArray[d]? = some u := by rw [List.getElem?_toArray]; exact h1
          rw [this]
          rfl
        rw [e1]
        exact h2
    · rcases hg with hg | hg | hg
      · exact ⟨(hm.dfr g hg).1, hkeepD _ _ (hm.dfr g hg).2⟩
      · exact ⟨(f3 g hg).1, hkeepD _ _ (f3 g hg).2.2⟩
      · subst hg; exact ⟨hsz, hnewD⟩
  have hfit : LoopFit a.tmps lc := ⟨by rw [hm.size]; exact hda, by rw [hm.size]; exact hdb, fun t ht => by rw [hm.size]; exact hps t (by simpa using ht), hra, hrb⟩
  refine callsIn_of_wp_marks hf hb trivial (wpIn_mono (awp_sound (rd := none) (m0 := m0 - 1) (c := cI) code (rangeQ n a.tmps lc Q) (n + 1) _ _ ρ1 _ w1 (.inl rfl) hd (h a.tmps lc hfit rfl rfl rfl) hmI (fun i hi => by rcases hi with hi | hi <;> first | (have := hn i hi; omega) | omega) (.nil rfl)) ?_)
  -- its end
  have fin0 : ∀ (n' : Nat) (S' : AS) (p' : Nat → Prop) (ρ' : Env) (w' : World) (tm' : Array Value), rangeEnd n a.tmps lc Q n' S' → Mod cI p' ρ' S' tm' w' → (∀ i, p' i → i / 8 < n') →
      ∃ v, (results fn1 tm').run P w' = .ok v w' ∧ rangePost (FW none) m0 P l (Lift c Q) { a with defers := [markD w.heap.size] ++ a.defers } (.returned v) w' := by
    intro n' S' p' ρ' w' tm' hr hm' hn'
    refine ⟨.tuple #[], by unfold results; rw [hrs]; simp, ?_⟩
    unfold rangeEnd at hr
    split at hr
    case h_2 => exact hr.elim
    next tm1 lc1 m tm2 t e5 e6 =>
    obtain ⟨⟨rfl, rfl, rfl⟩, hr⟩ := hr
    obtain ⟨-, D1, st1, pe1, hh1, hmode, hturn⟩ := hm'.turnL e5
    obtain ⟨xF, -, hF⟩ := hm'.objs _ _ e6
    have hm2 := (hturn .exhausted pe1 none (fun o ho => by cases ho)).drop1 (8 * n + 1)
    have hm3 := hm2.refit c.N c.D t none a.tmps hm.size (frm_rep hF) (fun g hg => hm2.dfr g (.inl hg))
    have hdef : DefOk c { a with defers := [markD w.heap.size] ++ a.defers } (w'.putObj lc.blk (.loop (recOf a.tmps lc .exhausted pe1 D1))) := by
      refine ⟨w.heap.size :: Ds, by simp [f1], List.nodup_cons.2 ⟨fun hc => ?_, f2⟩, fun D' hD' => ?_⟩
      · have := (Array.getElem?_eq_some_iff.1 (f3 _ hc).2.2).1
        omega
      · have h1 := hm2.dfr D'
        rcases List.mem_cons.1 hD' with rfl | hD'
        · refine ⟨hsz, fun hc => ?_, (h1 (.inr (.inr rfl))).2⟩
          have := (Array.getElem?_eq_some_iff.1 (hm.dfr _ hc).2).1
          omega
        · exact ⟨(f3 D' hD').1, (f3 D' hD').2.1, (h1 (.inr (.inl hD'))).2⟩
    have hnb : st1 ≠ .busy := by
      unfold kEnd at hr
      split at hr
      · rw [hmode.1]; decide
      · rw [hmode.1]; decide
      · rw [hmode.1]; decide
      · exact hr.elim
    refine ⟨pe1, _, run_endLoop hh1 hnb, ?_⟩
    have lift : ∀ e, Q e n' ⟨t, (8 * n + 1, none) :: (8 * n, none) :: S'.s, none⟩ → Lift c Q e { a with defers := [markD w.heap.size] ++ a.defers } (w'.putObj lc.blk (.loop (recOf a.tmps lc .exhausted pe1 D1))) := fun e he => ⟨hdef, n', _, p', ρ', he, hm3, hn'⟩
    unfold kEnd at hr
    split at hr
    · obtain ⟨-, rfl⟩ := hmode; exact lift _ hr
    · obtain ⟨-, rfl⟩ := hmode; exact wpIn_ret (lift _ hr)
    · obtain ⟨-, rfl⟩ := hmode; exact wpIn_exit (lift _ hr)
    · exact hr.elim
  have fin : ∀ (Dj : List Nat) (n' : Nat) (S' : AS) (p' : Nat → Prop) (ρ' : Env) (a' : Act) (w' : World), rangeEnd n a.tmps lc Q n' S' → Mod cI p' ρ' S' a'.tmps w' → (∀ i, p' i → i / 8 < n') → Dj.Nodup → (∀ D ∈ Dj, cI.w0.heap.size ≤ D ∧ ¬ cI.D D ∧ w'.heap[D]? = some (.deferred (some []))) →
      LeavesInM (FW none) (m0 - 1) P fn1 a'.tmps (rangePost (FW none) m0 P l (Lift c Q) { a with defers := [markD w.heap.size] ++ a.defers }) (Dj.map markD) .returning w' := by
    intro Dj
    induction Dj with
    | nil => intro n' S' p' ρ' a' w' hr' hm' hn' _ _; exact fin0 n' S' p' ρ' w' a'.tmps hr' hm' hn'
    | cons D Dj ih =>
      intro n' S' p' ρ' a' w' hr' hm' hn' hnd hD
      obtain ⟨hb1, hb2, hD1⟩ := hD D (List.mem_cons_self ..)
      rw [List.nodup_cons] at hnd
      refine ⟨by simp, .inl ⟨D, _, rfl, run_takeDeferred hD1, ih n' S' p' ρ' a' _ hr' (hm'.putObj _ hD1 rfl hb1 hb2) hn' hnd.2 fun D2 h2 => ?_⟩⟩
      obtain ⟨k1, k3, k2⟩ := hD D2 (List.mem_cons_of_mem _ h2)
      have hne : D2 ≠ D := fun e => by subst e; exact hnd.1 h2
      exact ⟨k1, k3, (World.putObj_heap_other hne).trans k2⟩
  rintro e a' w' ⟨⟨Dj, e1, e2, e3⟩, n', S', p', ρ', h2, h3, h4⟩
  cases e with
  | normal => show LeavesInM _ _ _ _ _ _ a'.defers _ _; rw [e1]; exact fin Dj n' S' p' ρ' a' w' h2 h3 h4 e2 e3
  | ret => show LeavesInM _ _ _ _ _ _ a'.defers _ _; rw [e1]; exact fin Dj n' S' p' ρ' a' w' h2 h3 h4 e2 e3
  | _ => exact h2.elim

section
variable {P : Program} {dst : Option Nat} {n n' : Nat} {CN : Nat → AS → Prop} {S : AS} {args : List AV} {id : Nat} {tmI tm : Array Value} {lc : LoopCode} {Q : Exit → Nat → AS → Prop}
theorem ayield (hlg : S.lg = none) (h : kYield P dst n CN S args id) : ACall P dst n CN S args (.hdr id) := ⟨hlg, yield_ok h⟩
@[go_sem] theorem asgQ_normal : asgQ P n id tmI tm lc dst CN .normal = yBody P n id tmI tm lc dst CN := rfl
@[go_sem] theorem yieldQ_normal : yieldQ n id tmI tm lc dst CN .normal = yEnd n id tmI tm lc dst CN true .ready := rfl
@[go_sem] theorem yieldQ_ret : yieldQ n id tmI tm lc dst CN .ret = yEnd n id tmI tm lc dst CN false (.done .ret) := rfl
@[go_sem] theorem yieldQ_exit (i : Nat) : yieldQ n id tmI tm lc dst CN (.exit i) = yEnd n id tmI tm lc dst CN false (.done (.exit i)) := rfl
@[go_sem] theorem rangeQ_normal : rangeQ n tm lc Q .normal = rangeEnd n tm lc Q := rfl
@[go_sem] theorem rangeQ_ret : rangeQ n tm lc Q .ret = rangeEnd n tm lc Q := rfl
attribute [go_sem] kYield yEnd yBody rangeEnd kEnd zipT List.length_cons List.length_nil
end
theorem cut_end {X : Type} {St : X → AS} {inv : X → Prop} {n0 n : Nat} {S : AS} (fr : List Nat) (x' : X) {L : List (Nat × Nat)} (_ : loopL S (St x') = L) (e : EntF L n0 fr S (St x')) (h2 : inv x') : CutK St inv n0 n S := ⟨x', L, fr, h2, e⟩
theorem swp_cutW {P : Program} {x y : Code} {Q : Exit → Nat → AS → Prop} {n : Nat} {S : AS} {X : Type} (St : X → AS) (inv : X → Prop) (n0 : Nat) (h1 : AWP P x (seqK (W (CutK St inv n0)) Q) n S) (h2 : ∀ x, inv x → SWP P y Q n0 (St x)) : SWP P (.seq x y) Q n S := swp_cut St inv n0 (swp_awp h1) h2
theorem swp_cutS {P : Program} {x y : Code} {Q : Exit → Nat → AS → Prop} {n : Nat} {S : AS} {X : Type} (St : X → AS) (inv : X → Prop) (n0 : Nat) (h1 : SWP P x (seqK (W (CutK St inv n0)) Q) n S) (h2 : ∀ x, inv x → SWP P y Q n0 (St x)) : SWP P (.seq x y) Q n S := swp_cut St inv n0 h1 h2
end Go.Proofs.YtblmebjhhanoaaaGreat
/- ENGINE (second) 14: texts that are parted, within loops too; over any program. -/
/- G -/
set_option linter.unusedSimpArgs false
set_option linter.unusedVariables false
namespace Go.Proofs.YtblmebjhhanoaaaGreat
open Go.RowKit

/-- how many rounds, and what is kept. -/
structure KY (α : Type) where
  k : Nat
  o : α
section
variable {P : Program} {Q : Exit → Nat → AS → Prop} {n : Nat} {S : AS}
theorem swp_seqS {x y : Code} (h1 : SWP P x (seqK (W (SWP P (W y) Q)) Q) n S) : SWP P (.seq x y) Q n S := by
  refine .mk ?_
  intro rd m0 c p ρ a w hrg hd hm hn ha
  simp only [dstB, Bool.and_eq_true] at hd
  refine wpIn_seq (wpIn_mono (h1.h rd m0 c p ρ a w (hrg.imp_right fun e => (Bool.and_eq_true_iff.1 e).1) hd.1 hm hn ha) ?_)
  rintro e a' w' ⟨k1, n', S', p', ρ', k2, k3, k4⟩
  cases e with
  | normal =>
    have k2 : SWP P y Q n' S' := k2
    exact k2.h rd m0 c p' ρ' a' w' (hrg.imp_right fun e => (Bool.and_eq_true_iff.1 e).2) hd.2 k3 k4 k1
  | _ => exact ⟨k1, n', S', p', ρ', k2, k3, k4⟩
theorem swp_seqW {x y : Code} (h1 : AWP P x (seqK (W (SWP P (W y) Q)) Q) n S) : SWP P (.seq x y) Q n S := swp_seqS (swp_awp h1)
theorem swp_lastW {y : Code} (h : AWP P y Q n S) : SWP P (W y) Q n S := swp_awp h
theorem swp_skip (h : Q .normal n S) : SWP P .skip Q n S := swp_awp h
theorem swp_condW {c : Operand} {x y : Code} (h : kCond (W (SWP P (W x) Q n)) (W (SWP P (W y) Q n)) S (S.val c)) : SWP P (.cond c x y) Q n S := by
  refine .mk ?_
  intro rd m0 cx p ρ a w hrg hd hm hn ha
  simp only [dstB, Bool.and_eq_true] at hd
  generalize hv : S.val c = v at h
  unfold kCond at h
  split at h
  · next b =>
    refine wpIn_cond_split (hm.raw hv) (fun e => ?_) (fun e => ?_)
    · have h1 : SWP P x Q n S := h.1 e
      exact h1.h rd m0 cx p ρ a w (hrg.imp_right fun e => (Bool.and_eq_true_iff.1 e).1) hd.1 hm hn ha
    · have h1 : SWP P y Q n S := h.2 e
      exact h1.h rd m0 cx p ρ a w (hrg.imp_right fun e => (Bool.and_eq_true_iff.1 e).2) hd.2 hm hn ha
  · exact h.elim
theorem swp_loopI {b : Code} (I : Nat → AS → Prop) (n0 : Nat) (h0 : ∃ m S' L fr, I m S' ∧ EntF L n0 fr S S') (hround : ∀ m S', I m S' → SWP P b (loopK I n0 m Q) n0 S') : SWP P (.loop b) Q n S := by
  refine .mk ?_
  intro rd m0' c p ρ a w hrg hd hm hn ha
  obtain ⟨m0, S0, L0, fr0, hI0, hE0⟩ := h0
  let J : Nat → Act → World → Prop := fun m a w => DefOk c a w ∧ ∃ S' ρ', I m S' ∧ Mod c (fun i => i / 8 < n0) ρ' S' a.tmps w
  have hJ0 : J m0 a w := by
    obtain ⟨ρ', h1⟩ := hE0.mod hm
    exact ⟨ha, S0, ρ', hI0, h1⟩
  classical
  let μ : Act → World → Nat := fun a w => if h : ∃ m, J m a w then Classical.choose (least_of h) else 0
  have hμ : ∀ m a w, J m a w → μ a w ≤ m ∧ J (μ a w) a w := fun m a w hj => by
    have he : ∃ m, J m a w := ⟨m, hj⟩
    simp only [μ, dif_pos he]
    have hs := Classical.choose_spec (least_of he)
    exact ⟨hs.2 m hj, hs.1⟩
  refine wpIn_loop (fun a w => ∃ m, J m a w) μ ⟨m0, hJ0⟩ ?_
  rintro a' w' ⟨m, hj⟩
  obtain ⟨-, hj1, S', ρ', hI, hm'⟩ := hμ m a' w' hj
  refine wpIn_mono ((hround _ S' hI).h rd m0' c _ ρ' a' w' hrg hd hm' (fun i hi => hi) hj1) ?_
  rintro e a2 w2 ⟨h1, n2, S2, p2, ρ2, h2, h3, h4⟩
  cases e with
  | normal =>
    obtain ⟨m', S3, L, fr3, hlt, hI3, hE3⟩ := h2
    obtain ⟨ρ3, h5⟩ := hE3.mod h3
    have hj3 : J m' a2 w2 := ⟨h1, S3, ρ3, hI3, h5⟩
    exact ⟨⟨m', hj3⟩, Nat.lt_of_le_of_lt (hμ m' a2 w2 hj3).1 hlt⟩
  | _ => exact ⟨h1, n2, S2, p2, ρ2, h2, h3, h4⟩
theorem swp_loop2 {b : Code} {X : Type} (fr : List Nat) (St : X → AS) (inv : X → Prop) (μ : X → Nat) (n0 : Nat) (x0 : X) {L0 : List (Nat × Nat)} (_ : loopL S (St x0) = L0) (e0 : EntF L0 n0 fr S (St x0)) (h0 : inv x0) (hr : ∀ x, inv x → SWP P b (loopX St inv μ n0 x Q) n0 (St x)) : SWP P (.loop b) Q n S := by
  refine swp_loopI (fun m S' => ∃ x, inv x ∧ m = μ x ∧ S' = St x) n0 ⟨μ x0, St x0, L0, fr, ⟨x0, h0, rfl, rfl⟩, e0⟩ ?_
  rintro m S' ⟨x, hx, rfl, rfl⟩
  have h := hr x hx
  have e : loopX St inv μ n0 x Q = loopK (fun m S' => ∃ x, inv x ∧ m = μ x ∧ S' = St x) n0 (μ x) Q := by
    funext e n S
    cases e <;> try rfl
    refine propext ⟨fun ⟨x', L, fr, h1, h2, h3⟩ => ⟨μ x', St x', L, fr, h2, ⟨x', h1, rfl, rfl⟩, h3⟩, ?_⟩
    rintro ⟨m', S', L, fr, h1, ⟨x', h2, rfl, rfl⟩, h3⟩
    exact ⟨x', L, fr, h2, h1, h3⟩
  rw [e] at h
  exact h
/-! operations one by one, each shown apart -/
structure SLi (P : Program) (A : Array Oper) (Q : Exit → Nat → AS → Prop) (ops : List Oper) (n : Nat) (S : AS) : Prop where
  h : ∀ (rd : Option Nat) (m0 : Nat) (c : Ctx) (p : Nat → Prop) (ρ : Env) (a : Act) (w : World), (∀ o ∈ ops, ∀ d, o.dst = some d → d < c.N) → Mod c p ρ S a.tmps w → (∀ i, p i → i / 8 < n) → DefOk c a w → wpListIn (FW rd) m0 P A (Lift c Q) ops a w
theorem sli_nil {A : Array Oper} (h : Q .normal n S) : SLi P A Q [] n S := ⟨fun rd m0 c p ρ a w _ hm hn ha => ⟨ha, n, S, p, ρ, h, hm, hn⟩⟩
theorem sli_cons {A : Array Oper} {o : Oper} {rest : List Oper} {E : Eff} (g : o.guard = none) (h : DoesAt P o S n E) (hr : SLi P A Q rest (n + 1) (fin o.dst E S)) : SLi P A Q (o :: rest) n S := by
  refine ⟨fun rd m0 c p ρ a w hd hm hn ha => ?_⟩
  have hdo : ∀ d, o.dst = some d → d < c.N := hd o List.mem_cons_self
  show if Region.wanted o (yielded A a.tmps) then _ else _
  rw [if_pos (by simp [Region.wanted, g])]
  refine h rd m0 (c.anew S ρ w) p ρ a w hm.rebase (fun i hi e => by have := hn i hi; omega) _ _ fun v ρ' w' hm3 hv => ?_
  have hm2 := hm.back hm3
  exact hr.h rd m0 c _ ρ' _ w' (fun o' ho' => hd o' (List.mem_cons_of_mem _ ho')) ((hm2.put o.dst hv hdo).note _ _) (fun i hi => by rcases hi with hi | hi <;> first | (have := hn i hi; omega) | omega) ((ha.keep hm hm3).put o.dst v)
theorem swp_region {id : Nat} {ops : Array Oper} (h : SLi P ops Q ops.toList n S) : SWP P (.region id ops false) Q n S := by
  refine .mk fun rd m0 c p ρ a w hrg hd hm hn ha => ?_
  refine wpIn_region_list (h.h rd m0 c p ρ a w (fun o ho d e => ?_) hm hn ha)
  have := List.all_eq_true.1 hd o ho
  rw [e] at this
  simpa using this
theorem does_addw {o : Oper} {x y : Operand} {t u : TypeId} {k l : Int} (ho : o.op = .binOp .add t x y u) (hx : S.val x = .raw (.int .i64 k)) (hy : S.val y = .raw (.int .i64 l)) : DoesAt P o S n ⟨.raw (.int .i64 (IntKind.i64.wrap (k + l))), [], []⟩ :=
  does_pure rfl fun c p ρ a w hm => ⟨_, by
    unfold execOp; rw [ho]
    refine run_v (v := .int .i64 (IntKind.i64.wrap (k + l))) ?_
    simp [hm.raw hx, hm.raw hy, eqGuard, binOp, Op.intArith], by simp [Rep]⟩
end
end Go.Proofs.YtblmebjhhanoaaaGreat
/- THE ROW's STEP (second engine): what a law's arguments are. -/
/- G -/
set_option linter.unusedSimpArgs false
set_option linter.unusedVariables false
namespace Go.Proofs.YtblmebjhhanoaaaGreat
open Go.ChangeShapes Go.WideShapes Go.ChangeAt Go.RowKit Go.Deep

theorem slice_cap {H : Type} {enc : TypeId × Value → H} {P : Program} {w : World} {t e : TypeId} {A : Option Addr} {n c : Nat} {d : DataW H} {p : List MemPlace} (ht : P.underlying t = some (.slice e)) (h : DataW.Trod enc P w 0 (fun _ => true) true t (.slice A n c) d p) : n ≤ c := by
  obtain ⟨fuel, hf⟩ := h
  rcases open_slice ht hf with ⟨hcs, -⟩ | ⟨a, len, cap, m, n', D, Pl, hcs, -, hl, -⟩
  · simp [Value.cells] at hcs
    omega
  · simp [Value.cells] at hcs
    omega
theorem rep_raws {ρ : Env} (l : List Value) : Rep ρ (.agg (l.map .raw)) (.agg l.toArray) := by
  simp only [Rep]
  exact ⟨l, rfl, RepL.raws l⟩
theorem ints_rowsG {w : World} {A : Option Addr} {xs : List Int} (h : IntsAt w A xs) : RowAt w A 1 (fun x : Int => [Value.int .i64 x]) xs := fun k hk => by
  obtain ⟨b, off, e, hb, hc⟩ := h k hk
  refine ⟨b, off, e, hb, fun i hi => ?_⟩
  obtain rfl : i = 0 := by omega
  simpa using hc
end Go.Proofs.YtblmebjhhanoaaaGreat
/- THE ROW's STEP (second engine): arguments whose structs hold structs and slices. -/
/- G -/
set_option linter.unusedSimpArgs false
set_option linter.unusedVariables false
namespace Go.Proofs.YtblmebjhhanoaaaGreat
open Go.ChangeShapes Go.WideShapes Go.ChangeAt Go.RowKit Go.Deep

/-- cells that never turn, read as pure values. -/
def CR (R : Frz) (ps : List PV) (vs : List Value) : Prop := PRepL R ps vs ∧ ∀ v ∈ vs, v.oneCell' = true
theorem PRepL.app {R : Frz} : ∀ {p q : List PV} {u v : List Value}, PRepL R p u → PRepL R q v → PRepL R (p ++ q) (u ++ v)
  | [], q, [], v, _, h => h
  | [], _, _ :: _, _, h, _ => h.elim
  | _ :: _, _, [], _, h, _ => h.elim
  | _ :: _, _, _ :: _, _, h, k => ⟨h.1, PRepL.app h.2 k⟩
theorem cr_app {R : Frz} {p q : List PV} {cs : List Value} {o n m : Nat} (h : CR R p ((cs.drop o).take n)) (k : CR R q ((cs.drop (o + n)).take m)) : CR R (p ++ q) ((cs.drop o).take (n + m)) := by
  have e : (cs.drop o).take (n + m) = (cs.drop o).take n ++ (cs.drop (o + n)).take m := by
    rw [List.take_add, List.drop_drop]
  rw [e]
  refine ⟨h.1.app k.1, fun v hv => ?_⟩
  rcases List.mem_append.1 hv with hv | hv
  · exact h.2 v hv
  · exact k.2 v hv
theorem cr_all {R : Frz} {p : List PV} {cs : List Value} {n : Nat} (hn : cs.length = n) (h : CR R p ((cs.drop 0).take n)) : CR R p cs := by
  rwa [List.drop_zero, List.take_of_length_le (by omega)] at h
/-- what is read at a type, as a value of one's own. -/
structure OpenT (P : Program) (t : TypeId) {α : Type} (c : α → List PV) (inn : α → Prop) : Prop where
  open_ : ∀ {H : Type} {enc : TypeId × Value → H} {w : World} {fuel : Nat} {cs : List Value} {y : DataW H × List MemPlace}, DataW.trod enc P w 0 (fun _ => true) true fuel t cs = some y → ∃ x, CR (frzOf w) (c x) cs ∧ inn x
section
variable {P : Program} {t e : TypeId}
theorem open_i (ht : P.underlying t = some (.int .i64)) : OpenT P t (fun x : Int => [.raw (.int .i64 x)]) (fun x => -9223372036854775808 ≤ x ∧ x ≤ 9223372036854775807) := ⟨fun h => by
  obtain ⟨z, rfl, -, hw⟩ := DataW.trod_int ht h
  exact ⟨z, ⟨⟨by simp [PRep], trivial⟩, fun v hv => by rw [List.mem_singleton.1 hv]; rfl⟩, i64_of_wf hw⟩⟩
theorem open_b (ht : P.underlying t = some .bool) : OpenT P t (fun x : Bool => [.raw (.bool x)]) (fun _ => True) := ⟨fun h => by
  obtain ⟨z, rfl, -⟩ := DataW.trod_bool ht h
  exact ⟨z, ⟨⟨by simp [PRep], trivial⟩, fun v hv => by rw [List.mem_singleton.1 hv]; rfl⟩, trivial⟩⟩
theorem open_sl {α : Type} {c : α → List PV} {inn : α → Prop} {s : Nat} (ht : P.underlying t = some (.slice e)) (hC : P.cellsOf e = s) (hs : 0 < s) (hc : ∀ x, (c x).length = s) (hT : OpenT P e c inn) :
    OpenT P t (fun xs : List α => [.sl s (xs.map c)]) (fun xs => xs.length ≤ 9223372036854775807 ∧ ∀ x ∈ xs, inn x) := ⟨fun {H enc w fuel cs y} h => by
  rcases open_slice ht h with ⟨rfl, -⟩ | ⟨a, len, cap, m, n, D, Pl, rfl, -, hl, hm, hmm, -, hi⟩
  · refine ⟨[], ⟨⟨?_, trivial⟩, fun v hv => by rw [List.mem_singleton.1 hv]; rfl⟩, by simp, by simp⟩
    simp only [PRep, List.map_nil, List.length_nil]
    exact ⟨none, 0, rfl, Nat.le_refl _, by simp [PRows]⟩
  · simp only [if_true] at hmm
    subst hmm
    have hsp : 0 < len → a.spot = none := fun h0 => by
      obtain ⟨cs', hc', -⟩ := hi 0 (by omega)
      rw [hC] at hc'
      obtain ⟨_, hcl, hat⟩ := World.cells?_some hc'
      have := hat 0 hs
      rw [List.getElem?_eq_getElem (by omega)] at this
      simpa [Addr.add] using World.cell?_spot this
    obtain ⟨xs, hxl, hq⟩ := list_of (Q := fun i (x : α) => inn x ∧ ∃ b off, a = ⟨b, off, none⟩ ∧ PCells (frzOf w) b (off + i * s) (c x)) (n := len) (fun i hin => by
      obtain ⟨cs', hc', ht'⟩ := hi i (by omega)
      rw [hC] at hc'
      obtain ⟨x, ⟨h1, h2⟩, h3⟩ := hT.open_ ht'
      obtain ⟨_, hcl, hat⟩ := World.cells?_some hc'
      obtain ⟨b, off, spot⟩ := a
      obtain rfl : spot = none := hsp (by omega)
      refine ⟨x, h3, b, off, rfl, PCells.mk_ fun j p hj => ?_⟩
      have hjs : j < s := by
        rw [← hc x]
        exact (List.getElem?_eq_some_iff.1 hj).1
      obtain ⟨v, g1, g2⟩ := h1.get hj
      have h5 := hat j hjs
      rw [g1] at h5
      refine ⟨v, rcell_of ?_, h2 v (List.mem_of_getElem? g1), g2⟩
      rw [← h5, Go.WideShapes.add_plain, Go.WideShapes.add_plain])
    refine ⟨xs, ⟨⟨?_, trivial⟩, fun v hv => by rw [List.mem_singleton.1 hv]; rfl⟩, ⟨by unfold maxLen at hm; omega, fun x hx => ?_⟩⟩
    · simp only [PRep, List.length_map]
      refine ⟨some a, m, by rw [hxl], by omega, PRows.mk_ fun k r hk => ?_⟩
      rw [List.getElem?_map, Option.map_eq_some_iff] at hk
      obtain ⟨x, hx, rfl⟩ := hk
      obtain ⟨hkl, rfl⟩ := List.getElem?_eq_some_iff.1 hx
      obtain ⟨-, b, off, rfl, h6⟩ := hq k hkl
      exact ⟨hc _, b, off, rfl, by rw [Nat.zero_add]; exact h6⟩
    · obtain ⟨i, hi2, rfl⟩ := List.getElem_of_mem hx
      exact (hq i hi2).1⟩
theorem fld {α : Type} {c : α → List PV} {inn : α → Prop} {H : Type} {enc : TypeId × Value → H} {w : World} {n : Nat} {cs : List Value} {fs : Array Field} {ys : List (DataW H × List MemPlace)}
    (hg : ∀ (i : Nat) (f : Field), fs[i]? = some f → DataW.trod enc P w 0 (fun _ => true) true n f.type ((cs.drop f.offset).take (P.cellsOf f.type)) = ys[i]?) (hyl : ys.length = fs.size) (o s : Nat) (hT : OpenT P t c inn) (j : Nat) {f : Field} (hf : fs[j]? = some f) (ht : f.type = t) (ho : f.offset = o) (hC : P.cellsOf t = s) :
    ∃ x, CR (frzOf w) (c x) ((cs.drop o).take s) ∧ inn x := by
  have h := hg j f hf
  rw [ht, ho, hC, List.getElem?_eq_getElem (by rw [hyl]; exact (Array.getElem?_eq_some_iff.1 hf).1)] at h
  exact hT.open_ h
theorem arg_slice {α : Type} {c : α → List PV} {inn : List α → Prop} {s : Nat} {H : Type} {enc : TypeId × Value → H} {w : World} {v : Value} {d : DataW H} {p : List MemPlace} {r : Reach} {b0 : Nat} (ht : P.underlying t = some (.slice e)) (hv : Value.okWide P w r b0 t v) (h : DataW.Trod enc P w 0 (fun _ => true) true t v d p)
    (hT : OpenT P t (fun xs : List α => [.sl s (xs.map c)]) inn) : ∃ xs : List α, Rep (lawEnv w) (.sl s (xs.map c)) v ∧ inn xs := by
  obtain ⟨a, n, cp, rfl⟩ := okWide_slice ht hv
  obtain ⟨fuel, hf⟩ := h
  obtain ⟨xs, ⟨h1, -⟩, h2⟩ := hT.open_ hf
  exact ⟨xs, h1.1, h2⟩
end
end Go.Proofs.YtblmebjhhanoaaaGreat
