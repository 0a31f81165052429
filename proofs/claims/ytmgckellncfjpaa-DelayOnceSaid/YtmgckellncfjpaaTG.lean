/- THE TYPES' ROWS (printed by a program of mine). -/
import Derived.Test.YtmgckellncfjpaaG12
set_option linter.unusedSimpArgs false
set_option linter.unusedVariables false
namespace Go.Proofs.Ytmgckellncfjpaa
open Go.RowKit
@[go_sem] theorem tI0 : tyI Try.prog 0 = some ⟨1, 0, false, [.tuple { toList := [] }], 0, 0, []⟩ := by kernel_rfl
@[go_sem] theorem tI1 : tyI Try.prog 1 = some ⟨1, 8, false, [.nilFunc], 0, 0, []⟩ := by kernel_rfl
@[go_sem] theorem tI2 : tyI Try.prog 2 = some ⟨1, 8, false, [.int .i64 0], 0, 0, []⟩ := by kernel_rfl
@[go_sem] theorem tI3 : tyI Try.prog 3 = some ⟨1, 8, false, [.int .i64 0], 0, 0, []⟩ := by kernel_rfl
@[go_sem] theorem tI4 : tyI Try.prog 4 = some ⟨1, 1, false, [.bool false], 0, 0, []⟩ := by kernel_rfl
@[go_sem] theorem tI5 : tyI Try.prog 5 = some ⟨1, 1, false, [.int .u8 0], 0, 0, []⟩ := by kernel_rfl
@[go_sem] theorem tI6 : tyI Try.prog 6 = some ⟨1, 1, false, [.int .u8 0], 0, 0, []⟩ := by kernel_rfl
@[go_sem] theorem tI7 : tyI Try.prog 7 = some ⟨4, 24, true, [.int .i64 0, .int .i64 0, .bool false, .int .u8 0], 3, 0, [(0, 1), (1, 1), (2, 1), (3, 1)]⟩ := by kernel_rfl
@[go_sem] theorem tI8 : tyI Try.prog 8 = some ⟨4, 24, true, [.int .i64 0, .int .i64 0, .bool false, .int .u8 0], 3, 0, [(0, 1), (1, 1), (2, 1), (3, 1)]⟩ := by kernel_rfl
@[go_sem] theorem tI9 : tyI Try.prog 9 = some ⟨1, 16, false, [.string { data := { toList := [] } }], 0, 0, []⟩ := by kernel_rfl
@[go_sem] theorem tI10 : tyI Try.prog 10 = some ⟨1, 16, false, [.string { data := { toList := [] } }], 0, 0, []⟩ := by kernel_rfl
@[go_sem] theorem tI11 : tyI Try.prog 11 = some ⟨1, 16, false, [.string { data := { toList := [] } }], 0, 0, []⟩ := by kernel_rfl
@[go_sem] theorem tI12 : tyI Try.prog 12 = some ⟨1, 8, false, [.int .u64 0], 0, 0, []⟩ := by kernel_rfl
@[go_sem] theorem tI13 : tyI Try.prog 13 = some ⟨2, 24, true, [.string { data := { toList := [] } }, .int .u64 0], 3, 0, [(0, 1), (1, 1)]⟩ := by kernel_rfl
@[go_sem] theorem tI14 : tyI Try.prog 14 = some ⟨2, 24, true, [.string { data := { toList := [] } }, .int .u64 0], 3, 0, [(0, 1), (1, 1)]⟩ := by kernel_rfl
@[go_sem] theorem tI15 : tyI Try.prog 15 = some ⟨1, 8, false, [.pointer none], 0, 174, []⟩ := by kernel_rfl
@[go_sem] theorem tI16 : tyI Try.prog 16 = some ⟨1, 8, false, [.pointer none], 0, 177, []⟩ := by kernel_rfl
@[go_sem] theorem tI17 : tyI Try.prog 17 = some ⟨1, 8, false, [.pointer none], 0, 186, []⟩ := by kernel_rfl
@[go_sem] theorem tI18 : tyI Try.prog 18 = some ⟨1, 8, true, [.pointer none], 3, 0, [(0, 1)]⟩ := by kernel_rfl
@[go_sem] theorem tI19 : tyI Try.prog 19 = some ⟨1, 8, true, [.pointer none], 3, 0, [(0, 1)]⟩ := by kernel_rfl
@[go_sem] theorem tI20 : tyI Try.prog 20 = some ⟨1, 16, false, [.nilIface], 0, 0, []⟩ := by kernel_rfl
@[go_sem] theorem tI21 : tyI Try.prog 21 = some ⟨1, 4, false, [.int .i32 0], 0, 0, []⟩ := by kernel_rfl
@[go_sem] theorem tI22 : tyI Try.prog 22 = some ⟨1, 24, false, [.slice none 0 0], 1, 34, []⟩ := by kernel_rfl
@[go_sem] theorem tI23 : tyI Try.prog 23 = some ⟨3, 24, true, [.int .i64 0, .int .i64 0, .bool false], 3, 0, [(0, 1), (1, 1), (2, 1)]⟩ := by kernel_rfl
@[go_sem] theorem tI24 : tyI Try.prog 24 = some ⟨3, 24, true, [.int .i64 0, .int .i64 0, .bool false], 3, 0, [(0, 1), (1, 1), (2, 1)]⟩ := by kernel_rfl
@[go_sem] theorem tI25 : tyI Try.prog 25 = some ⟨1, 8, false, [.nilFunc], 0, 0, []⟩ := by kernel_rfl
@[go_sem] theorem tI26 : tyI Try.prog 26 = some ⟨1, 8, false, [.nilFunc], 0, 0, []⟩ := by kernel_rfl
@[go_sem] theorem tI27 : tyI Try.prog 27 = some ⟨1, 8, false, [.nilFunc], 0, 0, []⟩ := by kernel_rfl
@[go_sem] theorem tI28 : tyI Try.prog 28 = some ⟨1, 8, false, [.nilFunc], 0, 0, []⟩ := by kernel_rfl
@[go_sem] theorem tI29 : tyI Try.prog 29 = some ⟨7, 56, true, [.int .i64 0, .int .i64 0, .int .i64 0, .int .i64 0, .int .i64 0, .int .i64 0, .int .i64 0], 3, 0, [(0, 1), (1, 1), (2, 1), (3, 1), (4, 1), (5, 1), (6, 1)]⟩ := by kernel_rfl
@[go_sem] theorem tI30 : tyI Try.prog 30 = some ⟨7, 56, true, [.int .i64 0, .int .i64 0, .int .i64 0, .int .i64 0, .int .i64 0, .int .i64 0, .int .i64 0], 3, 0, [(0, 1), (1, 1), (2, 1), (3, 1), (4, 1), (5, 1), (6, 1)]⟩ := by kernel_rfl
@[go_sem] theorem tI31 : tyI Try.prog 31 = some ⟨1, 0, false, [.tuple { toList := [.agg { toList := [.int .i64 0, .int .i64 0, .int .i64 0, .int .i64 0, .int .i64 0, .int .i64 0, .int .i64 0] }, .agg { toList := [.int .i64 0, .int .i64 0, .bool false] }] }], 0, 0, []⟩ := by kernel_rfl
@[go_sem] theorem tI32 : tyI Try.prog 32 = some ⟨1, 8, false, [.nilFunc], 0, 0, []⟩ := by kernel_rfl
@[go_sem] theorem tI33 : tyI Try.prog 33 = some ⟨8, 64, true, [.int .i64 0, .int .i64 0, .int .i64 0, .int .i64 0, .int .i64 0, .int .i64 0, .int .i64 0, .int .i64 0], 3, 0, [(0, 1), (1, 1), (2, 1), (3, 1), (4, 1), (5, 1), (6, 1), (7, 1)]⟩ := by kernel_rfl
@[go_sem] theorem tI34 : tyI Try.prog 34 = some ⟨8, 64, true, [.int .i64 0, .int .i64 0, .int .i64 0, .int .i64 0, .int .i64 0, .int .i64 0, .int .i64 0, .int .i64 0], 3, 0, [(0, 1), (1, 1), (2, 1), (3, 1), (4, 1), (5, 1), (6, 1), (7, 1)]⟩ := by kernel_rfl
@[go_sem] theorem tI35 : tyI Try.prog 35 = some ⟨1, 8, false, [.nilFunc], 0, 0, []⟩ := by kernel_rfl
@[go_sem] theorem tI36 : tyI Try.prog 36 = some ⟨1, 8, false, [.nilFunc], 0, 0, []⟩ := by kernel_rfl
@[go_sem] theorem tI37 : tyI Try.prog 37 = some ⟨1, 8, false, [.nilFunc], 0, 0, []⟩ := by kernel_rfl
@[go_sem] theorem tI38 : tyI Try.prog 38 = some ⟨1, 8, false, [.nilFunc], 0, 0, []⟩ := by kernel_rfl
@[go_sem] theorem tI39 : tyI Try.prog 39 = some ⟨1, 8, false, [.nilFunc], 0, 0, []⟩ := by kernel_rfl
@[go_sem] theorem tI40 : tyI Try.prog 40 = some ⟨1, 8, false, [.nilFunc], 0, 0, []⟩ := by kernel_rfl
@[go_sem] theorem tI41 : tyI Try.prog 41 = some ⟨1, 8, false, [.nilFunc], 0, 0, []⟩ := by kernel_rfl
@[go_sem] theorem tI42 : tyI Try.prog 42 = some ⟨1, 24, false, [.slice none 0 0], 1, 52, []⟩ := by kernel_rfl
@[go_sem] theorem tI43 : tyI Try.prog 43 = some ⟨1, 8, false, [.nilFunc], 0, 0, []⟩ := by kernel_rfl
@[go_sem] theorem tI44 : tyI Try.prog 44 = some ⟨1, 24, false, [.slice none 0 0], 1, 3, []⟩ := by kernel_rfl
@[go_sem] theorem tI45 : tyI Try.prog 45 = some ⟨1, 0, false, [.tuple { toList := [.slice none 0 0, .slice none 0 0, .int .i64 0] }], 0, 0, []⟩ := by kernel_rfl
@[go_sem] theorem tI46 : tyI Try.prog 46 = some ⟨1, 8, false, [.nilFunc], 0, 0, []⟩ := by kernel_rfl
@[go_sem] theorem tI47 : tyI Try.prog 47 = some ⟨1, 0, false, [.tuple { toList := [.slice none 0 0, .slice none 0 0] }], 0, 0, []⟩ := by kernel_rfl
@[go_sem] theorem tI48 : tyI Try.prog 48 = some ⟨1, 8, false, [.nilFunc], 0, 0, []⟩ := by kernel_rfl
@[go_sem] theorem tI49 : tyI Try.prog 49 = some ⟨1, 8, false, [.nilFunc], 0, 0, []⟩ := by kernel_rfl
@[go_sem] theorem tI50 : tyI Try.prog 50 = some ⟨1, 8, false, [.nilFunc], 0, 0, []⟩ := by kernel_rfl
@[go_sem] theorem tI51 : tyI Try.prog 51 = some ⟨7, 56, true, [.int .i64 0, .int .i64 0, .int .i64 0, .int .i64 0, .int .i64 0, .int .i64 0, .int .i64 0], 3, 0, [(0, 1), (1, 1), (2, 1), (3, 1), (4, 1), (5, 1), (6, 1)]⟩ := by kernel_rfl
@[go_sem] theorem tI52 : tyI Try.prog 52 = some ⟨7, 56, true, [.int .i64 0, .int .i64 0, .int .i64 0, .int .i64 0, .int .i64 0, .int .i64 0, .int .i64 0], 3, 0, [(0, 1), (1, 1), (2, 1), (3, 1), (4, 1), (5, 1), (6, 1)]⟩ := by kernel_rfl
@[go_sem] theorem tI53 : tyI Try.prog 53 = some ⟨1, 8, false, [.nilFunc], 0, 0, []⟩ := by kernel_rfl
@[go_sem] theorem tI54 : tyI Try.prog 54 = some ⟨1, 8, false, [.nilFunc], 0, 0, []⟩ := by kernel_rfl
@[go_sem] theorem tI55 : tyI Try.prog 55 = some ⟨1, 8, false, [.nilFunc], 0, 0, []⟩ := by kernel_rfl
@[go_sem] theorem tI56 : tyI Try.prog 56 = some ⟨1, 24, false, [.slice none 0 0], 1, 92, []⟩ := by kernel_rfl
@[go_sem] theorem tI57 : tyI Try.prog 57 = some ⟨1, 8, false, [.nilFunc], 0, 0, []⟩ := by kernel_rfl
@[go_sem] theorem tI58 : tyI Try.prog 58 = some ⟨1, 0, false, [.tuple { toList := [.int .i64 0, .int .i64 0] }], 0, 0, []⟩ := by kernel_rfl
@[go_sem] theorem tI59 : tyI Try.prog 59 = some ⟨1, 8, false, [.nilFunc], 0, 0, []⟩ := by kernel_rfl
@[go_sem] theorem tI60 : tyI Try.prog 60 = some ⟨1, 8, false, [.nilFunc], 0, 0, []⟩ := by kernel_rfl
@[go_sem] theorem tI61 : tyI Try.prog 61 = some ⟨1, 8, false, [.nilFunc], 0, 0, []⟩ := by kernel_rfl
@[go_sem] theorem tI62 : tyI Try.prog 62 = some ⟨1, 8, false, [.nilFunc], 0, 0, []⟩ := by kernel_rfl
@[go_sem] theorem tI63 : tyI Try.prog 63 = some ⟨1, 8, false, [.nilFunc], 0, 0, []⟩ := by kernel_rfl
@[go_sem] theorem tI64 : tyI Try.prog 64 = some ⟨1, 8, false, [.nilFunc], 0, 0, []⟩ := by kernel_rfl
@[go_sem] theorem tI65 : tyI Try.prog 65 = some ⟨1, 0, false, [.tuple { toList := [.int .i64 0, .bool false] }], 0, 0, []⟩ := by kernel_rfl
@[go_sem] theorem tI66 : tyI Try.prog 66 = some ⟨1, 8, false, [.nilFunc], 0, 0, []⟩ := by kernel_rfl
@[go_sem] theorem tI67 : tyI Try.prog 67 = some ⟨4, 48, true, [.int .i64 0, .int .i64 0, .bool false, .slice none 0 0], 3, 0, [(0, 3), (3, 1)]⟩ := by kernel_rfl
@[go_sem] theorem tI68 : tyI Try.prog 68 = some ⟨4, 48, true, [.int .i64 0, .int .i64 0, .bool false, .slice none 0 0], 3, 0, [(0, 3), (3, 1)]⟩ := by kernel_rfl
@[go_sem] theorem tI69 : tyI Try.prog 69 = some ⟨7, 56, true, [.int .i64 0, .int .i64 0, .int .i64 0, .int .i64 0, .int .i64 0, .int .i64 0, .int .i64 0], 3, 0, [(0, 7)]⟩ := by kernel_rfl
@[go_sem] theorem tI70 : tyI Try.prog 70 = some ⟨7, 56, true, [.int .i64 0, .int .i64 0, .int .i64 0, .int .i64 0, .int .i64 0, .int .i64 0, .int .i64 0], 3, 0, [(0, 7)]⟩ := by kernel_rfl
@[go_sem] theorem tI71 : tyI Try.prog 71 = some ⟨1, 8, false, [.nilFunc], 0, 0, []⟩ := by kernel_rfl
@[go_sem] theorem tI72 : tyI Try.prog 72 = some ⟨1, 8, false, [.nilFunc], 0, 0, []⟩ := by kernel_rfl
@[go_sem] theorem tI73 : tyI Try.prog 73 = some ⟨1, 8, false, [.nilFunc], 0, 0, []⟩ := by kernel_rfl
@[go_sem] theorem tI74 : tyI Try.prog 74 = some ⟨1, 8, false, [.nilFunc], 0, 0, []⟩ := by kernel_rfl
@[go_sem] theorem tI75 : tyI Try.prog 75 = some ⟨1, 8, false, [.nilFunc], 0, 0, []⟩ := by kernel_rfl
@[go_sem] theorem tI76 : tyI Try.prog 76 = some ⟨1, 8, false, [.nilFunc], 0, 0, []⟩ := by kernel_rfl
@[go_sem] theorem tI77 : tyI Try.prog 77 = some ⟨1, 8, false, [.nilFunc], 0, 0, []⟩ := by kernel_rfl
@[go_sem] theorem tI78 : tyI Try.prog 78 = some ⟨2, 48, true, [.slice none 0 0, .slice none 0 0], 3, 0, [(0, 1), (1, 1)]⟩ := by kernel_rfl
@[go_sem] theorem tI79 : tyI Try.prog 79 = some ⟨2, 48, true, [.slice none 0 0, .slice none 0 0], 3, 0, [(0, 1), (1, 1)]⟩ := by kernel_rfl
@[go_sem] theorem tI80 : tyI Try.prog 80 = some ⟨1, 8, false, [.nilFunc], 0, 0, []⟩ := by kernel_rfl
@[go_sem] theorem tI81 : tyI Try.prog 81 = some ⟨1, 8, false, [.nilFunc], 0, 0, []⟩ := by kernel_rfl
@[go_sem] theorem tI82 : tyI Try.prog 82 = some ⟨1, 8, false, [.nilFunc], 0, 0, []⟩ := by kernel_rfl
@[go_sem] theorem tI83 : tyI Try.prog 83 = some ⟨1, 8, false, [.nilFunc], 0, 0, []⟩ := by kernel_rfl
@[go_sem] theorem tI84 : tyI Try.prog 84 = some ⟨1, 8, false, [.nilFunc], 0, 0, []⟩ := by kernel_rfl
@[go_sem] theorem tI85 : tyI Try.prog 85 = some ⟨1, 8, false, [.nilFunc], 0, 0, []⟩ := by kernel_rfl
@[go_sem] theorem tI86 : tyI Try.prog 86 = some ⟨1, 8, false, [.nilFunc], 0, 0, []⟩ := by kernel_rfl
@[go_sem] theorem tI87 : tyI Try.prog 87 = some ⟨1, 8, false, [.nilFunc], 0, 0, []⟩ := by kernel_rfl
@[go_sem] theorem tI88 : tyI Try.prog 88 = some ⟨1, 8, false, [.nilFunc], 0, 0, []⟩ := by kernel_rfl
@[go_sem] theorem tI89 : tyI Try.prog 89 = some ⟨12, 96, true, [.int .i64 0, .int .i64 0, .int .i64 0, .int .i64 0, .int .i64 0, .int .i64 0, .int .i64 0, .int .i64 0, .int .i64 0, .int .i64 0, .int .i64 0, .int .i64 0], 3, 0, [(0, 1), (1, 1), (2, 1), (3, 1), (4, 1), (5, 1), (6, 1), (7, 1), (8, 1), (9, 1), (10, 1), (11, 1)]⟩ := by kernel_rfl
@[go_sem] theorem tI90 : tyI Try.prog 90 = some ⟨12, 96, true, [.int .i64 0, .int .i64 0, .int .i64 0, .int .i64 0, .int .i64 0, .int .i64 0, .int .i64 0, .int .i64 0, .int .i64 0, .int .i64 0, .int .i64 0, .int .i64 0], 3, 0, [(0, 1), (1, 1), (2, 1), (3, 1), (4, 1), (5, 1), (6, 1), (7, 1), (8, 1), (9, 1), (10, 1), (11, 1)]⟩ := by kernel_rfl
@[go_sem] theorem tI91 : tyI Try.prog 91 = some ⟨20, 176, true, [.int .i64 0, .int .i64 0, .int .i64 0, .int .i64 0, .int .i64 0, .int .i64 0, .int .i64 0, .int .i64 0, .int .i64 0, .int .i64 0, .int .i64 0, .int .i64 0, .int .i64 0, .int .i64 0, .int .i64 0, .int .i64 0, .slice none 0 0, .int .i64 0, .int .i64 0, .int .i64 0], 3, 0, [(0, 1), (1, 1), (2, 12), (14, 1), (15, 1), (16, 1), (17, 1), (18, 1), (19, 1)]⟩ := by kernel_rfl
@[go_sem] theorem tI92 : tyI Try.prog 92 = some ⟨20, 176, true, [.int .i64 0, .int .i64 0, .int .i64 0, .int .i64 0, .int .i64 0, .int .i64 0, .int .i64 0, .int .i64 0, .int .i64 0, .int .i64 0, .int .i64 0, .int .i64 0, .int .i64 0, .int .i64 0, .int .i64 0, .int .i64 0, .slice none 0 0, .int .i64 0, .int .i64 0, .int .i64 0], 3, 0, [(0, 1), (1, 1), (2, 12), (14, 1), (15, 1), (16, 1), (17, 1), (18, 1), (19, 1)]⟩ := by kernel_rfl
@[go_sem] theorem tI93 : tyI Try.prog 93 = some ⟨1, 8, false, [.nilFunc], 0, 0, []⟩ := by kernel_rfl
@[go_sem] theorem tI94 : tyI Try.prog 94 = some ⟨1, 8, false, [.int .i64 0], 0, 0, []⟩ := by kernel_rfl
@[go_sem] theorem tI95 : tyI Try.prog 95 = some ⟨1, 0, false, [.tuple { toList := [.slice none 0 0, .int .i64 0, .int .i64 0] }], 0, 0, []⟩ := by kernel_rfl
@[go_sem] theorem tI96 : tyI Try.prog 96 = some ⟨1, 8, false, [.nilFunc], 0, 0, []⟩ := by kernel_rfl
@[go_sem] theorem tI97 : tyI Try.prog 97 = some ⟨3, 56, true, [.slice none 0 0, .slice none 0 0, .int .i64 0], 3, 0, [(0, 1), (1, 1), (2, 1)]⟩ := by kernel_rfl
@[go_sem] theorem tI98 : tyI Try.prog 98 = some ⟨3, 56, true, [.slice none 0 0, .slice none 0 0, .int .i64 0], 3, 0, [(0, 1), (1, 1), (2, 1)]⟩ := by kernel_rfl
@[go_sem] theorem tI99 : tyI Try.prog 99 = some ⟨1, 0, false, [.tuple { toList := [.agg { toList := [.slice none 0 0, .slice none 0 0, .int .i64 0] }, .int .i64 0] }], 0, 0, []⟩ := by kernel_rfl
@[go_sem] theorem tI100 : tyI Try.prog 100 = some ⟨1, 8, false, [.nilFunc], 0, 0, []⟩ := by kernel_rfl
@[go_sem] theorem tI101 : tyI Try.prog 101 = some ⟨1, 24, false, [.slice none 0 0], 1, 92, []⟩ := by kernel_rfl
@[go_sem] theorem tI102 : tyI Try.prog 102 = some ⟨1, 24, false, [.slice none 0 0], 1, 34, []⟩ := by kernel_rfl
@[go_sem] theorem tI103 : tyI Try.prog 103 = some ⟨1, 8, false, [.nilFunc], 0, 0, []⟩ := by kernel_rfl
@[go_sem] theorem tI104 : tyI Try.prog 104 = some ⟨1, 8, false, [.nilFunc], 0, 0, []⟩ := by kernel_rfl
@[go_sem] theorem tI105 : tyI Try.prog 105 = some ⟨1, 8, false, [.pointer none], 0, 70, []⟩ := by kernel_rfl
@[go_sem] theorem tI106 : tyI Try.prog 106 = some ⟨1, 8, false, [.nilFunc], 0, 0, []⟩ := by kernel_rfl
@[go_sem] theorem tI107 : tyI Try.prog 107 = some ⟨1, 8, false, [.int .u64 0], 0, 0, []⟩ := by kernel_rfl
@[go_sem] theorem tI108 : tyI Try.prog 108 = some ⟨1, 8, false, [.pointer none], 0, 79, []⟩ := by kernel_rfl
@[go_sem] theorem tI109 : tyI Try.prog 109 = some ⟨1, 8, false, [.nilFunc], 0, 0, []⟩ := by kernel_rfl
@[go_sem] theorem tI110 : tyI Try.prog 110 = some ⟨1, 8, false, [.nilFunc], 0, 0, []⟩ := by kernel_rfl
@[go_sem] theorem tI111 : tyI Try.prog 111 = some ⟨1, 8, false, [.nilFunc], 0, 0, []⟩ := by kernel_rfl
@[go_sem] theorem tI112 : tyI Try.prog 112 = some ⟨1, 24, false, [.slice none 0 0], 1, 119, []⟩ := by kernel_rfl
@[go_sem] theorem tI113 : tyI Try.prog 113 = some ⟨1, 0, false, [.tuple { toList := [.slice none 0 0, .int .i64 0, .int .i64 0] }], 0, 0, []⟩ := by kernel_rfl
@[go_sem] theorem tI114 : tyI Try.prog 114 = some ⟨1, 8, false, [.nilFunc], 0, 0, []⟩ := by kernel_rfl
@[go_sem] theorem tI115 : tyI Try.prog 115 = some ⟨3, 40, true, [.slice none 0 0, .int .i64 0, .int .i64 0], 3, 0, [(0, 1), (1, 1), (2, 1)]⟩ := by kernel_rfl
@[go_sem] theorem tI116 : tyI Try.prog 116 = some ⟨3, 40, true, [.slice none 0 0, .int .i64 0, .int .i64 0], 3, 0, [(0, 1), (1, 1), (2, 1)]⟩ := by kernel_rfl
@[go_sem] theorem tI117 : tyI Try.prog 117 = some ⟨1, 8, false, [.nilFunc], 0, 0, []⟩ := by kernel_rfl
@[go_sem] theorem tI118 : tyI Try.prog 118 = some ⟨4, 32, true, [.int .i64 0, .int .i32 0, .int .i64 0, .int .i64 0], 3, 0, [(0, 1), (1, 1), (2, 1), (3, 1)]⟩ := by kernel_rfl
@[go_sem] theorem tI119 : tyI Try.prog 119 = some ⟨4, 32, true, [.int .i64 0, .int .i32 0, .int .i64 0, .int .i64 0], 3, 0, [(0, 1), (1, 1), (2, 1), (3, 1)]⟩ := by kernel_rfl
@[go_sem] theorem tI120 : tyI Try.prog 120 = some ⟨1, 8, false, [.nilFunc], 0, 0, []⟩ := by kernel_rfl
@[go_sem] theorem tI121 : tyI Try.prog 121 = some ⟨2, 16, true, [.int .i64 0, .int .i64 0], 3, 0, [(0, 1), (1, 1)]⟩ := by kernel_rfl
@[go_sem] theorem tI122 : tyI Try.prog 122 = some ⟨2, 16, true, [.int .i64 0, .int .i64 0], 3, 0, [(0, 1), (1, 1)]⟩ := by kernel_rfl
@[go_sem] theorem tI123 : tyI Try.prog 123 = some ⟨5, 72, true, [.slice none 0 0, .slice none 0 0, .int .i64 0, .int .i64 0, .int .i64 0], 3, 0, [(0, 3), (3, 2)]⟩ := by kernel_rfl
@[go_sem] theorem tI124 : tyI Try.prog 124 = some ⟨5, 72, true, [.slice none 0 0, .slice none 0 0, .int .i64 0, .int .i64 0, .int .i64 0], 3, 0, [(0, 3), (3, 2)]⟩ := by kernel_rfl
@[go_sem] theorem tI125 : tyI Try.prog 125 = some ⟨1, 8, false, [.nilFunc], 0, 0, []⟩ := by kernel_rfl
@[go_sem] theorem tI126 : tyI Try.prog 126 = some ⟨1, 8, false, [.nilFunc], 0, 0, []⟩ := by kernel_rfl
@[go_sem] theorem tI127 : tyI Try.prog 127 = some ⟨1, 8, false, [.nilFunc], 0, 0, []⟩ := by kernel_rfl
@[go_sem] theorem tI128 : tyI Try.prog 128 = some ⟨1, 8, false, [.nilFunc], 0, 0, []⟩ := by kernel_rfl
@[go_sem] theorem tI129 : tyI Try.prog 129 = some ⟨1, 8, false, [.nilFunc], 0, 0, []⟩ := by kernel_rfl
@[go_sem] theorem tI130 : tyI Try.prog 130 = some ⟨4, 32, true, [.int .i64 0, .int .i64 0, .int .i64 0, .int .i64 0], 3, 0, [(0, 1), (1, 1), (2, 1), (3, 1)]⟩ := by kernel_rfl
@[go_sem] theorem tI131 : tyI Try.prog 131 = some ⟨4, 32, true, [.int .i64 0, .int .i64 0, .int .i64 0, .int .i64 0], 3, 0, [(0, 1), (1, 1), (2, 1), (3, 1)]⟩ := by kernel_rfl
@[go_sem] theorem tI132 : tyI Try.prog 132 = some ⟨1, 0, false, [.tuple { toList := [.agg { toList := [.int .i64 0, .int .i64 0, .int .i64 0, .int .i64 0] }, .int .i64 0] }], 0, 0, []⟩ := by kernel_rfl
@[go_sem] theorem tI133 : tyI Try.prog 133 = some ⟨1, 8, false, [.nilFunc], 0, 0, []⟩ := by kernel_rfl
@[go_sem] theorem tI134 : tyI Try.prog 134 = some ⟨2, 16, true, [.int .i64 0, .int .i64 0], 3, 0, [(0, 1), (1, 1)]⟩ := by kernel_rfl
@[go_sem] theorem tI135 : tyI Try.prog 135 = some ⟨2, 16, true, [.int .i64 0, .int .i64 0], 3, 0, [(0, 1), (1, 1)]⟩ := by kernel_rfl
@[go_sem] theorem tI136 : tyI Try.prog 136 = some ⟨1, 8, false, [.nilFunc], 0, 0, []⟩ := by kernel_rfl
@[go_sem] theorem tI137 : tyI Try.prog 137 = some ⟨2, 16, true, [.int .i64 0, .int .i64 0], 3, 0, [(0, 1), (1, 1)]⟩ := by kernel_rfl
@[go_sem] theorem tI138 : tyI Try.prog 138 = some ⟨2, 16, true, [.int .i64 0, .int .i64 0], 3, 0, [(0, 1), (1, 1)]⟩ := by kernel_rfl
@[go_sem] theorem tI139 : tyI Try.prog 139 = some ⟨1, 8, false, [.nilFunc], 0, 0, []⟩ := by kernel_rfl
@[go_sem] theorem tI140 : tyI Try.prog 140 = some ⟨1, 8, false, [.nilFunc], 0, 0, []⟩ := by kernel_rfl
@[go_sem] theorem tI141 : tyI Try.prog 141 = some ⟨1, 8, false, [.nilFunc], 0, 0, []⟩ := by kernel_rfl
@[go_sem] theorem tI142 : tyI Try.prog 142 = some ⟨1, 24, false, [.slice none 0 0], 1, 145, []⟩ := by kernel_rfl
@[go_sem] theorem tI143 : tyI Try.prog 143 = some ⟨1, 8, false, [.nilFunc], 0, 0, []⟩ := by kernel_rfl
@[go_sem] theorem tI144 : tyI Try.prog 144 = some ⟨5, 40, true, [.int .i64 0, .int .i64 0, .int .i64 0, .int .i64 0, .int .i64 0], 3, 0, [(0, 1), (1, 1), (2, 1), (3, 1), (4, 1)]⟩ := by kernel_rfl
@[go_sem] theorem tI145 : tyI Try.prog 145 = some ⟨5, 40, true, [.int .i64 0, .int .i64 0, .int .i64 0, .int .i64 0, .int .i64 0], 3, 0, [(0, 1), (1, 1), (2, 1), (3, 1), (4, 1)]⟩ := by kernel_rfl
@[go_sem] theorem tI146 : tyI Try.prog 146 = some ⟨1, 0, false, [.tuple { toList := [.agg { toList := [.int .i64 0, .int .i64 0] }, .int .i64 0] }], 0, 0, []⟩ := by kernel_rfl
@[go_sem] theorem tI147 : tyI Try.prog 147 = some ⟨1, 8, false, [.nilFunc], 0, 0, []⟩ := by kernel_rfl
@[go_sem] theorem tI148 : tyI Try.prog 148 = some ⟨1, 8, false, [.nilFunc], 0, 0, []⟩ := by kernel_rfl
@[go_sem] theorem tI149 : tyI Try.prog 149 = some ⟨1, 8, false, [.nilFunc], 0, 0, []⟩ := by kernel_rfl
@[go_sem] theorem tI150 : tyI Try.prog 150 = some ⟨1, 8, false, [.nilFunc], 0, 0, []⟩ := by kernel_rfl
@[go_sem] theorem tI151 : tyI Try.prog 151 = some ⟨1, 8, false, [.nilFunc], 0, 0, []⟩ := by kernel_rfl
@[go_sem] theorem tI152 : tyI Try.prog 152 = some ⟨1, 8, false, [.nilFunc], 0, 0, []⟩ := by kernel_rfl
@[go_sem] theorem tI153 : tyI Try.prog 153 = some ⟨1, 8, false, [.nilFunc], 0, 0, []⟩ := by kernel_rfl
@[go_sem] theorem tI154 : tyI Try.prog 154 = some ⟨1, 8, false, [.nilFunc], 0, 0, []⟩ := by kernel_rfl
@[go_sem] theorem tI155 : tyI Try.prog 155 = some ⟨1, 8, false, [.nilFunc], 0, 0, []⟩ := by kernel_rfl
@[go_sem] theorem tI156 : tyI Try.prog 156 = some ⟨1, 8, false, [.nilFunc], 0, 0, []⟩ := by kernel_rfl
@[go_sem] theorem tI157 : tyI Try.prog 157 = some ⟨1, 8, false, [.nilFunc], 0, 0, []⟩ := by kernel_rfl
@[go_sem] theorem tI158 : tyI Try.prog 158 = some ⟨1, 8, false, [.nilFunc], 0, 0, []⟩ := by kernel_rfl
@[go_sem] theorem tI159 : tyI Try.prog 159 = some ⟨1, 8, false, [.nilFunc], 0, 0, []⟩ := by kernel_rfl
@[go_sem] theorem tI160 : tyI Try.prog 160 = some ⟨1, 8, false, [.nilFunc], 0, 0, []⟩ := by kernel_rfl
@[go_sem] theorem tI161 : tyI Try.prog 161 = some ⟨1, 8, false, [.nilFunc], 0, 0, []⟩ := by kernel_rfl
@[go_sem] theorem tI162 : tyI Try.prog 162 = some ⟨1, 24, false, [.slice none 0 0], 1, 5, []⟩ := by kernel_rfl
@[go_sem] theorem tI163 : tyI Try.prog 163 = some ⟨1, 8, false, [.nilFunc], 0, 0, []⟩ := by kernel_rfl
@[go_sem] theorem tI164 : tyI Try.prog 164 = some ⟨3, 24, true, [.int .i64 0, .int .i64 0, .int .i64 0], 3, 0, [(0, 1), (1, 1), (2, 1)]⟩ := by kernel_rfl
@[go_sem] theorem tI165 : tyI Try.prog 165 = some ⟨3, 24, true, [.int .i64 0, .int .i64 0, .int .i64 0], 3, 0, [(0, 1), (1, 1), (2, 1)]⟩ := by kernel_rfl
@[go_sem] theorem tI166 : tyI Try.prog 166 = some ⟨1, 8, false, [.nilFunc], 0, 0, []⟩ := by kernel_rfl
@[go_sem] theorem tI167 : tyI Try.prog 167 = some ⟨1, 8, false, [.nilFunc], 0, 0, []⟩ := by kernel_rfl
@[go_sem] theorem tI168 : tyI Try.prog 168 = some ⟨1, 8, false, [.nilFunc], 0, 0, []⟩ := by kernel_rfl
@[go_sem] theorem tI169 : tyI Try.prog 169 = some ⟨1, 8, false, [.nilFunc], 0, 0, []⟩ := by kernel_rfl
@[go_sem] theorem tI170 : tyI Try.prog 170 = some ⟨1, 8, false, [.nilFunc], 0, 0, []⟩ := by kernel_rfl
@[go_sem] theorem tI171 : tyI Try.prog 171 = some ⟨1, 8, false, [.nilFunc], 0, 0, []⟩ := by kernel_rfl
@[go_sem] theorem tI172 : tyI Try.prog 172 = some ⟨1, 8, false, [.nilFunc], 0, 0, []⟩ := by kernel_rfl
@[go_sem] theorem tI173 : tyI Try.prog 173 = some ⟨4, 40, true, [.pointer none, .pointer none, .pointer none, .string { data := { toList := [] } }], 3, 0, [(0, 1), (1, 1), (2, 1), (3, 1)]⟩ := by kernel_rfl
@[go_sem] theorem tI174 : tyI Try.prog 174 = some ⟨4, 40, true, [.pointer none, .pointer none, .pointer none, .string { data := { toList := [] } }], 3, 0, [(0, 1), (1, 1), (2, 1), (3, 1)]⟩ := by kernel_rfl
@[go_sem] theorem tI175 : tyI Try.prog 175 = some ⟨0, 0, true, [], 2, 16, [(0, 1)]⟩ := by kernel_rfl
@[go_sem] theorem tI176 : tyI Try.prog 176 = some ⟨0, 0, true, [], 3, 0, [(0, 0)]⟩ := by kernel_rfl
@[go_sem] theorem tI177 : tyI Try.prog 177 = some ⟨0, 0, true, [], 3, 0, [(0, 0)]⟩ := by kernel_rfl
@[go_sem] theorem tI178 : tyI Try.prog 178 = some ⟨1, 4, false, [.int .u32 0], 0, 0, []⟩ := by kernel_rfl
@[go_sem] theorem tI179 : tyI Try.prog 179 = some ⟨1, 1, false, [.int .u8 0], 0, 0, []⟩ := by kernel_rfl
@[go_sem] theorem tI180 : tyI Try.prog 180 = some ⟨1, 1, false, [.int .u8 0], 0, 0, []⟩ := by kernel_rfl
@[go_sem] theorem tI181 : tyI Try.prog 181 = some ⟨1, 8, false, [.nilFunc], 0, 0, []⟩ := by kernel_rfl
@[go_sem] theorem tI182 : tyI Try.prog 182 = some ⟨1, 8, false, [.pointer none], 0, 5, []⟩ := by kernel_rfl
@[go_sem] theorem tI183 : tyI Try.prog 183 = some ⟨1, 4, false, [.int .i32 0], 0, 0, []⟩ := by kernel_rfl
@[go_sem] theorem tI184 : tyI Try.prog 184 = some ⟨1, 4, false, [.int .i32 0], 0, 0, []⟩ := by kernel_rfl
@[go_sem] theorem tI185 : tyI Try.prog 185 = some ⟨11, 48, true, [.int .u64 0, .int .u64 0, .int .u32 0, .int .u8 0, .int .u8 0, .int .u8 0, .int .u8 0, .nilFunc, .pointer none, .int .i32 0, .int .i32 0], 3, 0, [(0, 1), (1, 1), (2, 1), (3, 1), (4, 1), (5, 1), (6, 1), (7, 1), (8, 1), (9, 1), (10, 1)]⟩ := by kernel_rfl
@[go_sem] theorem tI186 : tyI Try.prog 186 = some ⟨11, 48, true, [.int .u64 0, .int .u64 0, .int .u32 0, .int .u8 0, .int .u8 0, .int .u8 0, .int .u8 0, .nilFunc, .pointer none, .int .i32 0, .int .i32 0], 3, 0, [(0, 1), (1, 1), (2, 1), (3, 1), (4, 1), (5, 1), (6, 1), (7, 1), (8, 1), (9, 1), (10, 1)]⟩ := by kernel_rfl
@[go_sem] theorem tI187 : tyI Try.prog 187 = some ⟨1, 8, false, [.pointer none], 0, 0, []⟩ := by kernel_rfl
@[go_sem] theorem fK7 : flatK Try.prog 7 = some [true, true, false, true] := by kernel_rfl
@[go_sem] theorem fK8 : flatK Try.prog 8 = some [true, true, false, true] := by kernel_rfl
@[go_sem] theorem fK23 : flatK Try.prog 23 = some [true, true, false] := by kernel_rfl
@[go_sem] theorem fK24 : flatK Try.prog 24 = some [true, true, false] := by kernel_rfl
@[go_sem] theorem fK29 : flatK Try.prog 29 = some [true, true, true, true, true, true, true] := by kernel_rfl
@[go_sem] theorem fK30 : flatK Try.prog 30 = some [true, true, true, true, true, true, true] := by kernel_rfl
@[go_sem] theorem fK33 : flatK Try.prog 33 = some [true, true, true, true, true, true, true, true] := by kernel_rfl
@[go_sem] theorem fK34 : flatK Try.prog 34 = some [true, true, true, true, true, true, true, true] := by kernel_rfl
@[go_sem] theorem fK51 : flatK Try.prog 51 = some [true, true, true, true, true, true, true] := by kernel_rfl
@[go_sem] theorem fK52 : flatK Try.prog 52 = some [true, true, true, true, true, true, true] := by kernel_rfl
@[go_sem] theorem fK89 : flatK Try.prog 89 = some [true, true, true, true, true, true, true, true, true, true, true, true] := by kernel_rfl
@[go_sem] theorem fK90 : flatK Try.prog 90 = some [true, true, true, true, true, true, true, true, true, true, true, true] := by kernel_rfl
@[go_sem] theorem fK118 : flatK Try.prog 118 = some [true, true, true, true] := by kernel_rfl
@[go_sem] theorem fK119 : flatK Try.prog 119 = some [true, true, true, true] := by kernel_rfl
@[go_sem] theorem fK121 : flatK Try.prog 121 = some [true, true] := by kernel_rfl
@[go_sem] theorem fK122 : flatK Try.prog 122 = some [true, true] := by kernel_rfl
@[go_sem] theorem fK130 : flatK Try.prog 130 = some [true, true, true, true] := by kernel_rfl
@[go_sem] theorem fK131 : flatK Try.prog 131 = some [true, true, true, true] := by kernel_rfl
@[go_sem] theorem fK134 : flatK Try.prog 134 = some [true, true] := by kernel_rfl
@[go_sem] theorem fK135 : flatK Try.prog 135 = some [true, true] := by kernel_rfl
@[go_sem] theorem fK137 : flatK Try.prog 137 = some [true, true] := by kernel_rfl
@[go_sem] theorem fK138 : flatK Try.prog 138 = some [true, true] := by kernel_rfl
@[go_sem] theorem fK144 : flatK Try.prog 144 = some [true, true, true, true, true] := by kernel_rfl
@[go_sem] theorem fK145 : flatK Try.prog 145 = some [true, true, true, true, true] := by kernel_rfl
@[go_sem] theorem fK164 : flatK Try.prog 164 = some [true, true, true] := by kernel_rfl
@[go_sem] theorem fK165 : flatK Try.prog 165 = some [true, true, true] := by kernel_rfl
@[go_sem] theorem aR175 : arrOf Try.prog 175 = some (0, 1) := by kernel_rfl
@[go_sem] theorem rT0 : rowsTy Try.prog 0 = [] := by kernel_rfl
@[go_sem] theorem rT1 : rowsTy Try.prog 1 = [] := by kernel_rfl
@[go_sem] theorem rT2 : rowsTy Try.prog 2 = [] := by kernel_rfl
@[go_sem] theorem rT3 : rowsTy Try.prog 3 = [] := by kernel_rfl
@[go_sem] theorem rT4 : rowsTy Try.prog 4 = [] := by kernel_rfl
@[go_sem] theorem rT5 : rowsTy Try.prog 5 = [] := by kernel_rfl
@[go_sem] theorem rT6 : rowsTy Try.prog 6 = [] := by kernel_rfl
@[go_sem] theorem rT7 : rowsTy Try.prog 7 = [] := by kernel_rfl
@[go_sem] theorem rT8 : rowsTy Try.prog 8 = [] := by kernel_rfl
@[go_sem] theorem rT9 : rowsTy Try.prog 9 = [] := by kernel_rfl
@[go_sem] theorem rT10 : rowsTy Try.prog 10 = [] := by kernel_rfl
@[go_sem] theorem rT11 : rowsTy Try.prog 11 = [] := by kernel_rfl
@[go_sem] theorem rT12 : rowsTy Try.prog 12 = [] := by kernel_rfl
@[go_sem] theorem rT13 : rowsTy Try.prog 13 = [] := by kernel_rfl
@[go_sem] theorem rT14 : rowsTy Try.prog 14 = [] := by kernel_rfl
@[go_sem] theorem rT15 : rowsTy Try.prog 15 = [] := by kernel_rfl
@[go_sem] theorem rT16 : rowsTy Try.prog 16 = [] := by kernel_rfl
@[go_sem] theorem rT17 : rowsTy Try.prog 17 = [] := by kernel_rfl
@[go_sem] theorem rT18 : rowsTy Try.prog 18 = [] := by kernel_rfl
@[go_sem] theorem rT19 : rowsTy Try.prog 19 = [] := by kernel_rfl
@[go_sem] theorem rT20 : rowsTy Try.prog 20 = [] := by kernel_rfl
@[go_sem] theorem rT21 : rowsTy Try.prog 21 = [] := by kernel_rfl
@[go_sem] theorem rT22 : rowsTy Try.prog 22 = [some (34, 8)] := by kernel_rfl
@[go_sem] theorem rT23 : rowsTy Try.prog 23 = [] := by kernel_rfl
@[go_sem] theorem rT24 : rowsTy Try.prog 24 = [] := by kernel_rfl
@[go_sem] theorem rT25 : rowsTy Try.prog 25 = [] := by kernel_rfl
@[go_sem] theorem rT26 : rowsTy Try.prog 26 = [] := by kernel_rfl
@[go_sem] theorem rT27 : rowsTy Try.prog 27 = [] := by kernel_rfl
@[go_sem] theorem rT28 : rowsTy Try.prog 28 = [] := by kernel_rfl
@[go_sem] theorem rT29 : rowsTy Try.prog 29 = [] := by kernel_rfl
@[go_sem] theorem rT30 : rowsTy Try.prog 30 = [] := by kernel_rfl
@[go_sem] theorem rT31 : rowsTy Try.prog 31 = [] := by kernel_rfl
@[go_sem] theorem rT32 : rowsTy Try.prog 32 = [] := by kernel_rfl
@[go_sem] theorem rT33 : rowsTy Try.prog 33 = [] := by kernel_rfl
@[go_sem] theorem rT34 : rowsTy Try.prog 34 = [] := by kernel_rfl
@[go_sem] theorem rT35 : rowsTy Try.prog 35 = [] := by kernel_rfl
@[go_sem] theorem rT36 : rowsTy Try.prog 36 = [] := by kernel_rfl
@[go_sem] theorem rT37 : rowsTy Try.prog 37 = [] := by kernel_rfl
@[go_sem] theorem rT38 : rowsTy Try.prog 38 = [] := by kernel_rfl
@[go_sem] theorem rT39 : rowsTy Try.prog 39 = [] := by kernel_rfl
@[go_sem] theorem rT40 : rowsTy Try.prog 40 = [] := by kernel_rfl
@[go_sem] theorem rT41 : rowsTy Try.prog 41 = [] := by kernel_rfl
@[go_sem] theorem rT42 : rowsTy Try.prog 42 = [some (52, 7)] := by kernel_rfl
@[go_sem] theorem rT43 : rowsTy Try.prog 43 = [] := by kernel_rfl
@[go_sem] theorem rT44 : rowsTy Try.prog 44 = [some (3, 1)] := by kernel_rfl
@[go_sem] theorem rT45 : rowsTy Try.prog 45 = [] := by kernel_rfl
@[go_sem] theorem rT46 : rowsTy Try.prog 46 = [] := by kernel_rfl
@[go_sem] theorem rT47 : rowsTy Try.prog 47 = [] := by kernel_rfl
@[go_sem] theorem rT48 : rowsTy Try.prog 48 = [] := by kernel_rfl
@[go_sem] theorem rT49 : rowsTy Try.prog 49 = [] := by kernel_rfl
@[go_sem] theorem rT50 : rowsTy Try.prog 50 = [] := by kernel_rfl
@[go_sem] theorem rT51 : rowsTy Try.prog 51 = [] := by kernel_rfl
@[go_sem] theorem rT52 : rowsTy Try.prog 52 = [] := by kernel_rfl
@[go_sem] theorem rT53 : rowsTy Try.prog 53 = [] := by kernel_rfl
@[go_sem] theorem rT54 : rowsTy Try.prog 54 = [] := by kernel_rfl
@[go_sem] theorem rT55 : rowsTy Try.prog 55 = [] := by kernel_rfl
@[go_sem] theorem rT56 : rowsTy Try.prog 56 = [some (92, 20)] := by kernel_rfl
@[go_sem] theorem rT57 : rowsTy Try.prog 57 = [] := by kernel_rfl
@[go_sem] theorem rT58 : rowsTy Try.prog 58 = [] := by kernel_rfl
@[go_sem] theorem rT59 : rowsTy Try.prog 59 = [] := by kernel_rfl
@[go_sem] theorem rT60 : rowsTy Try.prog 60 = [] := by kernel_rfl
@[go_sem] theorem rT61 : rowsTy Try.prog 61 = [] := by kernel_rfl
@[go_sem] theorem rT62 : rowsTy Try.prog 62 = [] := by kernel_rfl
@[go_sem] theorem rT63 : rowsTy Try.prog 63 = [] := by kernel_rfl
@[go_sem] theorem rT64 : rowsTy Try.prog 64 = [] := by kernel_rfl
@[go_sem] theorem rT65 : rowsTy Try.prog 65 = [] := by kernel_rfl
@[go_sem] theorem rT66 : rowsTy Try.prog 66 = [] := by kernel_rfl
@[go_sem] theorem rT67 : rowsTy Try.prog 67 = [none, none, none, some (34, 8)] := by kernel_rfl
@[go_sem] theorem rT68 : rowsTy Try.prog 68 = [none, none, none, some (34, 8)] := by kernel_rfl
@[go_sem] theorem rT69 : rowsTy Try.prog 69 = [] := by kernel_rfl
@[go_sem] theorem rT70 : rowsTy Try.prog 70 = [] := by kernel_rfl
@[go_sem] theorem rT71 : rowsTy Try.prog 71 = [] := by kernel_rfl
@[go_sem] theorem rT72 : rowsTy Try.prog 72 = [] := by kernel_rfl
@[go_sem] theorem rT73 : rowsTy Try.prog 73 = [] := by kernel_rfl
@[go_sem] theorem rT74 : rowsTy Try.prog 74 = [] := by kernel_rfl
@[go_sem] theorem rT75 : rowsTy Try.prog 75 = [] := by kernel_rfl
@[go_sem] theorem rT76 : rowsTy Try.prog 76 = [] := by kernel_rfl
@[go_sem] theorem rT77 : rowsTy Try.prog 77 = [] := by kernel_rfl
@[go_sem] theorem rT78 : rowsTy Try.prog 78 = [some (52, 7), some (52, 7)] := by kernel_rfl
@[go_sem] theorem rT79 : rowsTy Try.prog 79 = [some (52, 7), some (52, 7)] := by kernel_rfl
@[go_sem] theorem rT80 : rowsTy Try.prog 80 = [] := by kernel_rfl
@[go_sem] theorem rT81 : rowsTy Try.prog 81 = [] := by kernel_rfl
@[go_sem] theorem rT82 : rowsTy Try.prog 82 = [] := by kernel_rfl
@[go_sem] theorem rT83 : rowsTy Try.prog 83 = [] := by kernel_rfl
@[go_sem] theorem rT84 : rowsTy Try.prog 84 = [] := by kernel_rfl
@[go_sem] theorem rT85 : rowsTy Try.prog 85 = [] := by kernel_rfl
@[go_sem] theorem rT86 : rowsTy Try.prog 86 = [] := by kernel_rfl
@[go_sem] theorem rT87 : rowsTy Try.prog 87 = [] := by kernel_rfl
@[go_sem] theorem rT88 : rowsTy Try.prog 88 = [] := by kernel_rfl
@[go_sem] theorem rT89 : rowsTy Try.prog 89 = [] := by kernel_rfl
@[go_sem] theorem rT90 : rowsTy Try.prog 90 = [] := by kernel_rfl
@[go_sem] theorem rT91 : rowsTy Try.prog 91 = [none, none, none, none, none, none, none, none, none, none, none, none, none, none, none, none, some (3, 1), none, none, none] := by kernel_rfl
@[go_sem] theorem rT92 : rowsTy Try.prog 92 = [none, none, none, none, none, none, none, none, none, none, none, none, none, none, none, none, some (3, 1), none, none, none] := by kernel_rfl
@[go_sem] theorem rT93 : rowsTy Try.prog 93 = [] := by kernel_rfl
@[go_sem] theorem rT94 : rowsTy Try.prog 94 = [] := by kernel_rfl
@[go_sem] theorem rT95 : rowsTy Try.prog 95 = [] := by kernel_rfl
@[go_sem] theorem rT96 : rowsTy Try.prog 96 = [] := by kernel_rfl
@[go_sem] theorem rT97 : rowsTy Try.prog 97 = [some (34, 8), some (52, 7), none] := by kernel_rfl
@[go_sem] theorem rT98 : rowsTy Try.prog 98 = [some (34, 8), some (52, 7), none] := by kernel_rfl
@[go_sem] theorem rT99 : rowsTy Try.prog 99 = [] := by kernel_rfl
@[go_sem] theorem rT100 : rowsTy Try.prog 100 = [] := by kernel_rfl
@[go_sem] theorem rT101 : rowsTy Try.prog 101 = [some (92, 20)] := by kernel_rfl
@[go_sem] theorem rT102 : rowsTy Try.prog 102 = [some (34, 8)] := by kernel_rfl
@[go_sem] theorem rT103 : rowsTy Try.prog 103 = [] := by kernel_rfl
@[go_sem] theorem rT104 : rowsTy Try.prog 104 = [] := by kernel_rfl
@[go_sem] theorem rT105 : rowsTy Try.prog 105 = [] := by kernel_rfl
@[go_sem] theorem rT106 : rowsTy Try.prog 106 = [] := by kernel_rfl
@[go_sem] theorem rT107 : rowsTy Try.prog 107 = [] := by kernel_rfl
@[go_sem] theorem rT108 : rowsTy Try.prog 108 = [] := by kernel_rfl
@[go_sem] theorem rT109 : rowsTy Try.prog 109 = [] := by kernel_rfl
@[go_sem] theorem rT110 : rowsTy Try.prog 110 = [] := by kernel_rfl
@[go_sem] theorem rT111 : rowsTy Try.prog 111 = [] := by kernel_rfl
@[go_sem] theorem rT112 : rowsTy Try.prog 112 = [some (119, 4)] := by kernel_rfl
@[go_sem] theorem rT113 : rowsTy Try.prog 113 = [] := by kernel_rfl
@[go_sem] theorem rT114 : rowsTy Try.prog 114 = [] := by kernel_rfl
@[go_sem] theorem rT115 : rowsTy Try.prog 115 = [some (92, 20), none, none] := by kernel_rfl
@[go_sem] theorem rT116 : rowsTy Try.prog 116 = [some (92, 20), none, none] := by kernel_rfl
@[go_sem] theorem rT117 : rowsTy Try.prog 117 = [] := by kernel_rfl
@[go_sem] theorem rT118 : rowsTy Try.prog 118 = [] := by kernel_rfl
@[go_sem] theorem rT119 : rowsTy Try.prog 119 = [] := by kernel_rfl
@[go_sem] theorem rT120 : rowsTy Try.prog 120 = [] := by kernel_rfl
@[go_sem] theorem rT121 : rowsTy Try.prog 121 = [] := by kernel_rfl
@[go_sem] theorem rT122 : rowsTy Try.prog 122 = [] := by kernel_rfl
@[go_sem] theorem rT123 : rowsTy Try.prog 123 = [some (34, 8), some (52, 7), none, none, none] := by kernel_rfl
@[go_sem] theorem rT124 : rowsTy Try.prog 124 = [some (34, 8), some (52, 7), none, none, none] := by kernel_rfl
@[go_sem] theorem rT125 : rowsTy Try.prog 125 = [] := by kernel_rfl
@[go_sem] theorem rT126 : rowsTy Try.prog 126 = [] := by kernel_rfl
@[go_sem] theorem rT127 : rowsTy Try.prog 127 = [] := by kernel_rfl
@[go_sem] theorem rT128 : rowsTy Try.prog 128 = [] := by kernel_rfl
@[go_sem] theorem rT129 : rowsTy Try.prog 129 = [] := by kernel_rfl
@[go_sem] theorem rT130 : rowsTy Try.prog 130 = [] := by kernel_rfl
@[go_sem] theorem rT131 : rowsTy Try.prog 131 = [] := by kernel_rfl
@[go_sem] theorem rT132 : rowsTy Try.prog 132 = [] := by kernel_rfl
@[go_sem] theorem rT133 : rowsTy Try.prog 133 = [] := by kernel_rfl
@[go_sem] theorem rT134 : rowsTy Try.prog 134 = [] := by kernel_rfl
@[go_sem] theorem rT135 : rowsTy Try.prog 135 = [] := by kernel_rfl
@[go_sem] theorem rT136 : rowsTy Try.prog 136 = [] := by kernel_rfl
@[go_sem] theorem rT137 : rowsTy Try.prog 137 = [] := by kernel_rfl
@[go_sem] theorem rT138 : rowsTy Try.prog 138 = [] := by kernel_rfl
@[go_sem] theorem rT139 : rowsTy Try.prog 139 = [] := by kernel_rfl
@[go_sem] theorem rT140 : rowsTy Try.prog 140 = [] := by kernel_rfl
@[go_sem] theorem rT141 : rowsTy Try.prog 141 = [] := by kernel_rfl
@[go_sem] theorem rT142 : rowsTy Try.prog 142 = [some (145, 5)] := by kernel_rfl
@[go_sem] theorem rT143 : rowsTy Try.prog 143 = [] := by kernel_rfl
@[go_sem] theorem rT144 : rowsTy Try.prog 144 = [] := by kernel_rfl
@[go_sem] theorem rT145 : rowsTy Try.prog 145 = [] := by kernel_rfl
@[go_sem] theorem rT146 : rowsTy Try.prog 146 = [] := by kernel_rfl
@[go_sem] theorem rT147 : rowsTy Try.prog 147 = [] := by kernel_rfl
@[go_sem] theorem rT148 : rowsTy Try.prog 148 = [] := by kernel_rfl
@[go_sem] theorem rT149 : rowsTy Try.prog 149 = [] := by kernel_rfl
@[go_sem] theorem rT150 : rowsTy Try.prog 150 = [] := by kernel_rfl
@[go_sem] theorem rT151 : rowsTy Try.prog 151 = [] := by kernel_rfl
@[go_sem] theorem rT152 : rowsTy Try.prog 152 = [] := by kernel_rfl
@[go_sem] theorem rT153 : rowsTy Try.prog 153 = [] := by kernel_rfl
@[go_sem] theorem rT154 : rowsTy Try.prog 154 = [] := by kernel_rfl
@[go_sem] theorem rT155 : rowsTy Try.prog 155 = [] := by kernel_rfl
@[go_sem] theorem rT156 : rowsTy Try.prog 156 = [] := by kernel_rfl
@[go_sem] theorem rT157 : rowsTy Try.prog 157 = [] := by kernel_rfl
@[go_sem] theorem rT158 : rowsTy Try.prog 158 = [] := by kernel_rfl
@[go_sem] theorem rT159 : rowsTy Try.prog 159 = [] := by kernel_rfl
@[go_sem] theorem rT160 : rowsTy Try.prog 160 = [] := by kernel_rfl
@[go_sem] theorem rT161 : rowsTy Try.prog 161 = [] := by kernel_rfl
@[go_sem] theorem rT162 : rowsTy Try.prog 162 = [some (5, 1)] := by kernel_rfl
@[go_sem] theorem rT163 : rowsTy Try.prog 163 = [] := by kernel_rfl
@[go_sem] theorem rT164 : rowsTy Try.prog 164 = [] := by kernel_rfl
@[go_sem] theorem rT165 : rowsTy Try.prog 165 = [] := by kernel_rfl
@[go_sem] theorem rT166 : rowsTy Try.prog 166 = [] := by kernel_rfl
@[go_sem] theorem rT167 : rowsTy Try.prog 167 = [] := by kernel_rfl
@[go_sem] theorem rT168 : rowsTy Try.prog 168 = [] := by kernel_rfl
@[go_sem] theorem rT169 : rowsTy Try.prog 169 = [] := by kernel_rfl
@[go_sem] theorem rT170 : rowsTy Try.prog 170 = [] := by kernel_rfl
@[go_sem] theorem rT171 : rowsTy Try.prog 171 = [] := by kernel_rfl
@[go_sem] theorem rT172 : rowsTy Try.prog 172 = [] := by kernel_rfl
@[go_sem] theorem rT173 : rowsTy Try.prog 173 = [] := by kernel_rfl
@[go_sem] theorem rT174 : rowsTy Try.prog 174 = [] := by kernel_rfl
@[go_sem] theorem rT175 : rowsTy Try.prog 175 = [] := by kernel_rfl
@[go_sem] theorem rT176 : rowsTy Try.prog 176 = [] := by kernel_rfl
@[go_sem] theorem rT177 : rowsTy Try.prog 177 = [] := by kernel_rfl
@[go_sem] theorem rT178 : rowsTy Try.prog 178 = [] := by kernel_rfl
@[go_sem] theorem rT179 : rowsTy Try.prog 179 = [] := by kernel_rfl
@[go_sem] theorem rT180 : rowsTy Try.prog 180 = [] := by kernel_rfl
@[go_sem] theorem rT181 : rowsTy Try.prog 181 = [] := by kernel_rfl
@[go_sem] theorem rT182 : rowsTy Try.prog 182 = [] := by kernel_rfl
@[go_sem] theorem rT183 : rowsTy Try.prog 183 = [] := by kernel_rfl
@[go_sem] theorem rT184 : rowsTy Try.prog 184 = [] := by kernel_rfl
@[go_sem] theorem rT185 : rowsTy Try.prog 185 = [] := by kernel_rfl
@[go_sem] theorem rT186 : rowsTy Try.prog 186 = [] := by kernel_rfl
@[go_sem] theorem rT187 : rowsTy Try.prog 187 = [] := by kernel_rfl
@[go_sem] theorem follows_any : Try.prog.follows .mixedOrders = true := by kernel_rfl
@[go_sem] theorem fT7_0 : fieldT Try.prog 7 0 = some 2 := by kernel_rfl
@[go_sem] theorem fT7_1 : fieldT Try.prog 7 1 = some 3 := by kernel_rfl
@[go_sem] theorem fT7_2 : fieldT Try.prog 7 2 = some 4 := by kernel_rfl
@[go_sem] theorem fT7_3 : fieldT Try.prog 7 3 = some 6 := by kernel_rfl
@[go_sem] theorem fT8_0 : fieldT Try.prog 8 0 = some 2 := by kernel_rfl
@[go_sem] theorem fT8_1 : fieldT Try.prog 8 1 = some 3 := by kernel_rfl
@[go_sem] theorem fT8_2 : fieldT Try.prog 8 2 = some 4 := by kernel_rfl
@[go_sem] theorem fT8_3 : fieldT Try.prog 8 3 = some 6 := by kernel_rfl
@[go_sem] theorem fT13_0 : fieldT Try.prog 13 0 = some 9 := by kernel_rfl
@[go_sem] theorem fT13_1 : fieldT Try.prog 13 1 = some 12 := by kernel_rfl
@[go_sem] theorem fT14_0 : fieldT Try.prog 14 0 = some 9 := by kernel_rfl
@[go_sem] theorem fT14_1 : fieldT Try.prog 14 1 = some 12 := by kernel_rfl
@[go_sem] theorem fT18_0 : fieldT Try.prog 18 0 = some 17 := by kernel_rfl
@[go_sem] theorem fT19_0 : fieldT Try.prog 19 0 = some 17 := by kernel_rfl
@[go_sem] theorem fT23_0 : fieldT Try.prog 23 0 = some 3 := by kernel_rfl
@[go_sem] theorem fT23_1 : fieldT Try.prog 23 1 = some 3 := by kernel_rfl
@[go_sem] theorem fT23_2 : fieldT Try.prog 23 2 = some 4 := by kernel_rfl
@[go_sem] theorem fT24_0 : fieldT Try.prog 24 0 = some 3 := by kernel_rfl
@[go_sem] theorem fT24_1 : fieldT Try.prog 24 1 = some 3 := by kernel_rfl
@[go_sem] theorem fT24_2 : fieldT Try.prog 24 2 = some 4 := by kernel_rfl
@[go_sem] theorem fT29_0 : fieldT Try.prog 29 0 = some 3 := by kernel_rfl
@[go_sem] theorem fT29_1 : fieldT Try.prog 29 1 = some 3 := by kernel_rfl
@[go_sem] theorem fT29_2 : fieldT Try.prog 29 2 = some 3 := by kernel_rfl
@[go_sem] theorem fT29_3 : fieldT Try.prog 29 3 = some 3 := by kernel_rfl
@[go_sem] theorem fT29_4 : fieldT Try.prog 29 4 = some 3 := by kernel_rfl
@[go_sem] theorem fT29_5 : fieldT Try.prog 29 5 = some 3 := by kernel_rfl
@[go_sem] theorem fT29_6 : fieldT Try.prog 29 6 = some 3 := by kernel_rfl
@[go_sem] theorem fT30_0 : fieldT Try.prog 30 0 = some 3 := by kernel_rfl
@[go_sem] theorem fT30_1 : fieldT Try.prog 30 1 = some 3 := by kernel_rfl
@[go_sem] theorem fT30_2 : fieldT Try.prog 30 2 = some 3 := by kernel_rfl
@[go_sem] theorem fT30_3 : fieldT Try.prog 30 3 = some 3 := by kernel_rfl
@[go_sem] theorem fT30_4 : fieldT Try.prog 30 4 = some 3 := by kernel_rfl
@[go_sem] theorem fT30_5 : fieldT Try.prog 30 5 = some 3 := by kernel_rfl
@[go_sem] theorem fT30_6 : fieldT Try.prog 30 6 = some 3 := by kernel_rfl
@[go_sem] theorem fT33_0 : fieldT Try.prog 33 0 = some 3 := by kernel_rfl
@[go_sem] theorem fT33_1 : fieldT Try.prog 33 1 = some 3 := by kernel_rfl
@[go_sem] theorem fT33_2 : fieldT Try.prog 33 2 = some 3 := by kernel_rfl
@[go_sem] theorem fT33_3 : fieldT Try.prog 33 3 = some 3 := by kernel_rfl
@[go_sem] theorem fT33_4 : fieldT Try.prog 33 4 = some 3 := by kernel_rfl
@[go_sem] theorem fT33_5 : fieldT Try.prog 33 5 = some 3 := by kernel_rfl
@[go_sem] theorem fT33_6 : fieldT Try.prog 33 6 = some 3 := by kernel_rfl
@[go_sem] theorem fT33_7 : fieldT Try.prog 33 7 = some 3 := by kernel_rfl
@[go_sem] theorem fT34_0 : fieldT Try.prog 34 0 = some 3 := by kernel_rfl
@[go_sem] theorem fT34_1 : fieldT Try.prog 34 1 = some 3 := by kernel_rfl
@[go_sem] theorem fT34_2 : fieldT Try.prog 34 2 = some 3 := by kernel_rfl
@[go_sem] theorem fT34_3 : fieldT Try.prog 34 3 = some 3 := by kernel_rfl
@[go_sem] theorem fT34_4 : fieldT Try.prog 34 4 = some 3 := by kernel_rfl
@[go_sem] theorem fT34_5 : fieldT Try.prog 34 5 = some 3 := by kernel_rfl
@[go_sem] theorem fT34_6 : fieldT Try.prog 34 6 = some 3 := by kernel_rfl
@[go_sem] theorem fT34_7 : fieldT Try.prog 34 7 = some 3 := by kernel_rfl
@[go_sem] theorem fT51_0 : fieldT Try.prog 51 0 = some 3 := by kernel_rfl
@[go_sem] theorem fT51_1 : fieldT Try.prog 51 1 = some 3 := by kernel_rfl
@[go_sem] theorem fT51_2 : fieldT Try.prog 51 2 = some 3 := by kernel_rfl
@[go_sem] theorem fT51_3 : fieldT Try.prog 51 3 = some 3 := by kernel_rfl
@[go_sem] theorem fT51_4 : fieldT Try.prog 51 4 = some 3 := by kernel_rfl
@[go_sem] theorem fT51_5 : fieldT Try.prog 51 5 = some 3 := by kernel_rfl
@[go_sem] theorem fT51_6 : fieldT Try.prog 51 6 = some 3 := by kernel_rfl
@[go_sem] theorem fT52_0 : fieldT Try.prog 52 0 = some 3 := by kernel_rfl
@[go_sem] theorem fT52_1 : fieldT Try.prog 52 1 = some 3 := by kernel_rfl
@[go_sem] theorem fT52_2 : fieldT Try.prog 52 2 = some 3 := by kernel_rfl
@[go_sem] theorem fT52_3 : fieldT Try.prog 52 3 = some 3 := by kernel_rfl
@[go_sem] theorem fT52_4 : fieldT Try.prog 52 4 = some 3 := by kernel_rfl
@[go_sem] theorem fT52_5 : fieldT Try.prog 52 5 = some 3 := by kernel_rfl
@[go_sem] theorem fT52_6 : fieldT Try.prog 52 6 = some 3 := by kernel_rfl
@[go_sem] theorem fT67_0 : fieldT Try.prog 67 0 = some 24 := by kernel_rfl
@[go_sem] theorem fT67_1 : fieldT Try.prog 67 1 = some 22 := by kernel_rfl
@[go_sem] theorem fT68_0 : fieldT Try.prog 68 0 = some 24 := by kernel_rfl
@[go_sem] theorem fT68_1 : fieldT Try.prog 68 1 = some 22 := by kernel_rfl
@[go_sem] theorem fT69_0 : fieldT Try.prog 69 0 = some 30 := by kernel_rfl
@[go_sem] theorem fT70_0 : fieldT Try.prog 70 0 = some 30 := by kernel_rfl
@[go_sem] theorem fT78_0 : fieldT Try.prog 78 0 = some 42 := by kernel_rfl
@[go_sem] theorem fT78_1 : fieldT Try.prog 78 1 = some 42 := by kernel_rfl
@[go_sem] theorem fT79_0 : fieldT Try.prog 79 0 = some 42 := by kernel_rfl
@[go_sem] theorem fT79_1 : fieldT Try.prog 79 1 = some 42 := by kernel_rfl
@[go_sem] theorem fT89_0 : fieldT Try.prog 89 0 = some 3 := by kernel_rfl
@[go_sem] theorem fT89_1 : fieldT Try.prog 89 1 = some 3 := by kernel_rfl
@[go_sem] theorem fT89_2 : fieldT Try.prog 89 2 = some 3 := by kernel_rfl
@[go_sem] theorem fT89_3 : fieldT Try.prog 89 3 = some 3 := by kernel_rfl
@[go_sem] theorem fT89_4 : fieldT Try.prog 89 4 = some 3 := by kernel_rfl
@[go_sem] theorem fT89_5 : fieldT Try.prog 89 5 = some 3 := by kernel_rfl
@[go_sem] theorem fT89_6 : fieldT Try.prog 89 6 = some 3 := by kernel_rfl
@[go_sem] theorem fT89_7 : fieldT Try.prog 89 7 = some 3 := by kernel_rfl
@[go_sem] theorem fT89_8 : fieldT Try.prog 89 8 = some 3 := by kernel_rfl
@[go_sem] theorem fT89_9 : fieldT Try.prog 89 9 = some 3 := by kernel_rfl
@[go_sem] theorem fT89_10 : fieldT Try.prog 89 10 = some 3 := by kernel_rfl
@[go_sem] theorem fT89_11 : fieldT Try.prog 89 11 = some 3 := by kernel_rfl
@[go_sem] theorem fT90_0 : fieldT Try.prog 90 0 = some 3 := by kernel_rfl
@[go_sem] theorem fT90_1 : fieldT Try.prog 90 1 = some 3 := by kernel_rfl
@[go_sem] theorem fT90_2 : fieldT Try.prog 90 2 = some 3 := by kernel_rfl
@[go_sem] theorem fT90_3 : fieldT Try.prog 90 3 = some 3 := by kernel_rfl
@[go_sem] theorem fT90_4 : fieldT Try.prog 90 4 = some 3 := by kernel_rfl
@[go_sem] theorem fT90_5 : fieldT Try.prog 90 5 = some 3 := by kernel_rfl
@[go_sem] theorem fT90_6 : fieldT Try.prog 90 6 = some 3 := by kernel_rfl
@[go_sem] theorem fT90_7 : fieldT Try.prog 90 7 = some 3 := by kernel_rfl
@[go_sem] theorem fT90_8 : fieldT Try.prog 90 8 = some 3 := by kernel_rfl
@[go_sem] theorem fT90_9 : fieldT Try.prog 90 9 = some 3 := by kernel_rfl
@[go_sem] theorem fT90_10 : fieldT Try.prog 90 10 = some 3 := by kernel_rfl
@[go_sem] theorem fT90_11 : fieldT Try.prog 90 11 = some 3 := by kernel_rfl
@[go_sem] theorem fT91_0 : fieldT Try.prog 91 0 = some 3 := by kernel_rfl
@[go_sem] theorem fT91_1 : fieldT Try.prog 91 1 = some 3 := by kernel_rfl
@[go_sem] theorem fT91_2 : fieldT Try.prog 91 2 = some 90 := by kernel_rfl
@[go_sem] theorem fT91_3 : fieldT Try.prog 91 3 = some 3 := by kernel_rfl
@[go_sem] theorem fT91_4 : fieldT Try.prog 91 4 = some 3 := by kernel_rfl
@[go_sem] theorem fT91_5 : fieldT Try.prog 91 5 = some 44 := by kernel_rfl
@[go_sem] theorem fT91_6 : fieldT Try.prog 91 6 = some 3 := by kernel_rfl
@[go_sem] theorem fT91_7 : fieldT Try.prog 91 7 = some 3 := by kernel_rfl
@[go_sem] theorem fT91_8 : fieldT Try.prog 91 8 = some 3 := by kernel_rfl
@[go_sem] theorem fT92_0 : fieldT Try.prog 92 0 = some 3 := by kernel_rfl
@[go_sem] theorem fT92_1 : fieldT Try.prog 92 1 = some 3 := by kernel_rfl
@[go_sem] theorem fT92_2 : fieldT Try.prog 92 2 = some 90 := by kernel_rfl
@[go_sem] theorem fT92_3 : fieldT Try.prog 92 3 = some 3 := by kernel_rfl
@[go_sem] theorem fT92_4 : fieldT Try.prog 92 4 = some 3 := by kernel_rfl
@[go_sem] theorem fT92_5 : fieldT Try.prog 92 5 = some 44 := by kernel_rfl
@[go_sem] theorem fT92_6 : fieldT Try.prog 92 6 = some 3 := by kernel_rfl
@[go_sem] theorem fT92_7 : fieldT Try.prog 92 7 = some 3 := by kernel_rfl
@[go_sem] theorem fT92_8 : fieldT Try.prog 92 8 = some 3 := by kernel_rfl
@[go_sem] theorem fT97_0 : fieldT Try.prog 97 0 = some 22 := by kernel_rfl
@[go_sem] theorem fT97_1 : fieldT Try.prog 97 1 = some 42 := by kernel_rfl
@[go_sem] theorem fT97_2 : fieldT Try.prog 97 2 = some 3 := by kernel_rfl
@[go_sem] theorem fT98_0 : fieldT Try.prog 98 0 = some 22 := by kernel_rfl
@[go_sem] theorem fT98_1 : fieldT Try.prog 98 1 = some 42 := by kernel_rfl
@[go_sem] theorem fT98_2 : fieldT Try.prog 98 2 = some 3 := by kernel_rfl
@[go_sem] theorem fT115_0 : fieldT Try.prog 115 0 = some 56 := by kernel_rfl
@[go_sem] theorem fT115_1 : fieldT Try.prog 115 1 = some 3 := by kernel_rfl
@[go_sem] theorem fT115_2 : fieldT Try.prog 115 2 = some 3 := by kernel_rfl
@[go_sem] theorem fT116_0 : fieldT Try.prog 116 0 = some 56 := by kernel_rfl
@[go_sem] theorem fT116_1 : fieldT Try.prog 116 1 = some 3 := by kernel_rfl
@[go_sem] theorem fT116_2 : fieldT Try.prog 116 2 = some 3 := by kernel_rfl
@[go_sem] theorem fT118_0 : fieldT Try.prog 118 0 = some 3 := by kernel_rfl
@[go_sem] theorem fT118_1 : fieldT Try.prog 118 1 = some 21 := by kernel_rfl
@[go_sem] theorem fT118_2 : fieldT Try.prog 118 2 = some 3 := by kernel_rfl
@[go_sem] theorem fT118_3 : fieldT Try.prog 118 3 = some 3 := by kernel_rfl
@[go_sem] theorem fT119_0 : fieldT Try.prog 119 0 = some 3 := by kernel_rfl
@[go_sem] theorem fT119_1 : fieldT Try.prog 119 1 = some 21 := by kernel_rfl
@[go_sem] theorem fT119_2 : fieldT Try.prog 119 2 = some 3 := by kernel_rfl
@[go_sem] theorem fT119_3 : fieldT Try.prog 119 3 = some 3 := by kernel_rfl
@[go_sem] theorem fT121_0 : fieldT Try.prog 121 0 = some 3 := by kernel_rfl
@[go_sem] theorem fT121_1 : fieldT Try.prog 121 1 = some 3 := by kernel_rfl
@[go_sem] theorem fT122_0 : fieldT Try.prog 122 0 = some 3 := by kernel_rfl
@[go_sem] theorem fT122_1 : fieldT Try.prog 122 1 = some 3 := by kernel_rfl
@[go_sem] theorem fT123_0 : fieldT Try.prog 123 0 = some 98 := by kernel_rfl
@[go_sem] theorem fT123_1 : fieldT Try.prog 123 1 = some 122 := by kernel_rfl
@[go_sem] theorem fT124_0 : fieldT Try.prog 124 0 = some 98 := by kernel_rfl
@[go_sem] theorem fT124_1 : fieldT Try.prog 124 1 = some 122 := by kernel_rfl
@[go_sem] theorem fT130_0 : fieldT Try.prog 130 0 = some 3 := by kernel_rfl
@[go_sem] theorem fT130_1 : fieldT Try.prog 130 1 = some 3 := by kernel_rfl
@[go_sem] theorem fT130_2 : fieldT Try.prog 130 2 = some 3 := by kernel_rfl
@[go_sem] theorem fT130_3 : fieldT Try.prog 130 3 = some 3 := by kernel_rfl
@[go_sem] theorem fT131_0 : fieldT Try.prog 131 0 = some 3 := by kernel_rfl
@[go_sem] theorem fT131_1 : fieldT Try.prog 131 1 = some 3 := by kernel_rfl
@[go_sem] theorem fT131_2 : fieldT Try.prog 131 2 = some 3 := by kernel_rfl
@[go_sem] theorem fT131_3 : fieldT Try.prog 131 3 = some 3 := by kernel_rfl
@[go_sem] theorem fT134_0 : fieldT Try.prog 134 0 = some 3 := by kernel_rfl
@[go_sem] theorem fT134_1 : fieldT Try.prog 134 1 = some 3 := by kernel_rfl
@[go_sem] theorem fT135_0 : fieldT Try.prog 135 0 = some 3 := by kernel_rfl
@[go_sem] theorem fT135_1 : fieldT Try.prog 135 1 = some 3 := by kernel_rfl
@[go_sem] theorem fT137_0 : fieldT Try.prog 137 0 = some 3 := by kernel_rfl
@[go_sem] theorem fT137_1 : fieldT Try.prog 137 1 = some 3 := by kernel_rfl
@[go_sem] theorem fT138_0 : fieldT Try.prog 138 0 = some 3 := by kernel_rfl
@[go_sem] theorem fT138_1 : fieldT Try.prog 138 1 = some 3 := by kernel_rfl
@[go_sem] theorem fT144_0 : fieldT Try.prog 144 0 = some 3 := by kernel_rfl
@[go_sem] theorem fT144_1 : fieldT Try.prog 144 1 = some 3 := by kernel_rfl
@[go_sem] theorem fT144_2 : fieldT Try.prog 144 2 = some 3 := by kernel_rfl
@[go_sem] theorem fT144_3 : fieldT Try.prog 144 3 = some 3 := by kernel_rfl
@[go_sem] theorem fT144_4 : fieldT Try.prog 144 4 = some 3 := by kernel_rfl
@[go_sem] theorem fT145_0 : fieldT Try.prog 145 0 = some 3 := by kernel_rfl
@[go_sem] theorem fT145_1 : fieldT Try.prog 145 1 = some 3 := by kernel_rfl
@[go_sem] theorem fT145_2 : fieldT Try.prog 145 2 = some 3 := by kernel_rfl
@[go_sem] theorem fT145_3 : fieldT Try.prog 145 3 = some 3 := by kernel_rfl
@[go_sem] theorem fT145_4 : fieldT Try.prog 145 4 = some 3 := by kernel_rfl
@[go_sem] theorem fT164_0 : fieldT Try.prog 164 0 = some 3 := by kernel_rfl
@[go_sem] theorem fT164_1 : fieldT Try.prog 164 1 = some 3 := by kernel_rfl
@[go_sem] theorem fT164_2 : fieldT Try.prog 164 2 = some 3 := by kernel_rfl
@[go_sem] theorem fT165_0 : fieldT Try.prog 165 0 = some 3 := by kernel_rfl
@[go_sem] theorem fT165_1 : fieldT Try.prog 165 1 = some 3 := by kernel_rfl
@[go_sem] theorem fT165_2 : fieldT Try.prog 165 2 = some 3 := by kernel_rfl
@[go_sem] theorem fT173_0 : fieldT Try.prog 173 0 = some 17 := by kernel_rfl
@[go_sem] theorem fT173_1 : fieldT Try.prog 173 1 = some 17 := by kernel_rfl
@[go_sem] theorem fT173_2 : fieldT Try.prog 173 2 = some 17 := by kernel_rfl
@[go_sem] theorem fT173_3 : fieldT Try.prog 173 3 = some 9 := by kernel_rfl
@[go_sem] theorem fT174_0 : fieldT Try.prog 174 0 = some 17 := by kernel_rfl
@[go_sem] theorem fT174_1 : fieldT Try.prog 174 1 = some 17 := by kernel_rfl
@[go_sem] theorem fT174_2 : fieldT Try.prog 174 2 = some 17 := by kernel_rfl
@[go_sem] theorem fT174_3 : fieldT Try.prog 174 3 = some 9 := by kernel_rfl
@[go_sem] theorem fT176_0 : fieldT Try.prog 176 0 = some 175 := by kernel_rfl
@[go_sem] theorem fT177_0 : fieldT Try.prog 177 0 = some 175 := by kernel_rfl
@[go_sem] theorem fT185_0 : fieldT Try.prog 185 0 = some 12 := by kernel_rfl
@[go_sem] theorem fT185_1 : fieldT Try.prog 185 1 = some 12 := by kernel_rfl
@[go_sem] theorem fT185_2 : fieldT Try.prog 185 2 = some 178 := by kernel_rfl
@[go_sem] theorem fT185_3 : fieldT Try.prog 185 3 = some 179 := by kernel_rfl
@[go_sem] theorem fT185_4 : fieldT Try.prog 185 4 = some 5 := by kernel_rfl
@[go_sem] theorem fT185_5 : fieldT Try.prog 185 5 = some 5 := by kernel_rfl
@[go_sem] theorem fT185_6 : fieldT Try.prog 185 6 = some 180 := by kernel_rfl
@[go_sem] theorem fT185_7 : fieldT Try.prog 185 7 = some 181 := by kernel_rfl
@[go_sem] theorem fT185_8 : fieldT Try.prog 185 8 = some 182 := by kernel_rfl
@[go_sem] theorem fT185_9 : fieldT Try.prog 185 9 = some 183 := by kernel_rfl
@[go_sem] theorem fT185_10 : fieldT Try.prog 185 10 = some 184 := by kernel_rfl
@[go_sem] theorem fT186_0 : fieldT Try.prog 186 0 = some 12 := by kernel_rfl
@[go_sem] theorem fT186_1 : fieldT Try.prog 186 1 = some 12 := by kernel_rfl
@[go_sem] theorem fT186_2 : fieldT Try.prog 186 2 = some 178 := by kernel_rfl
@[go_sem] theorem fT186_3 : fieldT Try.prog 186 3 = some 179 := by kernel_rfl
@[go_sem] theorem fT186_4 : fieldT Try.prog 186 4 = some 5 := by kernel_rfl
@[go_sem] theorem fT186_5 : fieldT Try.prog 186 5 = some 5 := by kernel_rfl
@[go_sem] theorem fT186_6 : fieldT Try.prog 186 6 = some 180 := by kernel_rfl
@[go_sem] theorem fT186_7 : fieldT Try.prog 186 7 = some 181 := by kernel_rfl
@[go_sem] theorem fT186_8 : fieldT Try.prog 186 8 = some 182 := by kernel_rfl
@[go_sem] theorem fT186_9 : fieldT Try.prog 186 9 = some 183 := by kernel_rfl
@[go_sem] theorem fT186_10 : fieldT Try.prog 186 10 = some 184 := by kernel_rfl
@[go_sem] theorem underI2 : Try.prog.underlying 2 = some (.int .i64) := Try.underlying2
@[go_sem] theorem underI3 : Try.prog.underlying 3 = some (.int .i64) := Try.underlying3
@[go_sem] theorem underI5 : Try.prog.underlying 5 = some (.int .u8) := Try.underlying5
@[go_sem] theorem underI21 : Try.prog.underlying 21 = some (.int .i32) := Try.underlying21
@[go_sem] theorem underI107 : Try.prog.underlying 107 = some (.int .u64) := Try.underlying107
@[go_sem] theorem underStr : Try.prog.underlying 9 = some .string := Try.underlying9
@[go_sem] theorem underBool : Try.prog.underlying 4 = some .bool := Try.underlying4
end Go.Proofs.Ytmgckellncfjpaa
