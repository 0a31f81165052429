/- THE TYPES' ROWS (printed by a program of mine). -/
import Derived.Test.YtiidfcadmdahmaaG12
set_option linter.unusedSimpArgs false
set_option linter.unusedVariables false
namespace Go.Proofs.Ytiidfcadmdahmaa
open Go.RowKit
@[go_sem] theorem tI0 : tyI Try.prog 0 = some ⟨1, 0, false, [.tuple { toList := [] }], 0, 0, []⟩ := by kernel_rfl
@[go_sem] theorem tI1 : tyI Try.prog 1 = some ⟨1, 8, false, [.nilFunc], 0, 0, []⟩ := by kernel_rfl
@[go_sem] theorem tI2 : tyI Try.prog 2 = some ⟨1, 8, false, [.int .i64 0], 0, 0, []⟩ := by kernel_rfl
@[go_sem] theorem tI3 : tyI Try.prog 3 = some ⟨1, 8, false, [.int .i64 0], 0, 0, []⟩ := by kernel_rfl
@[go_sem] theorem tI4 : tyI Try.prog 4 = some ⟨1, 1, false, [.bool false], 0, 0, []⟩ := by kernel_rfl
@[go_sem] theorem tI5 : tyI Try.prog 5 = some ⟨1, 1, false, [.int .u8 0], 0, 0, []⟩ := by kernel_rfl
@[go_sem] theorem tI6 : tyI Try.prog 6 = some ⟨1, 1, false, [.int .u8 0], 0, 0, []⟩ := by kernel_rfl
@[go_sem] theorem tI7 : tyI Try.prog 7 = some ⟨4, 24, true, [.int .i64 0, .int .i64 0, .bool false, .int .u8 0], 3, 0, [(0, 1), (1, 1), (2, 1), (3, 1)]⟩ := by kernel_rfl
@[go_sem] theorem tI8 : tyI Try.prog 8 = some ⟨4, 24, true, [.int .i64 0, .int .i64 0, .bool false, .int .u8 0], 3, 0, [(0, 1), (1, 1), (2, 1), (3, 1)]⟩ := by kernel_rfl
@[go_sem] theorem tI9 : tyI Try.prog 9 = some ⟨1, 16, false, [.string { data := { toList := [] } }], 0, 0, []⟩ := by kernel_rfl
@[go_sem] theorem tI10 : tyI Try.prog 10 = some ⟨1, 16, false, [.string { data := { toList := [] } }], 0, 0, []⟩ := by kernel_rfl
@[go_sem] theorem tI11 : tyI Try.prog 11 = some ⟨1, 16, false, [.string { data := { toList := [] } }], 0, 0, []⟩ := by kernel_rfl
@[go_sem] theorem tI12 : tyI Try.prog 12 = some ⟨1, 8, false, [.int .u64 0], 0, 0, []⟩ := by kernel_rfl
@[go_sem] theorem tI13 : tyI Try.prog 13 = some ⟨2, 24, true, [.string { data := { toList := [] } }, .int .u64 0], 3, 0, [(0, 1), (1, 1)]⟩ := by kernel_rfl
@[go_sem] theorem tI14 : tyI Try.prog 14 = some ⟨2, 24, true, [.string { data := { toList := [] } }, .int .u64 0], 3, 0, [(0, 1), (1, 1)]⟩ := by kernel_rfl
@[go_sem] theorem tI15 : tyI Try.prog 15 = some ⟨1, 8, false, [.pointer none], 0, 148, []⟩ := by kernel_rfl
@[go_sem] theorem tI16 : tyI Try.prog 16 = some ⟨1, 8, false, [.pointer none], 0, 151, []⟩ := by kernel_rfl
@[go_sem] theorem tI17 : tyI Try.prog 17 = some ⟨1, 8, false, [.pointer none], 0, 160, []⟩ := by kernel_rfl
@[go_sem] theorem tI18 : tyI Try.prog 18 = some ⟨1, 8, true, [.pointer none], 3, 0, [(0, 1)]⟩ := by kernel_rfl
@[go_sem] theorem tI19 : tyI Try.prog 19 = some ⟨1, 8, true, [.pointer none], 3, 0, [(0, 1)]⟩ := by kernel_rfl
@[go_sem] theorem tI20 : tyI Try.prog 20 = some ⟨1, 16, false, [.nilIface], 0, 0, []⟩ := by kernel_rfl
@[go_sem] theorem tI21 : tyI Try.prog 21 = some ⟨1, 4, false, [.int .i32 0], 0, 0, []⟩ := by kernel_rfl
@[go_sem] theorem tI22 : tyI Try.prog 22 = some ⟨1, 24, false, [.slice none 0 0], 1, 41, []⟩ := by kernel_rfl
@[go_sem] theorem tI23 : tyI Try.prog 23 = some ⟨1, 8, false, [.nilFunc], 0, 0, []⟩ := by kernel_rfl
@[go_sem] theorem tI24 : tyI Try.prog 24 = some ⟨1, 8, false, [.nilFunc], 0, 0, []⟩ := by kernel_rfl
@[go_sem] theorem tI25 : tyI Try.prog 25 = some ⟨1, 8, false, [.nilFunc], 0, 0, []⟩ := by kernel_rfl
@[go_sem] theorem tI26 : tyI Try.prog 26 = some ⟨1, 8, false, [.nilFunc], 0, 0, []⟩ := by kernel_rfl
@[go_sem] theorem tI27 : tyI Try.prog 27 = some ⟨1, 24, false, [.slice none 0 0], 1, 3, []⟩ := by kernel_rfl
@[go_sem] theorem tI28 : tyI Try.prog 28 = some ⟨1, 8, false, [.nilFunc], 0, 0, []⟩ := by kernel_rfl
@[go_sem] theorem tI29 : tyI Try.prog 29 = some ⟨1, 8, false, [.nilFunc], 0, 0, []⟩ := by kernel_rfl
@[go_sem] theorem tI30 : tyI Try.prog 30 = some ⟨1, 24, false, [.slice none 0 0], 1, 37, []⟩ := by kernel_rfl
@[go_sem] theorem tI31 : tyI Try.prog 31 = some ⟨1, 8, false, [.nilFunc], 0, 0, []⟩ := by kernel_rfl
@[go_sem] theorem tI32 : tyI Try.prog 32 = some ⟨1, 8, false, [.nilFunc], 0, 0, []⟩ := by kernel_rfl
@[go_sem] theorem tI33 : tyI Try.prog 33 = some ⟨1, 8, false, [.nilFunc], 0, 0, []⟩ := by kernel_rfl
@[go_sem] theorem tI34 : tyI Try.prog 34 = some ⟨1, 8, false, [.nilFunc], 0, 0, []⟩ := by kernel_rfl
@[go_sem] theorem tI35 : tyI Try.prog 35 = some ⟨1, 8, false, [.nilFunc], 0, 0, []⟩ := by kernel_rfl
@[go_sem] theorem tI36 : tyI Try.prog 36 = some ⟨2, 16, true, [.int .i64 0, .int .i64 0], 3, 0, [(0, 1), (1, 1)]⟩ := by kernel_rfl
@[go_sem] theorem tI37 : tyI Try.prog 37 = some ⟨2, 16, true, [.int .i64 0, .int .i64 0], 3, 0, [(0, 1), (1, 1)]⟩ := by kernel_rfl
@[go_sem] theorem tI38 : tyI Try.prog 38 = some ⟨12, 96, true, [.int .i64 0, .int .i64 0, .int .i64 0, .int .i64 0, .int .i64 0, .int .i64 0, .int .i64 0, .int .i64 0, .int .i64 0, .int .i64 0, .int .i64 0, .int .i64 0], 3, 0, [(0, 1), (1, 1), (2, 1), (3, 1), (4, 1), (5, 1), (6, 1), (7, 1), (8, 1), (9, 1), (10, 1), (11, 1)]⟩ := by kernel_rfl
@[go_sem] theorem tI39 : tyI Try.prog 39 = some ⟨12, 96, true, [.int .i64 0, .int .i64 0, .int .i64 0, .int .i64 0, .int .i64 0, .int .i64 0, .int .i64 0, .int .i64 0, .int .i64 0, .int .i64 0, .int .i64 0, .int .i64 0], 3, 0, [(0, 1), (1, 1), (2, 1), (3, 1), (4, 1), (5, 1), (6, 1), (7, 1), (8, 1), (9, 1), (10, 1), (11, 1)]⟩ := by kernel_rfl
@[go_sem] theorem tI40 : tyI Try.prog 40 = some ⟨20, 176, true, [.int .i64 0, .int .i64 0, .int .i64 0, .int .i64 0, .int .i64 0, .int .i64 0, .int .i64 0, .int .i64 0, .int .i64 0, .int .i64 0, .int .i64 0, .int .i64 0, .int .i64 0, .int .i64 0, .int .i64 0, .int .i64 0, .slice none 0 0, .int .i64 0, .int .i64 0, .int .i64 0], 3, 0, [(0, 1), (1, 1), (2, 12), (14, 1), (15, 1), (16, 1), (17, 1), (18, 1), (19, 1)]⟩ := by kernel_rfl
@[go_sem] theorem tI41 : tyI Try.prog 41 = some ⟨20, 176, true, [.int .i64 0, .int .i64 0, .int .i64 0, .int .i64 0, .int .i64 0, .int .i64 0, .int .i64 0, .int .i64 0, .int .i64 0, .int .i64 0, .int .i64 0, .int .i64 0, .int .i64 0, .int .i64 0, .int .i64 0, .int .i64 0, .slice none 0 0, .int .i64 0, .int .i64 0, .int .i64 0], 3, 0, [(0, 1), (1, 1), (2, 12), (14, 1), (15, 1), (16, 1), (17, 1), (18, 1), (19, 1)]⟩ := by kernel_rfl
@[go_sem] theorem tI42 : tyI Try.prog 42 = some ⟨1, 8, false, [.nilFunc], 0, 0, []⟩ := by kernel_rfl
@[go_sem] theorem tI43 : tyI Try.prog 43 = some ⟨1, 8, false, [.nilFunc], 0, 0, []⟩ := by kernel_rfl
@[go_sem] theorem tI44 : tyI Try.prog 44 = some ⟨3, 40, true, [.slice none 0 0, .int .i64 0, .int .i64 0], 3, 0, [(0, 1), (1, 1), (2, 1)]⟩ := by kernel_rfl
@[go_sem] theorem tI45 : tyI Try.prog 45 = some ⟨3, 40, true, [.slice none 0 0, .int .i64 0, .int .i64 0], 3, 0, [(0, 1), (1, 1), (2, 1)]⟩ := by kernel_rfl
@[go_sem] theorem tI46 : tyI Try.prog 46 = some ⟨1, 8, false, [.nilFunc], 0, 0, []⟩ := by kernel_rfl
@[go_sem] theorem tI47 : tyI Try.prog 47 = some ⟨1, 24, false, [.slice none 0 0], 1, 50, []⟩ := by kernel_rfl
@[go_sem] theorem tI48 : tyI Try.prog 48 = some ⟨1, 24, false, [.slice none 0 0], 1, 57, []⟩ := by kernel_rfl
@[go_sem] theorem tI49 : tyI Try.prog 49 = some ⟨5, 88, true, [.int .i64 0, .int .i64 0, .slice none 0 0, .slice none 0 0, .slice none 0 0], 3, 0, [(0, 1), (1, 1), (2, 1), (3, 1), (4, 1)]⟩ := by kernel_rfl
@[go_sem] theorem tI50 : tyI Try.prog 50 = some ⟨5, 88, true, [.int .i64 0, .int .i64 0, .slice none 0 0, .slice none 0 0, .slice none 0 0], 3, 0, [(0, 1), (1, 1), (2, 1), (3, 1), (4, 1)]⟩ := by kernel_rfl
@[go_sem] theorem tI51 : tyI Try.prog 51 = some ⟨1, 8, false, [.nilFunc], 0, 0, []⟩ := by kernel_rfl
@[go_sem] theorem tI52 : tyI Try.prog 52 = some ⟨1, 8, false, [.nilFunc], 0, 0, []⟩ := by kernel_rfl
@[go_sem] theorem tI53 : tyI Try.prog 53 = some ⟨1, 8, false, [.nilFunc], 0, 0, []⟩ := by kernel_rfl
@[go_sem] theorem tI54 : tyI Try.prog 54 = some ⟨1, 24, false, [.slice none 0 0], 1, 79, []⟩ := by kernel_rfl
@[go_sem] theorem tI55 : tyI Try.prog 55 = some ⟨1, 8, false, [.nilFunc], 0, 0, []⟩ := by kernel_rfl
@[go_sem] theorem tI56 : tyI Try.prog 56 = some ⟨7, 56, true, [.int .i64 0, .int .i64 0, .int .i64 0, .int .i64 0, .int .i64 0, .int .i64 0, .int .i64 0], 3, 0, [(0, 1), (1, 1), (2, 1), (3, 1), (4, 1), (5, 1), (6, 1)]⟩ := by kernel_rfl
@[go_sem] theorem tI57 : tyI Try.prog 57 = some ⟨7, 56, true, [.int .i64 0, .int .i64 0, .int .i64 0, .int .i64 0, .int .i64 0, .int .i64 0, .int .i64 0], 3, 0, [(0, 1), (1, 1), (2, 1), (3, 1), (4, 1), (5, 1), (6, 1)]⟩ := by kernel_rfl
@[go_sem] theorem tI58 : tyI Try.prog 58 = some ⟨1, 8, false, [.nilFunc], 0, 0, []⟩ := by kernel_rfl
@[go_sem] theorem tI59 : tyI Try.prog 59 = some ⟨1, 8, false, [.nilFunc], 0, 0, []⟩ := by kernel_rfl
@[go_sem] theorem tI60 : tyI Try.prog 60 = some ⟨1, 8, false, [.int .i64 0], 0, 0, []⟩ := by kernel_rfl
@[go_sem] theorem tI61 : tyI Try.prog 61 = some ⟨1, 0, false, [.tuple { toList := [.slice none 0 0, .int .i64 0, .int .i64 0] }], 0, 0, []⟩ := by kernel_rfl
@[go_sem] theorem tI62 : tyI Try.prog 62 = some ⟨1, 8, false, [.nilFunc], 0, 0, []⟩ := by kernel_rfl
@[go_sem] theorem tI63 : tyI Try.prog 63 = some ⟨1, 8, false, [.nilFunc], 0, 0, []⟩ := by kernel_rfl
@[go_sem] theorem tI64 : tyI Try.prog 64 = some ⟨1, 8, false, [.nilFunc], 0, 0, []⟩ := by kernel_rfl
@[go_sem] theorem tI65 : tyI Try.prog 65 = some ⟨1, 24, false, [.slice none 0 0], 1, 41, []⟩ := by kernel_rfl
@[go_sem] theorem tI66 : tyI Try.prog 66 = some ⟨1, 24, true, [.slice none 0 0], 3, 0, [(0, 1)]⟩ := by kernel_rfl
@[go_sem] theorem tI67 : tyI Try.prog 67 = some ⟨1, 24, true, [.slice none 0 0], 3, 0, [(0, 1)]⟩ := by kernel_rfl
@[go_sem] theorem tI68 : tyI Try.prog 68 = some ⟨1, 8, false, [.nilFunc], 0, 0, []⟩ := by kernel_rfl
@[go_sem] theorem tI69 : tyI Try.prog 69 = some ⟨1, 8, false, [.nilFunc], 0, 0, []⟩ := by kernel_rfl
@[go_sem] theorem tI70 : tyI Try.prog 70 = some ⟨1, 8, false, [.nilFunc], 0, 0, []⟩ := by kernel_rfl
@[go_sem] theorem tI71 : tyI Try.prog 71 = some ⟨1, 8, false, [.nilFunc], 0, 0, []⟩ := by kernel_rfl
@[go_sem] theorem tI72 : tyI Try.prog 72 = some ⟨1, 8, false, [.nilFunc], 0, 0, []⟩ := by kernel_rfl
@[go_sem] theorem tI73 : tyI Try.prog 73 = some ⟨1, 8, false, [.nilFunc], 0, 0, []⟩ := by kernel_rfl
@[go_sem] theorem tI74 : tyI Try.prog 74 = some ⟨1, 8, false, [.nilFunc], 0, 0, []⟩ := by kernel_rfl
@[go_sem] theorem tI75 : tyI Try.prog 75 = some ⟨1, 8, false, [.nilFunc], 0, 0, []⟩ := by kernel_rfl
@[go_sem] theorem tI76 : tyI Try.prog 76 = some ⟨1, 8, false, [.nilFunc], 0, 0, []⟩ := by kernel_rfl
@[go_sem] theorem tI77 : tyI Try.prog 77 = some ⟨1, 8, false, [.nilFunc], 0, 0, []⟩ := by kernel_rfl
@[go_sem] theorem tI78 : tyI Try.prog 78 = some ⟨6, 48, true, [.int .i64 0, .int .i64 0, .int .i64 0, .int .i64 0, .int .i64 0, .int .i64 0], 3, 0, [(0, 1), (1, 1), (2, 1), (3, 1), (4, 1), (5, 1)]⟩ := by kernel_rfl
@[go_sem] theorem tI79 : tyI Try.prog 79 = some ⟨6, 48, true, [.int .i64 0, .int .i64 0, .int .i64 0, .int .i64 0, .int .i64 0, .int .i64 0], 3, 0, [(0, 1), (1, 1), (2, 1), (3, 1), (4, 1), (5, 1)]⟩ := by kernel_rfl
@[go_sem] theorem tI80 : tyI Try.prog 80 = some ⟨1, 8, false, [.nilFunc], 0, 0, []⟩ := by kernel_rfl
@[go_sem] theorem tI81 : tyI Try.prog 81 = some ⟨1, 8, false, [.nilFunc], 0, 0, []⟩ := by kernel_rfl
@[go_sem] theorem tI82 : tyI Try.prog 82 = some ⟨4, 32, true, [.int .i64 0, .int .i64 0, .int .i64 0, .int .i64 0], 3, 0, [(0, 1), (1, 1), (2, 1), (3, 1)]⟩ := by kernel_rfl
@[go_sem] theorem tI83 : tyI Try.prog 83 = some ⟨4, 32, true, [.int .i64 0, .int .i64 0, .int .i64 0, .int .i64 0], 3, 0, [(0, 1), (1, 1), (2, 1), (3, 1)]⟩ := by kernel_rfl
@[go_sem] theorem tI84 : tyI Try.prog 84 = some ⟨2, 48, true, [.slice none 0 0, .slice none 0 0], 3, 0, [(0, 1), (1, 1)]⟩ := by kernel_rfl
@[go_sem] theorem tI85 : tyI Try.prog 85 = some ⟨2, 48, true, [.slice none 0 0, .slice none 0 0], 3, 0, [(0, 1), (1, 1)]⟩ := by kernel_rfl
@[go_sem] theorem tI86 : tyI Try.prog 86 = some ⟨1, 8, false, [.nilFunc], 0, 0, []⟩ := by kernel_rfl
@[go_sem] theorem tI87 : tyI Try.prog 87 = some ⟨1, 8, false, [.nilFunc], 0, 0, []⟩ := by kernel_rfl
@[go_sem] theorem tI88 : tyI Try.prog 88 = some ⟨1, 8, false, [.nilFunc], 0, 0, []⟩ := by kernel_rfl
@[go_sem] theorem tI89 : tyI Try.prog 89 = some ⟨1, 8, false, [.nilFunc], 0, 0, []⟩ := by kernel_rfl
@[go_sem] theorem tI90 : tyI Try.prog 90 = some ⟨1, 24, false, [.slice none 0 0], 1, 83, []⟩ := by kernel_rfl
@[go_sem] theorem tI91 : tyI Try.prog 91 = some ⟨1, 8, false, [.nilFunc], 0, 0, []⟩ := by kernel_rfl
@[go_sem] theorem tI92 : tyI Try.prog 92 = some ⟨3, 72, true, [.slice none 0 0, .slice none 0 0, .slice none 0 0], 3, 0, [(0, 2), (2, 1)]⟩ := by kernel_rfl
@[go_sem] theorem tI93 : tyI Try.prog 93 = some ⟨3, 72, true, [.slice none 0 0, .slice none 0 0, .slice none 0 0], 3, 0, [(0, 2), (2, 1)]⟩ := by kernel_rfl
@[go_sem] theorem tI94 : tyI Try.prog 94 = some ⟨1, 8, false, [.nilFunc], 0, 0, []⟩ := by kernel_rfl
@[go_sem] theorem tI95 : tyI Try.prog 95 = some ⟨1, 8, false, [.nilFunc], 0, 0, []⟩ := by kernel_rfl
@[go_sem] theorem tI96 : tyI Try.prog 96 = some ⟨1, 24, false, [.slice none 0 0], 1, 103, []⟩ := by kernel_rfl
@[go_sem] theorem tI97 : tyI Try.prog 97 = some ⟨1, 0, false, [.tuple { toList := [.slice none 0 0, .int .i64 0, .int .i64 0] }], 0, 0, []⟩ := by kernel_rfl
@[go_sem] theorem tI98 : tyI Try.prog 98 = some ⟨1, 8, false, [.nilFunc], 0, 0, []⟩ := by kernel_rfl
@[go_sem] theorem tI99 : tyI Try.prog 99 = some ⟨3, 40, true, [.slice none 0 0, .int .i64 0, .int .i64 0], 3, 0, [(0, 1), (1, 1), (2, 1)]⟩ := by kernel_rfl
@[go_sem] theorem tI100 : tyI Try.prog 100 = some ⟨3, 40, true, [.slice none 0 0, .int .i64 0, .int .i64 0], 3, 0, [(0, 1), (1, 1), (2, 1)]⟩ := by kernel_rfl
@[go_sem] theorem tI101 : tyI Try.prog 101 = some ⟨1, 8, false, [.nilFunc], 0, 0, []⟩ := by kernel_rfl
@[go_sem] theorem tI102 : tyI Try.prog 102 = some ⟨4, 32, true, [.int .i64 0, .int .i32 0, .int .i64 0, .int .i64 0], 3, 0, [(0, 1), (1, 1), (2, 1), (3, 1)]⟩ := by kernel_rfl
@[go_sem] theorem tI103 : tyI Try.prog 103 = some ⟨4, 32, true, [.int .i64 0, .int .i32 0, .int .i64 0, .int .i64 0], 3, 0, [(0, 1), (1, 1), (2, 1), (3, 1)]⟩ := by kernel_rfl
@[go_sem] theorem tI104 : tyI Try.prog 104 = some ⟨1, 8, false, [.nilFunc], 0, 0, []⟩ := by kernel_rfl
@[go_sem] theorem tI105 : tyI Try.prog 105 = some ⟨1, 8, false, [.nilFunc], 0, 0, []⟩ := by kernel_rfl
@[go_sem] theorem tI106 : tyI Try.prog 106 = some ⟨1, 8, false, [.nilFunc], 0, 0, []⟩ := by kernel_rfl
@[go_sem] theorem tI107 : tyI Try.prog 107 = some ⟨1, 8, false, [.nilFunc], 0, 0, []⟩ := by kernel_rfl
@[go_sem] theorem tI108 : tyI Try.prog 108 = some ⟨2, 16, true, [.int .i64 0, .int .i64 0], 3, 0, [(0, 1), (1, 1)]⟩ := by kernel_rfl
@[go_sem] theorem tI109 : tyI Try.prog 109 = some ⟨2, 16, true, [.int .i64 0, .int .i64 0], 3, 0, [(0, 1), (1, 1)]⟩ := by kernel_rfl
@[go_sem] theorem tI110 : tyI Try.prog 110 = some ⟨1, 8, false, [.nilFunc], 0, 0, []⟩ := by kernel_rfl
@[go_sem] theorem tI111 : tyI Try.prog 111 = some ⟨3, 40, true, [.slice none 0 0, .int .i64 0, .int .i64 0], 3, 0, [(0, 3)]⟩ := by kernel_rfl
@[go_sem] theorem tI112 : tyI Try.prog 112 = some ⟨3, 40, true, [.slice none 0 0, .int .i64 0, .int .i64 0], 3, 0, [(0, 3)]⟩ := by kernel_rfl
@[go_sem] theorem tI113 : tyI Try.prog 113 = some ⟨1, 8, false, [.nilFunc], 0, 0, []⟩ := by kernel_rfl
@[go_sem] theorem tI114 : tyI Try.prog 114 = some ⟨1, 8, false, [.nilFunc], 0, 0, []⟩ := by kernel_rfl
@[go_sem] theorem tI115 : tyI Try.prog 115 = some ⟨1, 8, false, [.nilFunc], 0, 0, []⟩ := by kernel_rfl
@[go_sem] theorem tI116 : tyI Try.prog 116 = some ⟨1, 8, false, [.nilFunc], 0, 0, []⟩ := by kernel_rfl
@[go_sem] theorem tI117 : tyI Try.prog 117 = some ⟨1, 8, false, [.nilFunc], 0, 0, []⟩ := by kernel_rfl
@[go_sem] theorem tI118 : tyI Try.prog 118 = some ⟨1, 8, false, [.pointer none], 0, 93, []⟩ := by kernel_rfl
@[go_sem] theorem tI119 : tyI Try.prog 119 = some ⟨1, 8, false, [.nilFunc], 0, 0, []⟩ := by kernel_rfl
@[go_sem] theorem tI120 : tyI Try.prog 120 = some ⟨1, 8, false, [.nilFunc], 0, 0, []⟩ := by kernel_rfl
@[go_sem] theorem tI121 : tyI Try.prog 121 = some ⟨1, 8, false, [.nilFunc], 0, 0, []⟩ := by kernel_rfl
@[go_sem] theorem tI122 : tyI Try.prog 122 = some ⟨1, 8, false, [.nilFunc], 0, 0, []⟩ := by kernel_rfl
@[go_sem] theorem tI123 : tyI Try.prog 123 = some ⟨1, 8, false, [.nilFunc], 0, 0, []⟩ := by kernel_rfl
@[go_sem] theorem tI124 : tyI Try.prog 124 = some ⟨1, 8, false, [.nilFunc], 0, 0, []⟩ := by kernel_rfl
@[go_sem] theorem tI125 : tyI Try.prog 125 = some ⟨1, 8, false, [.nilFunc], 0, 0, []⟩ := by kernel_rfl
@[go_sem] theorem tI126 : tyI Try.prog 126 = some ⟨1, 8, false, [.pointer none], 0, 112, []⟩ := by kernel_rfl
@[go_sem] theorem tI127 : tyI Try.prog 127 = some ⟨1, 8, false, [.nilFunc], 0, 0, []⟩ := by kernel_rfl
@[go_sem] theorem tI128 : tyI Try.prog 128 = some ⟨1, 8, false, [.nilFunc], 0, 0, []⟩ := by kernel_rfl
@[go_sem] theorem tI129 : tyI Try.prog 129 = some ⟨1, 8, false, [.nilFunc], 0, 0, []⟩ := by kernel_rfl
@[go_sem] theorem tI130 : tyI Try.prog 130 = some ⟨1, 8, false, [.nilFunc], 0, 0, []⟩ := by kernel_rfl
@[go_sem] theorem tI131 : tyI Try.prog 131 = some ⟨1, 24, false, [.slice none 0 0], 1, 133, []⟩ := by kernel_rfl
@[go_sem] theorem tI132 : tyI Try.prog 132 = some ⟨2, 16, true, [.int .i64 0, .int .i64 0], 3, 0, [(0, 1), (1, 1)]⟩ := by kernel_rfl
@[go_sem] theorem tI133 : tyI Try.prog 133 = some ⟨2, 16, true, [.int .i64 0, .int .i64 0], 3, 0, [(0, 1), (1, 1)]⟩ := by kernel_rfl
@[go_sem] theorem tI134 : tyI Try.prog 134 = some ⟨1, 8, false, [.nilFunc], 0, 0, []⟩ := by kernel_rfl
@[go_sem] theorem tI135 : tyI Try.prog 135 = some ⟨1, 8, false, [.nilFunc], 0, 0, []⟩ := by kernel_rfl
@[go_sem] theorem tI136 : tyI Try.prog 136 = some ⟨1, 8, false, [.nilFunc], 0, 0, []⟩ := by kernel_rfl
@[go_sem] theorem tI137 : tyI Try.prog 137 = some ⟨1, 8, false, [.nilFunc], 0, 0, []⟩ := by kernel_rfl
@[go_sem] theorem tI138 : tyI Try.prog 138 = some ⟨1, 0, false, [.tuple { toList := [.int .i64 0, .int .i64 0] }], 0, 0, []⟩ := by kernel_rfl
@[go_sem] theorem tI139 : tyI Try.prog 139 = some ⟨1, 8, false, [.nilFunc], 0, 0, []⟩ := by kernel_rfl
@[go_sem] theorem tI140 : tyI Try.prog 140 = some ⟨1, 8, false, [.nilFunc], 0, 0, []⟩ := by kernel_rfl
@[go_sem] theorem tI141 : tyI Try.prog 141 = some ⟨1, 8, false, [.nilFunc], 0, 0, []⟩ := by kernel_rfl
@[go_sem] theorem tI142 : tyI Try.prog 142 = some ⟨1, 24, false, [.slice none 0 0], 1, 5, []⟩ := by kernel_rfl
@[go_sem] theorem tI143 : tyI Try.prog 143 = some ⟨1, 8, false, [.nilFunc], 0, 0, []⟩ := by kernel_rfl
@[go_sem] theorem tI144 : tyI Try.prog 144 = some ⟨1, 8, false, [.nilFunc], 0, 0, []⟩ := by kernel_rfl
@[go_sem] theorem tI145 : tyI Try.prog 145 = some ⟨1, 8, false, [.nilFunc], 0, 0, []⟩ := by kernel_rfl
@[go_sem] theorem tI146 : tyI Try.prog 146 = some ⟨1, 8, false, [.nilFunc], 0, 0, []⟩ := by kernel_rfl
@[go_sem] theorem tI147 : tyI Try.prog 147 = some ⟨4, 40, true, [.pointer none, .pointer none, .pointer none, .string { data := { toList := [] } }], 3, 0, [(0, 1), (1, 1), (2, 1), (3, 1)]⟩ := by kernel_rfl
@[go_sem] theorem tI148 : tyI Try.prog 148 = some ⟨4, 40, true, [.pointer none, .pointer none, .pointer none, .string { data := { toList := [] } }], 3, 0, [(0, 1), (1, 1), (2, 1), (3, 1)]⟩ := by kernel_rfl
@[go_sem] theorem tI149 : tyI Try.prog 149 = some ⟨0, 0, true, [], 2, 16, [(0, 1)]⟩ := by kernel_rfl
@[go_sem] theorem tI150 : tyI Try.prog 150 = some ⟨0, 0, true, [], 3, 0, [(0, 0)]⟩ := by kernel_rfl
@[go_sem] theorem tI151 : tyI Try.prog 151 = some ⟨0, 0, true, [], 3, 0, [(0, 0)]⟩ := by kernel_rfl
@[go_sem] theorem tI152 : tyI Try.prog 152 = some ⟨1, 4, false, [.int .u32 0], 0, 0, []⟩ := by kernel_rfl
@[go_sem] theorem tI153 : tyI Try.prog 153 = some ⟨1, 1, false, [.int .u8 0], 0, 0, []⟩ := by kernel_rfl
@[go_sem] theorem tI154 : tyI Try.prog 154 = some ⟨1, 1, false, [.int .u8 0], 0, 0, []⟩ := by kernel_rfl
@[go_sem] theorem tI155 : tyI Try.prog 155 = some ⟨1, 8, false, [.nilFunc], 0, 0, []⟩ := by kernel_rfl
@[go_sem] theorem tI156 : tyI Try.prog 156 = some ⟨1, 8, false, [.pointer none], 0, 5, []⟩ := by kernel_rfl
@[go_sem] theorem tI157 : tyI Try.prog 157 = some ⟨1, 4, false, [.int .i32 0], 0, 0, []⟩ := by kernel_rfl
@[go_sem] theorem tI158 : tyI Try.prog 158 = some ⟨1, 4, false, [.int .i32 0], 0, 0, []⟩ := by kernel_rfl
@[go_sem] theorem tI159 : tyI Try.prog 159 = some ⟨11, 48, true, [.int .u64 0, .int .u64 0, .int .u32 0, .int .u8 0, .int .u8 0, .int .u8 0, .int .u8 0, .nilFunc, .pointer none, .int .i32 0, .int .i32 0], 3, 0, [(0, 1), (1, 1), (2, 1), (3, 1), (4, 1), (5, 1), (6, 1), (7, 1), (8, 1), (9, 1), (10, 1)]⟩ := by kernel_rfl
@[go_sem] theorem tI160 : tyI Try.prog 160 = some ⟨11, 48, true, [.int .u64 0, .int .u64 0, .int .u32 0, .int .u8 0, .int .u8 0, .int .u8 0, .int .u8 0, .nilFunc, .pointer none, .int .i32 0, .int .i32 0], 3, 0, [(0, 1), (1, 1), (2, 1), (3, 1), (4, 1), (5, 1), (6, 1), (7, 1), (8, 1), (9, 1), (10, 1)]⟩ := by kernel_rfl
@[go_sem] theorem tI161 : tyI Try.prog 161 = some ⟨1, 8, false, [.pointer none], 0, 0, []⟩ := by kernel_rfl
@[go_sem] theorem fK7 : flatK Try.prog 7 = some [true, true, false, true] := by kernel_rfl
@[go_sem] theorem fK8 : flatK Try.prog 8 = some [true, true, false, true] := by kernel_rfl
@[go_sem] theorem fK36 : flatK Try.prog 36 = some [true, true] := by kernel_rfl
@[go_sem] theorem fK37 : flatK Try.prog 37 = some [true, true] := by kernel_rfl
@[go_sem] theorem fK38 : flatK Try.prog 38 = some [true, true, true, true, true, true, true, true, true, true, true, true] := by kernel_rfl
@[go_sem] theorem fK39 : flatK Try.prog 39 = some [true, true, true, true, true, true, true, true, true, true, true, true] := by kernel_rfl
@[go_sem] theorem fK56 : flatK Try.prog 56 = some [true, true, true, true, true, true, true] := by kernel_rfl
@[go_sem] theorem fK57 : flatK Try.prog 57 = some [true, true, true, true, true, true, true] := by kernel_rfl
@[go_sem] theorem fK78 : flatK Try.prog 78 = some [true, true, true, true, true, true] := by kernel_rfl
@[go_sem] theorem fK79 : flatK Try.prog 79 = some [true, true, true, true, true, true] := by kernel_rfl
@[go_sem] theorem fK82 : flatK Try.prog 82 = some [true, true, true, true] := by kernel_rfl
@[go_sem] theorem fK83 : flatK Try.prog 83 = some [true, true, true, true] := by kernel_rfl
@[go_sem] theorem fK102 : flatK Try.prog 102 = some [true, true, true, true] := by kernel_rfl
@[go_sem] theorem fK103 : flatK Try.prog 103 = some [true, true, true, true] := by kernel_rfl
@[go_sem] theorem fK108 : flatK Try.prog 108 = some [true, true] := by kernel_rfl
@[go_sem] theorem fK109 : flatK Try.prog 109 = some [true, true] := by kernel_rfl
@[go_sem] theorem fK132 : flatK Try.prog 132 = some [true, true] := by kernel_rfl
@[go_sem] theorem fK133 : flatK Try.prog 133 = some [true, true] := by kernel_rfl
@[go_sem] theorem aR149 : arrOf Try.prog 149 = some (0, 1) := by kernel_rfl
@[go_sem] theorem rT0 : rowsTy Try.prog 0 = [] := by kernel_rfl
@[go_sem] theorem rT1 : rowsTy Try.prog 1 = [] := by kernel_rfl
@[go_sem] theorem rT2 : rowsTy Try.prog 2 = [] := by kernel_rfl
@[go_sem] theorem rT3 : rowsTy Try.prog 3 = [] := by kernel_rfl
@[go_sem] theorem rT4 : rowsTy Try.prog 4 = [] := by kernel_rfl
@[go_sem] theorem rT5 : rowsTy Try.prog 5 = [] := by kernel_rfl
@[go_sem] theorem rT6 : rowsTy Try.prog 6 = [] := by kernel_rfl
@[go_sem] theorem rT7 : rowsTy Try.prog 7 = [] := by kernel_rfl
@[go_sem] theorem rT8 : rowsTy Try.prog 8 = [] := by kernel_rfl
@[go_sem] theorem rT9 : rowsTy Try.prog 9 = [] := by kernel_rfl
@[go_sem] theorem rT10 : rowsTy Try.prog 10 = [] := by kernel_rfl
@[go_sem] theorem rT11 : rowsTy Try.prog 11 = [] := by kernel_rfl
@[go_sem] theorem rT12 : rowsTy Try.prog 12 = [] := by kernel_rfl
@[go_sem] theorem rT13 : rowsTy Try.prog 13 = [] := by kernel_rfl
@[go_sem] theorem rT14 : rowsTy Try.prog 14 = [] := by kernel_rfl
@[go_sem] theorem rT15 : rowsTy Try.prog 15 = [] := by kernel_rfl
@[go_sem] theorem rT16 : rowsTy Try.prog 16 = [] := by kernel_rfl
@[go_sem] theorem rT17 : rowsTy Try.prog 17 = [] := by kernel_rfl
@[go_sem] theorem rT18 : rowsTy Try.prog 18 = [] := by kernel_rfl
@[go_sem] theorem rT19 : rowsTy Try.prog 19 = [] := by kernel_rfl
@[go_sem] theorem rT20 : rowsTy Try.prog 20 = [] := by kernel_rfl
@[go_sem] theorem rT21 : rowsTy Try.prog 21 = [] := by kernel_rfl
@[go_sem] theorem rT22 : rowsTy Try.prog 22 = [some (41, 20)] := by kernel_rfl
@[go_sem] theorem rT23 : rowsTy Try.prog 23 = [] := by kernel_rfl
@[go_sem] theorem rT24 : rowsTy Try.prog 24 = [] := by kernel_rfl
@[go_sem] theorem rT25 : rowsTy Try.prog 25 = [] := by kernel_rfl
@[go_sem] theorem rT26 : rowsTy Try.prog 26 = [] := by kernel_rfl
@[go_sem] theorem rT27 : rowsTy Try.prog 27 = [some (3, 1)] := by kernel_rfl
@[go_sem] theorem rT28 : rowsTy Try.prog 28 = [] := by kernel_rfl
@[go_sem] theorem rT29 : rowsTy Try.prog 29 = [] := by kernel_rfl
@[go_sem] theorem rT30 : rowsTy Try.prog 30 = [some (37, 2)] := by kernel_rfl
@[go_sem] theorem rT31 : rowsTy Try.prog 31 = [] := by kernel_rfl
@[go_sem] theorem rT32 : rowsTy Try.prog 32 = [] := by kernel_rfl
@[go_sem] theorem rT33 : rowsTy Try.prog 33 = [] := by kernel_rfl
@[go_sem] theorem rT34 : rowsTy Try.prog 34 = [] := by kernel_rfl
@[go_sem] theorem rT35 : rowsTy Try.prog 35 = [] := by kernel_rfl
@[go_sem] theorem rT36 : rowsTy Try.prog 36 = [] := by kernel_rfl
@[go_sem] theorem rT37 : rowsTy Try.prog 37 = [] := by kernel_rfl
@[go_sem] theorem rT38 : rowsTy Try.prog 38 = [] := by kernel_rfl
@[go_sem] theorem rT39 : rowsTy Try.prog 39 = [] := by kernel_rfl
@[go_sem] theorem rT40 : rowsTy Try.prog 40 = [none, none, none, none, none, none, none, none, none, none, none, none, none, none, none, none, some (3, 1), none, none, none] := by kernel_rfl
@[go_sem] theorem rT41 : rowsTy Try.prog 41 = [none, none, none, none, none, none, none, none, none, none, none, none, none, none, none, none, some (3, 1), none, none, none] := by kernel_rfl
@[go_sem] theorem rT42 : rowsTy Try.prog 42 = [] := by kernel_rfl
@[go_sem] theorem rT43 : rowsTy Try.prog 43 = [] := by kernel_rfl
@[go_sem] theorem rT44 : rowsTy Try.prog 44 = [some (3, 1), none, none] := by kernel_rfl
@[go_sem] theorem rT45 : rowsTy Try.prog 45 = [some (3, 1), none, none] := by kernel_rfl
@[go_sem] theorem rT46 : rowsTy Try.prog 46 = [] := by kernel_rfl
@[go_sem] theorem rT47 : rowsTy Try.prog 47 = [some (50, 5)] := by kernel_rfl
@[go_sem] theorem rT48 : rowsTy Try.prog 48 = [some (57, 7)] := by kernel_rfl
@[go_sem] theorem rT49 : rowsTy Try.prog 49 = [none, none, some (57, 7), some (57, 7), some (57, 7)] := by kernel_rfl
@[go_sem] theorem rT50 : rowsTy Try.prog 50 = [none, none, some (57, 7), some (57, 7), some (57, 7)] := by kernel_rfl
@[go_sem] theorem rT51 : rowsTy Try.prog 51 = [] := by kernel_rfl
@[go_sem] theorem rT52 : rowsTy Try.prog 52 = [] := by kernel_rfl
@[go_sem] theorem rT53 : rowsTy Try.prog 53 = [] := by kernel_rfl
@[go_sem] theorem rT54 : rowsTy Try.prog 54 = [some (79, 6)] := by kernel_rfl
@[go_sem] theorem rT55 : rowsTy Try.prog 55 = [] := by kernel_rfl
@[go_sem] theorem rT56 : rowsTy Try.prog 56 = [] := by kernel_rfl
@[go_sem] theorem rT57 : rowsTy Try.prog 57 = [] := by kernel_rfl
@[go_sem] theorem rT58 : rowsTy Try.prog 58 = [] := by kernel_rfl
@[go_sem] theorem rT59 : rowsTy Try.prog 59 = [] := by kernel_rfl
@[go_sem] theorem rT60 : rowsTy Try.prog 60 = [] := by kernel_rfl
@[go_sem] theorem rT61 : rowsTy Try.prog 61 = [] := by kernel_rfl
@[go_sem] theorem rT62 : rowsTy Try.prog 62 = [] := by kernel_rfl
@[go_sem] theorem rT63 : rowsTy Try.prog 63 = [] := by kernel_rfl
@[go_sem] theorem rT64 : rowsTy Try.prog 64 = [] := by kernel_rfl
@[go_sem] theorem rT65 : rowsTy Try.prog 65 = [some (41, 20)] := by kernel_rfl
@[go_sem] theorem rT66 : rowsTy Try.prog 66 = [some (41, 20)] := by kernel_rfl
@[go_sem] theorem rT67 : rowsTy Try.prog 67 = [some (41, 20)] := by kernel_rfl
@[go_sem] theorem rT68 : rowsTy Try.prog 68 = [] := by kernel_rfl
@[go_sem] theorem rT69 : rowsTy Try.prog 69 = [] := by kernel_rfl
@[go_sem] theorem rT70 : rowsTy Try.prog 70 = [] := by kernel_rfl
@[go_sem] theorem rT71 : rowsTy Try.prog 71 = [] := by kernel_rfl
@[go_sem] theorem rT72 : rowsTy Try.prog 72 = [] := by kernel_rfl
@[go_sem] theorem rT73 : rowsTy Try.prog 73 = [] := by kernel_rfl
@[go_sem] theorem rT74 : rowsTy Try.prog 74 = [] := by kernel_rfl
@[go_sem] theorem rT75 : rowsTy Try.prog 75 = [] := by kernel_rfl
@[go_sem] theorem rT76 : rowsTy Try.prog 76 = [] := by kernel_rfl
@[go_sem] theorem rT77 : rowsTy Try.prog 77 = [] := by kernel_rfl
@[go_sem] theorem rT78 : rowsTy Try.prog 78 = [] := by kernel_rfl
@[go_sem] theorem rT79 : rowsTy Try.prog 79 = [] := by kernel_rfl
@[go_sem] theorem rT80 : rowsTy Try.prog 80 = [] := by kernel_rfl
@[go_sem] theorem rT81 : rowsTy Try.prog 81 = [] := by kernel_rfl
@[go_sem] theorem rT82 : rowsTy Try.prog 82 = [] := by kernel_rfl
@[go_sem] theorem rT83 : rowsTy Try.prog 83 = [] := by kernel_rfl
@[go_sem] theorem rT84 : rowsTy Try.prog 84 = [some (41, 20), some (57, 7)] := by kernel_rfl
@[go_sem] theorem rT85 : rowsTy Try.prog 85 = [some (41, 20), some (57, 7)] := by kernel_rfl
@[go_sem] theorem rT86 : rowsTy Try.prog 86 = [] := by kernel_rfl
@[go_sem] theorem rT87 : rowsTy Try.prog 87 = [] := by kernel_rfl
@[go_sem] theorem rT88 : rowsTy Try.prog 88 = [] := by kernel_rfl
@[go_sem] theorem rT89 : rowsTy Try.prog 89 = [] := by kernel_rfl
@[go_sem] theorem rT90 : rowsTy Try.prog 90 = [some (83, 4)] := by kernel_rfl
@[go_sem] theorem rT91 : rowsTy Try.prog 91 = [] := by kernel_rfl
@[go_sem] theorem rT92 : rowsTy Try.prog 92 = [some (41, 20), some (57, 7), some (79, 6)] := by kernel_rfl
@[go_sem] theorem rT93 : rowsTy Try.prog 93 = [some (41, 20), some (57, 7), some (79, 6)] := by kernel_rfl
@[go_sem] theorem rT94 : rowsTy Try.prog 94 = [] := by kernel_rfl
@[go_sem] theorem rT95 : rowsTy Try.prog 95 = [] := by kernel_rfl
@[go_sem] theorem rT96 : rowsTy Try.prog 96 = [some (103, 4)] := by kernel_rfl
@[go_sem] theorem rT97 : rowsTy Try.prog 97 = [] := by kernel_rfl
@[go_sem] theorem rT98 : rowsTy Try.prog 98 = [] := by kernel_rfl
@[go_sem] theorem rT99 : rowsTy Try.prog 99 = [some (41, 20), none, none] := by kernel_rfl
@[go_sem] theorem rT100 : rowsTy Try.prog 100 = [some (41, 20), none, none] := by kernel_rfl
@[go_sem] theorem rT101 : rowsTy Try.prog 101 = [] := by kernel_rfl
@[go_sem] theorem rT102 : rowsTy Try.prog 102 = [] := by kernel_rfl
@[go_sem] theorem rT103 : rowsTy Try.prog 103 = [] := by kernel_rfl
@[go_sem] theorem rT104 : rowsTy Try.prog 104 = [] := by kernel_rfl
@[go_sem] theorem rT105 : rowsTy Try.prog 105 = [] := by kernel_rfl
@[go_sem] theorem rT106 : rowsTy Try.prog 106 = [] := by kernel_rfl
@[go_sem] theorem rT107 : rowsTy Try.prog 107 = [] := by kernel_rfl
@[go_sem] theorem rT108 : rowsTy Try.prog 108 = [] := by kernel_rfl
@[go_sem] theorem rT109 : rowsTy Try.prog 109 = [] := by kernel_rfl
@[go_sem] theorem rT110 : rowsTy Try.prog 110 = [] := by kernel_rfl
@[go_sem] theorem rT111 : rowsTy Try.prog 111 = [some (3, 1), none, none] := by kernel_rfl
@[go_sem] theorem rT112 : rowsTy Try.prog 112 = [some (3, 1), none, none] := by kernel_rfl
@[go_sem] theorem rT113 : rowsTy Try.prog 113 = [] := by kernel_rfl
@[go_sem] theorem rT114 : rowsTy Try.prog 114 = [] := by kernel_rfl
@[go_sem] theorem rT115 : rowsTy Try.prog 115 = [] := by kernel_rfl
@[go_sem] theorem rT116 : rowsTy Try.prog 116 = [] := by kernel_rfl
@[go_sem] theorem rT117 : rowsTy Try.prog 117 = [] := by kernel_rfl
@[go_sem] theorem rT118 : rowsTy Try.prog 118 = [] := by kernel_rfl
@[go_sem] theorem rT119 : rowsTy Try.prog 119 = [] := by kernel_rfl
@[go_sem] theorem rT120 : rowsTy Try.prog 120 = [] := by kernel_rfl
@[go_sem] theorem rT121 : rowsTy Try.prog 121 = [] := by kernel_rfl
@[go_sem] theorem rT122 : rowsTy Try.prog 122 = [] := by kernel_rfl
@[go_sem] theorem rT123 : rowsTy Try.prog 123 = [] := by kernel_rfl
@[go_sem] theorem rT124 : rowsTy Try.prog 124 = [] := by kernel_rfl
@[go_sem] theorem rT125 : rowsTy Try.prog 125 = [] := by kernel_rfl
@[go_sem] theorem rT126 : rowsTy Try.prog 126 = [] := by kernel_rfl
@[go_sem] theorem rT127 : rowsTy Try.prog 127 = [] := by kernel_rfl
@[go_sem] theorem rT128 : rowsTy Try.prog 128 = [] := by kernel_rfl
@[go_sem] theorem rT129 : rowsTy Try.prog 129 = [] := by kernel_rfl
@[go_sem] theorem rT130 : rowsTy Try.prog 130 = [] := by kernel_rfl
@[go_sem] theorem rT131 : rowsTy Try.prog 131 = [some (133, 2)] := by kernel_rfl
@[go_sem] theorem rT132 : rowsTy Try.prog 132 = [] := by kernel_rfl
@[go_sem] theorem rT133 : rowsTy Try.prog 133 = [] := by kernel_rfl
@[go_sem] theorem rT134 : rowsTy Try.prog 134 = [] := by kernel_rfl
@[go_sem] theorem rT135 : rowsTy Try.prog 135 = [] := by kernel_rfl
@[go_sem] theorem rT136 : rowsTy Try.prog 136 = [] := by kernel_rfl
@[go_sem] theorem rT137 : rowsTy Try.prog 137 = [] := by kernel_rfl
@[go_sem] theorem rT138 : rowsTy Try.prog 138 = [] := by kernel_rfl
@[go_sem] theorem rT139 : rowsTy Try.prog 139 = [] := by kernel_rfl
@[go_sem] theorem rT140 : rowsTy Try.prog 140 = [] := by kernel_rfl
@[go_sem] theorem rT141 : rowsTy Try.prog 141 = [] := by kernel_rfl
@[go_sem] theorem rT142 : rowsTy Try.prog 142 = [some (5, 1)] := by kernel_rfl
@[go_sem] theorem rT143 : rowsTy Try.prog 143 = [] := by kernel_rfl
@[go_sem] theorem rT144 : rowsTy Try.prog 144 = [] := by kernel_rfl
@[go_sem] theorem rT145 : rowsTy Try.prog 145 = [] := by kernel_rfl
@[go_sem] theorem rT146 : rowsTy Try.prog 146 = [] := by kernel_rfl
@[go_sem] theorem rT147 : rowsTy Try.prog 147 = [] := by kernel_rfl
@[go_sem] theorem rT148 : rowsTy Try.prog 148 = [] := by kernel_rfl
@[go_sem] theorem rT149 : rowsTy Try.prog 149 = [] := by kernel_rfl
@[go_sem] theorem rT150 : rowsTy Try.prog 150 = [] := by kernel_rfl
@[go_sem] theorem rT151 : rowsTy Try.prog 151 = [] := by kernel_rfl
@[go_sem] theorem rT152 : rowsTy Try.prog 152 = [] := by kernel_rfl
@[go_sem] theorem rT153 : rowsTy Try.prog 153 = [] := by kernel_rfl
@[go_sem] theorem rT154 : rowsTy Try.prog 154 = [] := by kernel_rfl
@[go_sem] theorem rT155 : rowsTy Try.prog 155 = [] := by kernel_rfl
@[go_sem] theorem rT156 : rowsTy Try.prog 156 = [] := by kernel_rfl
@[go_sem] theorem rT157 : rowsTy Try.prog 157 = [] := by kernel_rfl
@[go_sem] theorem rT158 : rowsTy Try.prog 158 = [] := by kernel_rfl
@[go_sem] theorem rT159 : rowsTy Try.prog 159 = [] := by kernel_rfl
@[go_sem] theorem rT160 : rowsTy Try.prog 160 = [] := by kernel_rfl
@[go_sem] theorem rT161 : rowsTy Try.prog 161 = [] := by kernel_rfl
@[go_sem] theorem follows_any : Try.prog.follows .mixedOrders = true := by kernel_rfl
@[go_sem] theorem fT7_0 : fieldT Try.prog 7 0 = some 2 := by kernel_rfl
@[go_sem] theorem fT7_1 : fieldT Try.prog 7 1 = some 3 := by kernel_rfl
@[go_sem] theorem fT7_2 : fieldT Try.prog 7 2 = some 4 := by kernel_rfl
@[go_sem] theorem fT7_3 : fieldT Try.prog 7 3 = some 6 := by kernel_rfl
@[go_sem] theorem fT8_0 : fieldT Try.prog 8 0 = some 2 := by kernel_rfl
@[go_sem] theorem fT8_1 : fieldT Try.prog 8 1 = some 3 := by kernel_rfl
@[go_sem] theorem fT8_2 : fieldT Try.prog 8 2 = some 4 := by kernel_rfl
@[go_sem] theorem fT8_3 : fieldT Try.prog 8 3 = some 6 := by kernel_rfl
@[go_sem] theorem fT13_0 : fieldT Try.prog 13 0 = some 9 := by kernel_rfl
@[go_sem] theorem fT13_1 : fieldT Try.prog 13 1 = some 12 := by kernel_rfl
@[go_sem] theorem fT14_0 : fieldT Try.prog 14 0 = some 9 := by kernel_rfl
@[go_sem] theorem fT14_1 : fieldT Try.prog 14 1 = some 12 := by kernel_rfl
@[go_sem] theorem fT18_0 : fieldT Try.prog 18 0 = some 17 := by kernel_rfl
@[go_sem] theorem fT19_0 : fieldT Try.prog 19 0 = some 17 := by kernel_rfl
@[go_sem] theorem fT36_0 : fieldT Try.prog 36 0 = some 3 := by kernel_rfl
@[go_sem] theorem fT36_1 : fieldT Try.prog 36 1 = some 3 := by kernel_rfl
@[go_sem] theorem fT37_0 : fieldT Try.prog 37 0 = some 3 := by kernel_rfl
@[go_sem] theorem fT37_1 : fieldT Try.prog 37 1 = some 3 := by kernel_rfl
@[go_sem] theorem fT38_0 : fieldT Try.prog 38 0 = some 3 := by kernel_rfl
@[go_sem] theorem fT38_1 : fieldT Try.prog 38 1 = some 3 := by kernel_rfl
@[go_sem] theorem fT38_2 : fieldT Try.prog 38 2 = some 3 := by kernel_rfl
@[go_sem] theorem fT38_3 : fieldT Try.prog 38 3 = some 3 := by kernel_rfl
@[go_sem] theorem fT38_4 : fieldT Try.prog 38 4 = some 3 := by kernel_rfl
@[go_sem] theorem fT38_5 : fieldT Try.prog 38 5 = some 3 := by kernel_rfl
@[go_sem] theorem fT38_6 : fieldT Try.prog 38 6 = some 3 := by kernel_rfl
@[go_sem] theorem fT38_7 : fieldT Try.prog 38 7 = some 3 := by kernel_rfl
@[go_sem] theorem fT38_8 : fieldT Try.prog 38 8 = some 3 := by kernel_rfl
@[go_sem] theorem fT38_9 : fieldT Try.prog 38 9 = some 3 := by kernel_rfl
@[go_sem] theorem fT38_10 : fieldT Try.prog 38 10 = some 3 := by kernel_rfl
@[go_sem] theorem fT38_11 : fieldT Try.prog 38 11 = some 3 := by kernel_rfl
@[go_sem] theorem fT39_0 : fieldT Try.prog 39 0 = some 3 := by kernel_rfl
@[go_sem] theorem fT39_1 : fieldT Try.prog 39 1 = some 3 := by kernel_rfl
@[go_sem] theorem fT39_2 : fieldT Try.prog 39 2 = some 3 := by kernel_rfl
@[go_sem] theorem fT39_3 : fieldT Try.prog 39 3 = some 3 := by kernel_rfl
@[go_sem] theorem fT39_4 : fieldT Try.prog 39 4 = some 3 := by kernel_rfl
@[go_sem] theorem fT39_5 : fieldT Try.prog 39 5 = some 3 := by kernel_rfl
@[go_sem] theorem fT39_6 : fieldT Try.prog 39 6 = some 3 := by kernel_rfl
@[go_sem] theorem fT39_7 : fieldT Try.prog 39 7 = some 3 := by kernel_rfl
@[go_sem] theorem fT39_8 : fieldT Try.prog 39 8 = some 3 := by kernel_rfl
@[go_sem] theorem fT39_9 : fieldT Try.prog 39 9 = some 3 := by kernel_rfl
@[go_sem] theorem fT39_10 : fieldT Try.prog 39 10 = some 3 := by kernel_rfl
@[go_sem] theorem fT39_11 : fieldT Try.prog 39 11 = some 3 := by kernel_rfl
@[go_sem] theorem fT40_0 : fieldT Try.prog 40 0 = some 3 := by kernel_rfl
@[go_sem] theorem fT40_1 : fieldT Try.prog 40 1 = some 3 := by kernel_rfl
@[go_sem] theorem fT40_2 : fieldT Try.prog 40 2 = some 39 := by kernel_rfl
@[go_sem] theorem fT40_3 : fieldT Try.prog 40 3 = some 3 := by kernel_rfl
@[go_sem] theorem fT40_4 : fieldT Try.prog 40 4 = some 3 := by kernel_rfl
@[go_sem] theorem fT40_5 : fieldT Try.prog 40 5 = some 27 := by kernel_rfl
@[go_sem] theorem fT40_6 : fieldT Try.prog 40 6 = some 3 := by kernel_rfl
@[go_sem] theorem fT40_7 : fieldT Try.prog 40 7 = some 3 := by kernel_rfl
@[go_sem] theorem fT40_8 : fieldT Try.prog 40 8 = some 3 := by kernel_rfl
@[go_sem] theorem fT41_0 : fieldT Try.prog 41 0 = some 3 := by kernel_rfl
@[go_sem] theorem fT41_1 : fieldT Try.prog 41 1 = some 3 := by kernel_rfl
@[go_sem] theorem fT41_2 : fieldT Try.prog 41 2 = some 39 := by kernel_rfl
@[go_sem] theorem fT41_3 : fieldT Try.prog 41 3 = some 3 := by kernel_rfl
@[go_sem] theorem fT41_4 : fieldT Try.prog 41 4 = some 3 := by kernel_rfl
@[go_sem] theorem fT41_5 : fieldT Try.prog 41 5 = some 27 := by kernel_rfl
@[go_sem] theorem fT41_6 : fieldT Try.prog 41 6 = some 3 := by kernel_rfl
@[go_sem] theorem fT41_7 : fieldT Try.prog 41 7 = some 3 := by kernel_rfl
@[go_sem] theorem fT41_8 : fieldT Try.prog 41 8 = some 3 := by kernel_rfl
@[go_sem] theorem fT44_0 : fieldT Try.prog 44 0 = some 27 := by kernel_rfl
@[go_sem] theorem fT44_1 : fieldT Try.prog 44 1 = some 3 := by kernel_rfl
@[go_sem] theorem fT44_2 : fieldT Try.prog 44 2 = some 3 := by kernel_rfl
@[go_sem] theorem fT45_0 : fieldT Try.prog 45 0 = some 27 := by kernel_rfl
@[go_sem] theorem fT45_1 : fieldT Try.prog 45 1 = some 3 := by kernel_rfl
@[go_sem] theorem fT45_2 : fieldT Try.prog 45 2 = some 3 := by kernel_rfl
@[go_sem] theorem fT49_0 : fieldT Try.prog 49 0 = some 3 := by kernel_rfl
@[go_sem] theorem fT49_1 : fieldT Try.prog 49 1 = some 3 := by kernel_rfl
@[go_sem] theorem fT49_2 : fieldT Try.prog 49 2 = some 48 := by kernel_rfl
@[go_sem] theorem fT49_3 : fieldT Try.prog 49 3 = some 48 := by kernel_rfl
@[go_sem] theorem fT49_4 : fieldT Try.prog 49 4 = some 48 := by kernel_rfl
@[go_sem] theorem fT50_0 : fieldT Try.prog 50 0 = some 3 := by kernel_rfl
@[go_sem] theorem fT50_1 : fieldT Try.prog 50 1 = some 3 := by kernel_rfl
@[go_sem] theorem fT50_2 : fieldT Try.prog 50 2 = some 48 := by kernel_rfl
@[go_sem] theorem fT50_3 : fieldT Try.prog 50 3 = some 48 := by kernel_rfl
@[go_sem] theorem fT50_4 : fieldT Try.prog 50 4 = some 48 := by kernel_rfl
@[go_sem] theorem fT56_0 : fieldT Try.prog 56 0 = some 3 := by kernel_rfl
@[go_sem] theorem fT56_1 : fieldT Try.prog 56 1 = some 3 := by kernel_rfl
@[go_sem] theorem fT56_2 : fieldT Try.prog 56 2 = some 3 := by kernel_rfl
@[go_sem] theorem fT56_3 : fieldT Try.prog 56 3 = some 3 := by kernel_rfl
@[go_sem] theorem fT56_4 : fieldT Try.prog 56 4 = some 3 := by kernel_rfl
@[go_sem] theorem fT56_5 : fieldT Try.prog 56 5 = some 3 := by kernel_rfl
@[go_sem] theorem fT56_6 : fieldT Try.prog 56 6 = some 3 := by kernel_rfl
@[go_sem] theorem fT57_0 : fieldT Try.prog 57 0 = some 3 := by kernel_rfl
@[go_sem] theorem fT57_1 : fieldT Try.prog 57 1 = some 3 := by kernel_rfl
@[go_sem] theorem fT57_2 : fieldT Try.prog 57 2 = some 3 := by kernel_rfl
@[go_sem] theorem fT57_3 : fieldT Try.prog 57 3 = some 3 := by kernel_rfl
@[go_sem] theorem fT57_4 : fieldT Try.prog 57 4 = some 3 := by kernel_rfl
@[go_sem] theorem fT57_5 : fieldT Try.prog 57 5 = some 3 := by kernel_rfl
@[go_sem] theorem fT57_6 : fieldT Try.prog 57 6 = some 3 := by kernel_rfl
@[go_sem] theorem fT66_0 : fieldT Try.prog 66 0 = some 65 := by kernel_rfl
@[go_sem] theorem fT67_0 : fieldT Try.prog 67 0 = some 65 := by kernel_rfl
@[go_sem] theorem fT78_0 : fieldT Try.prog 78 0 = some 3 := by kernel_rfl
@[go_sem] theorem fT78_1 : fieldT Try.prog 78 1 = some 3 := by kernel_rfl
@[go_sem] theorem fT78_2 : fieldT Try.prog 78 2 = some 3 := by kernel_rfl
@[go_sem] theorem fT78_3 : fieldT Try.prog 78 3 = some 3 := by kernel_rfl
@[go_sem] theorem fT78_4 : fieldT Try.prog 78 4 = some 3 := by kernel_rfl
@[go_sem] theorem fT78_5 : fieldT Try.prog 78 5 = some 3 := by kernel_rfl
@[go_sem] theorem fT79_0 : fieldT Try.prog 79 0 = some 3 := by kernel_rfl
@[go_sem] theorem fT79_1 : fieldT Try.prog 79 1 = some 3 := by kernel_rfl
@[go_sem] theorem fT79_2 : fieldT Try.prog 79 2 = some 3 := by kernel_rfl
@[go_sem] theorem fT79_3 : fieldT Try.prog 79 3 = some 3 := by kernel_rfl
@[go_sem] theorem fT79_4 : fieldT Try.prog 79 4 = some 3 := by kernel_rfl
@[go_sem] theorem fT79_5 : fieldT Try.prog 79 5 = some 3 := by kernel_rfl
@[go_sem] theorem fT82_0 : fieldT Try.prog 82 0 = some 3 := by kernel_rfl
@[go_sem] theorem fT82_1 : fieldT Try.prog 82 1 = some 3 := by kernel_rfl
@[go_sem] theorem fT82_2 : fieldT Try.prog 82 2 = some 3 := by kernel_rfl
@[go_sem] theorem fT82_3 : fieldT Try.prog 82 3 = some 3 := by kernel_rfl
@[go_sem] theorem fT83_0 : fieldT Try.prog 83 0 = some 3 := by kernel_rfl
@[go_sem] theorem fT83_1 : fieldT Try.prog 83 1 = some 3 := by kernel_rfl
@[go_sem] theorem fT83_2 : fieldT Try.prog 83 2 = some 3 := by kernel_rfl
@[go_sem] theorem fT83_3 : fieldT Try.prog 83 3 = some 3 := by kernel_rfl
@[go_sem] theorem fT84_0 : fieldT Try.prog 84 0 = some 22 := by kernel_rfl
@[go_sem] theorem fT84_1 : fieldT Try.prog 84 1 = some 48 := by kernel_rfl
@[go_sem] theorem fT85_0 : fieldT Try.prog 85 0 = some 22 := by kernel_rfl
@[go_sem] theorem fT85_1 : fieldT Try.prog 85 1 = some 48 := by kernel_rfl
@[go_sem] theorem fT92_0 : fieldT Try.prog 92 0 = some 85 := by kernel_rfl
@[go_sem] theorem fT92_1 : fieldT Try.prog 92 1 = some 54 := by kernel_rfl
@[go_sem] theorem fT93_0 : fieldT Try.prog 93 0 = some 85 := by kernel_rfl
@[go_sem] theorem fT93_1 : fieldT Try.prog 93 1 = some 54 := by kernel_rfl
@[go_sem] theorem fT99_0 : fieldT Try.prog 99 0 = some 22 := by kernel_rfl
@[go_sem] theorem fT99_1 : fieldT Try.prog 99 1 = some 3 := by kernel_rfl
@[go_sem] theorem fT99_2 : fieldT Try.prog 99 2 = some 3 := by kernel_rfl
@[go_sem] theorem fT100_0 : fieldT Try.prog 100 0 = some 22 := by kernel_rfl
@[go_sem] theorem fT100_1 : fieldT Try.prog 100 1 = some 3 := by kernel_rfl
@[go_sem] theorem fT100_2 : fieldT Try.prog 100 2 = some 3 := by kernel_rfl
@[go_sem] theorem fT102_0 : fieldT Try.prog 102 0 = some 3 := by kernel_rfl
@[go_sem] theorem fT102_1 : fieldT Try.prog 102 1 = some 21 := by kernel_rfl
@[go_sem] theorem fT102_2 : fieldT Try.prog 102 2 = some 3 := by kernel_rfl
@[go_sem] theorem fT102_3 : fieldT Try.prog 102 3 = some 3 := by kernel_rfl
@[go_sem] theorem fT103_0 : fieldT Try.prog 103 0 = some 3 := by kernel_rfl
@[go_sem] theorem fT103_1 : fieldT Try.prog 103 1 = some 21 := by kernel_rfl
@[go_sem] theorem fT103_2 : fieldT Try.prog 103 2 = some 3 := by kernel_rfl
@[go_sem] theorem fT103_3 : fieldT Try.prog 103 3 = some 3 := by kernel_rfl
@[go_sem] theorem fT108_0 : fieldT Try.prog 108 0 = some 3 := by kernel_rfl
@[go_sem] theorem fT108_1 : fieldT Try.prog 108 1 = some 3 := by kernel_rfl
@[go_sem] theorem fT109_0 : fieldT Try.prog 109 0 = some 3 := by kernel_rfl
@[go_sem] theorem fT109_1 : fieldT Try.prog 109 1 = some 3 := by kernel_rfl
@[go_sem] theorem fT111_0 : fieldT Try.prog 111 0 = some 45 := by kernel_rfl
@[go_sem] theorem fT112_0 : fieldT Try.prog 112 0 = some 45 := by kernel_rfl
@[go_sem] theorem fT132_0 : fieldT Try.prog 132 0 = some 3 := by kernel_rfl
@[go_sem] theorem fT132_1 : fieldT Try.prog 132 1 = some 3 := by kernel_rfl
@[go_sem] theorem fT133_0 : fieldT Try.prog 133 0 = some 3 := by kernel_rfl
@[go_sem] theorem fT133_1 : fieldT Try.prog 133 1 = some 3 := by kernel_rfl
@[go_sem] theorem fT147_0 : fieldT Try.prog 147 0 = some 17 := by kernel_rfl
@[go_sem] theorem fT147_1 : fieldT Try.prog 147 1 = some 17 := by kernel_rfl
@[go_sem] theorem fT147_2 : fieldT Try.prog 147 2 = some 17 := by kernel_rfl
@[go_sem] theorem fT147_3 : fieldT Try.prog 147 3 = some 9 := by kernel_rfl
@[go_sem] theorem fT148_0 : fieldT Try.prog 148 0 = some 17 := by kernel_rfl
@[go_sem] theorem fT148_1 : fieldT Try.prog 148 1 = some 17 := by kernel_rfl
@[go_sem] theorem fT148_2 : fieldT Try.prog 148 2 = some 17 := by kernel_rfl
@[go_sem] theorem fT148_3 : fieldT Try.prog 148 3 = some 9 := by kernel_rfl
@[go_sem] theorem fT150_0 : fieldT Try.prog 150 0 = some 149 := by kernel_rfl
@[go_sem] theorem fT151_0 : fieldT Try.prog 151 0 = some 149 := by kernel_rfl
@[go_sem] theorem fT159_0 : fieldT Try.prog 159 0 = some 12 := by kernel_rfl
@[go_sem] theorem fT159_1 : fieldT Try.prog 159 1 = some 12 := by kernel_rfl
@[go_sem] theorem fT159_2 : fieldT Try.prog 159 2 = some 152 := by kernel_rfl
@[go_sem] theorem fT159_3 : fieldT Try.prog 159 3 = some 153 := by kernel_rfl
@[go_sem] theorem fT159_4 : fieldT Try.prog 159 4 = some 5 := by kernel_rfl
@[go_sem] theorem fT159_5 : fieldT Try.prog 159 5 = some 5 := by kernel_rfl
@[go_sem] theorem fT159_6 : fieldT Try.prog 159 6 = some 154 := by kernel_rfl
@[go_sem] theorem fT159_7 : fieldT Try.prog 159 7 = some 155 := by kernel_rfl
@[go_sem] theorem fT159_8 : fieldT Try.prog 159 8 = some 156 := by kernel_rfl
@[go_sem] theorem fT159_9 : fieldT Try.prog 159 9 = some 157 := by kernel_rfl
@[go_sem] theorem fT159_10 : fieldT Try.prog 159 10 = some 158 := by kernel_rfl
@[go_sem] theorem fT160_0 : fieldT Try.prog 160 0 = some 12 := by kernel_rfl
@[go_sem] theorem fT160_1 : fieldT Try.prog 160 1 = some 12 := by kernel_rfl
@[go_sem] theorem fT160_2 : fieldT Try.prog 160 2 = some 152 := by kernel_rfl
@[go_sem] theorem fT160_3 : fieldT Try.prog 160 3 = some 153 := by kernel_rfl
@[go_sem] theorem fT160_4 : fieldT Try.prog 160 4 = some 5 := by kernel_rfl
@[go_sem] theorem fT160_5 : fieldT Try.prog 160 5 = some 5 := by kernel_rfl
@[go_sem] theorem fT160_6 : fieldT Try.prog 160 6 = some 154 := by kernel_rfl
@[go_sem] theorem fT160_7 : fieldT Try.prog 160 7 = some 155 := by kernel_rfl
@[go_sem] theorem fT160_8 : fieldT Try.prog 160 8 = some 156 := by kernel_rfl
@[go_sem] theorem fT160_9 : fieldT Try.prog 160 9 = some 157 := by kernel_rfl
@[go_sem] theorem fT160_10 : fieldT Try.prog 160 10 = some 158 := by kernel_rfl
@[go_sem] theorem underI2 : Try.prog.underlying 2 = some (.int .i64) := Try.underlying2
@[go_sem] theorem underI3 : Try.prog.underlying 3 = some (.int .i64) := Try.underlying3
@[go_sem] theorem underI5 : Try.prog.underlying 5 = some (.int .u8) := Try.underlying5
@[go_sem] theorem underI21 : Try.prog.underlying 21 = some (.int .i32) := Try.underlying21
@[go_sem] theorem underStr : Try.prog.underlying 9 = some .string := Try.underlying9
@[go_sem] theorem underBool : Try.prog.underlying 4 = some .bool := Try.underlying4
end Go.Proofs.Ytiidfcadmdahmaa
