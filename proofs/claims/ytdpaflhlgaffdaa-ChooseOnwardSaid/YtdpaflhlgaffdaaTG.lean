/- THE TYPES' ROWS (printed by a program of mine). -/
import Derived.Test.YtdpaflhlgaffdaaG12
set_option linter.unusedSimpArgs false
set_option linter.unusedVariables false
namespace Go.Proofs.Ytdpaflhlgaffdaa
open Go.RowKit
@[go_sem] theorem tI0 : tyI Try.prog 0 = some ⟨1, 0, false, [.tuple { toList := [] }], 0, 0, []⟩ := by kernel_rfl
@[go_sem] theorem tI1 : tyI Try.prog 1 = some ⟨1, 8, false, [.nilFunc], 0, 0, []⟩ := by kernel_rfl
@[go_sem] theorem tI2 : tyI Try.prog 2 = some ⟨1, 8, false, [.int .i64 0], 0, 0, []⟩ := by kernel_rfl
@[go_sem] theorem tI3 : tyI Try.prog 3 = some ⟨1, 8, false, [.int .i64 0], 0, 0, []⟩ := by kernel_rfl
@[go_sem] theorem tI4 : tyI Try.prog 4 = some ⟨1, 1, false, [.bool false], 0, 0, []⟩ := by kernel_rfl
@[go_sem] theorem tI5 : tyI Try.prog 5 = some ⟨1, 1, false, [.int .u8 0], 0, 0, []⟩ := by kernel_rfl
@[go_sem] theorem tI6 : tyI Try.prog 6 = some ⟨1, 1, false, [.int .u8 0], 0, 0, []⟩ := by kernel_rfl
@[go_sem] theorem tI7 : tyI Try.prog 7 = some ⟨4, 24, true, [.int .i64 0, .int .i64 0, .bool false, .int .u8 0], 3, 0, [(0, 1), (1, 1), (2, 1), (3, 1)]⟩ := by kernel_rfl
@[go_sem] theorem tI8 : tyI Try.prog 8 = some ⟨4, 24, true, [.int .i64 0, .int .i64 0, .bool false, .int .u8 0], 3, 0, [(0, 1), (1, 1), (2, 1), (3, 1)]⟩ := by kernel_rfl
@[go_sem] theorem tI9 : tyI Try.prog 9 = some ⟨1, 16, false, [.string { data := { toList := [] } }], 0, 0, []⟩ := by kernel_rfl
@[go_sem] theorem tI10 : tyI Try.prog 10 = some ⟨1, 16, false, [.string { data := { toList := [] } }], 0, 0, []⟩ := by kernel_rfl
@[go_sem] theorem tI11 : tyI Try.prog 11 = some ⟨1, 16, false, [.string { data := { toList := [] } }], 0, 0, []⟩ := by kernel_rfl
@[go_sem] theorem tI12 : tyI Try.prog 12 = some ⟨1, 8, false, [.int .u64 0], 0, 0, []⟩ := by kernel_rfl
@[go_sem] theorem tI13 : tyI Try.prog 13 = some ⟨2, 24, true, [.string { data := { toList := [] } }, .int .u64 0], 3, 0, [(0, 1), (1, 1)]⟩ := by kernel_rfl
@[go_sem] theorem tI14 : tyI Try.prog 14 = some ⟨2, 24, true, [.string { data := { toList := [] } }, .int .u64 0], 3, 0, [(0, 1), (1, 1)]⟩ := by kernel_rfl
@[go_sem] theorem tI15 : tyI Try.prog 15 = some ⟨1, 8, false, [.pointer none], 0, 118, []⟩ := by kernel_rfl
@[go_sem] theorem tI16 : tyI Try.prog 16 = some ⟨1, 8, false, [.pointer none], 0, 121, []⟩ := by kernel_rfl
@[go_sem] theorem tI17 : tyI Try.prog 17 = some ⟨1, 8, false, [.pointer none], 0, 130, []⟩ := by kernel_rfl
@[go_sem] theorem tI18 : tyI Try.prog 18 = some ⟨1, 8, true, [.pointer none], 3, 0, [(0, 1)]⟩ := by kernel_rfl
@[go_sem] theorem tI19 : tyI Try.prog 19 = some ⟨1, 8, true, [.pointer none], 3, 0, [(0, 1)]⟩ := by kernel_rfl
@[go_sem] theorem tI20 : tyI Try.prog 20 = some ⟨1, 16, false, [.nilIface], 0, 0, []⟩ := by kernel_rfl
@[go_sem] theorem tI21 : tyI Try.prog 21 = some ⟨1, 4, false, [.int .i32 0], 0, 0, []⟩ := by kernel_rfl
@[go_sem] theorem tI22 : tyI Try.prog 22 = some ⟨1, 24, false, [.slice none 0 0], 1, 24, []⟩ := by kernel_rfl
@[go_sem] theorem tI23 : tyI Try.prog 23 = some ⟨4, 32, true, [.int .i64 0, .int .i64 0, .int .i64 0, .int .i64 0], 3, 0, [(0, 1), (1, 1), (2, 1), (3, 1)]⟩ := by kernel_rfl
@[go_sem] theorem tI24 : tyI Try.prog 24 = some ⟨4, 32, true, [.int .i64 0, .int .i64 0, .int .i64 0, .int .i64 0], 3, 0, [(0, 1), (1, 1), (2, 1), (3, 1)]⟩ := by kernel_rfl
@[go_sem] theorem tI25 : tyI Try.prog 25 = some ⟨1, 8, false, [.nilFunc], 0, 0, []⟩ := by kernel_rfl
@[go_sem] theorem tI26 : tyI Try.prog 26 = some ⟨1, 8, false, [.nilFunc], 0, 0, []⟩ := by kernel_rfl
@[go_sem] theorem tI27 : tyI Try.prog 27 = some ⟨1, 8, false, [.nilFunc], 0, 0, []⟩ := by kernel_rfl
@[go_sem] theorem tI28 : tyI Try.prog 28 = some ⟨1, 8, false, [.nilFunc], 0, 0, []⟩ := by kernel_rfl
@[go_sem] theorem tI29 : tyI Try.prog 29 = some ⟨1, 8, false, [.nilFunc], 0, 0, []⟩ := by kernel_rfl
@[go_sem] theorem tI30 : tyI Try.prog 30 = some ⟨1, 8, false, [.nilFunc], 0, 0, []⟩ := by kernel_rfl
@[go_sem] theorem tI31 : tyI Try.prog 31 = some ⟨1, 8, false, [.nilFunc], 0, 0, []⟩ := by kernel_rfl
@[go_sem] theorem tI32 : tyI Try.prog 32 = some ⟨1, 24, false, [.slice none 0 0], 1, 48, []⟩ := by kernel_rfl
@[go_sem] theorem tI33 : tyI Try.prog 33 = some ⟨2, 16, true, [.int .i64 0, .int .i64 0], 3, 0, [(0, 1), (1, 1)]⟩ := by kernel_rfl
@[go_sem] theorem tI34 : tyI Try.prog 34 = some ⟨2, 16, true, [.int .i64 0, .int .i64 0], 3, 0, [(0, 1), (1, 1)]⟩ := by kernel_rfl
@[go_sem] theorem tI35 : tyI Try.prog 35 = some ⟨1, 8, false, [.nilFunc], 0, 0, []⟩ := by kernel_rfl
@[go_sem] theorem tI36 : tyI Try.prog 36 = some ⟨1, 24, false, [.slice none 0 0], 1, 3, []⟩ := by kernel_rfl
@[go_sem] theorem tI37 : tyI Try.prog 37 = some ⟨1, 0, false, [.tuple { toList := [.int .i64 0, .bool false] }], 0, 0, []⟩ := by kernel_rfl
@[go_sem] theorem tI38 : tyI Try.prog 38 = some ⟨1, 8, false, [.nilFunc], 0, 0, []⟩ := by kernel_rfl
@[go_sem] theorem tI39 : tyI Try.prog 39 = some ⟨1, 8, false, [.nilFunc], 0, 0, []⟩ := by kernel_rfl
@[go_sem] theorem tI40 : tyI Try.prog 40 = some ⟨1, 8, false, [.nilFunc], 0, 0, []⟩ := by kernel_rfl
@[go_sem] theorem tI41 : tyI Try.prog 41 = some ⟨1, 8, false, [.nilFunc], 0, 0, []⟩ := by kernel_rfl
@[go_sem] theorem tI42 : tyI Try.prog 42 = some ⟨1, 8, false, [.nilFunc], 0, 0, []⟩ := by kernel_rfl
@[go_sem] theorem tI43 : tyI Try.prog 43 = some ⟨1, 8, false, [.nilFunc], 0, 0, []⟩ := by kernel_rfl
@[go_sem] theorem tI44 : tyI Try.prog 44 = some ⟨1, 8, false, [.nilFunc], 0, 0, []⟩ := by kernel_rfl
@[go_sem] theorem tI45 : tyI Try.prog 45 = some ⟨1, 8, false, [.nilFunc], 0, 0, []⟩ := by kernel_rfl
@[go_sem] theorem tI46 : tyI Try.prog 46 = some ⟨1, 8, false, [.nilFunc], 0, 0, []⟩ := by kernel_rfl
@[go_sem] theorem tI47 : tyI Try.prog 47 = some ⟨7, 56, true, [.int .i64 0, .int .i64 0, .int .i64 0, .int .i64 0, .int .i64 0, .int .i64 0, .int .i64 0], 3, 0, [(0, 1), (1, 1), (2, 1), (3, 1), (4, 1), (5, 1), (6, 1)]⟩ := by kernel_rfl
@[go_sem] theorem tI48 : tyI Try.prog 48 = some ⟨7, 56, true, [.int .i64 0, .int .i64 0, .int .i64 0, .int .i64 0, .int .i64 0, .int .i64 0, .int .i64 0], 3, 0, [(0, 1), (1, 1), (2, 1), (3, 1), (4, 1), (5, 1), (6, 1)]⟩ := by kernel_rfl
@[go_sem] theorem tI49 : tyI Try.prog 49 = some ⟨1, 0, false, [.tuple { toList := [.int .i64 0, .int .i64 0] }], 0, 0, []⟩ := by kernel_rfl
@[go_sem] theorem tI50 : tyI Try.prog 50 = some ⟨1, 8, false, [.nilFunc], 0, 0, []⟩ := by kernel_rfl
@[go_sem] theorem tI51 : tyI Try.prog 51 = some ⟨1, 8, false, [.nilFunc], 0, 0, []⟩ := by kernel_rfl
@[go_sem] theorem tI52 : tyI Try.prog 52 = some ⟨1, 8, false, [.nilFunc], 0, 0, []⟩ := by kernel_rfl
@[go_sem] theorem tI53 : tyI Try.prog 53 = some ⟨1, 24, false, [.slice none 0 0], 1, 63, []⟩ := by kernel_rfl
@[go_sem] theorem tI54 : tyI Try.prog 54 = some ⟨1, 8, false, [.nilFunc], 0, 0, []⟩ := by kernel_rfl
@[go_sem] theorem tI55 : tyI Try.prog 55 = some ⟨1, 8, false, [.nilFunc], 0, 0, []⟩ := by kernel_rfl
@[go_sem] theorem tI56 : tyI Try.prog 56 = some ⟨1, 8, false, [.nilFunc], 0, 0, []⟩ := by kernel_rfl
@[go_sem] theorem tI57 : tyI Try.prog 57 = some ⟨1, 8, false, [.nilFunc], 0, 0, []⟩ := by kernel_rfl
@[go_sem] theorem tI58 : tyI Try.prog 58 = some ⟨1, 8, false, [.nilFunc], 0, 0, []⟩ := by kernel_rfl
@[go_sem] theorem tI59 : tyI Try.prog 59 = some ⟨1, 8, false, [.nilFunc], 0, 0, []⟩ := by kernel_rfl
@[go_sem] theorem tI60 : tyI Try.prog 60 = some ⟨1, 8, false, [.nilFunc], 0, 0, []⟩ := by kernel_rfl
@[go_sem] theorem tI61 : tyI Try.prog 61 = some ⟨1, 8, false, [.nilFunc], 0, 0, []⟩ := by kernel_rfl
@[go_sem] theorem tI62 : tyI Try.prog 62 = some ⟨3, 24, true, [.int .i64 0, .int .i64 0, .int .i64 0], 3, 0, [(0, 1), (1, 1), (2, 1)]⟩ := by kernel_rfl
@[go_sem] theorem tI63 : tyI Try.prog 63 = some ⟨3, 24, true, [.int .i64 0, .int .i64 0, .int .i64 0], 3, 0, [(0, 1), (1, 1), (2, 1)]⟩ := by kernel_rfl
@[go_sem] theorem tI64 : tyI Try.prog 64 = some ⟨1, 8, false, [.nilFunc], 0, 0, []⟩ := by kernel_rfl
@[go_sem] theorem tI65 : tyI Try.prog 65 = some ⟨1, 8, false, [.nilFunc], 0, 0, []⟩ := by kernel_rfl
@[go_sem] theorem tI66 : tyI Try.prog 66 = some ⟨1, 8, false, [.nilFunc], 0, 0, []⟩ := by kernel_rfl
@[go_sem] theorem tI67 : tyI Try.prog 67 = some ⟨1, 8, false, [.nilFunc], 0, 0, []⟩ := by kernel_rfl
@[go_sem] theorem tI68 : tyI Try.prog 68 = some ⟨1, 24, false, [.slice none 0 0], 1, 34, []⟩ := by kernel_rfl
@[go_sem] theorem tI69 : tyI Try.prog 69 = some ⟨1, 8, false, [.nilFunc], 0, 0, []⟩ := by kernel_rfl
@[go_sem] theorem tI70 : tyI Try.prog 70 = some ⟨1, 8, false, [.nilFunc], 0, 0, []⟩ := by kernel_rfl
@[go_sem] theorem tI71 : tyI Try.prog 71 = some ⟨1, 8, false, [.nilFunc], 0, 0, []⟩ := by kernel_rfl
@[go_sem] theorem tI72 : tyI Try.prog 72 = some ⟨1, 8, false, [.nilFunc], 0, 0, []⟩ := by kernel_rfl
@[go_sem] theorem tI73 : tyI Try.prog 73 = some ⟨11, 88, true, [.int .i64 0, .int .i64 0, .int .i64 0, .int .i64 0, .int .i64 0, .int .i64 0, .int .i64 0, .int .i64 0, .int .i64 0, .int .i64 0, .int .i64 0], 3, 0, [(0, 7), (7, 4)]⟩ := by kernel_rfl
@[go_sem] theorem tI74 : tyI Try.prog 74 = some ⟨11, 88, true, [.int .i64 0, .int .i64 0, .int .i64 0, .int .i64 0, .int .i64 0, .int .i64 0, .int .i64 0, .int .i64 0, .int .i64 0, .int .i64 0, .int .i64 0], 3, 0, [(0, 7), (7, 4)]⟩ := by kernel_rfl
@[go_sem] theorem tI75 : tyI Try.prog 75 = some ⟨1, 8, false, [.nilFunc], 0, 0, []⟩ := by kernel_rfl
@[go_sem] theorem tI76 : tyI Try.prog 76 = some ⟨1, 8, false, [.nilFunc], 0, 0, []⟩ := by kernel_rfl
@[go_sem] theorem tI77 : tyI Try.prog 77 = some ⟨1, 8, false, [.nilFunc], 0, 0, []⟩ := by kernel_rfl
@[go_sem] theorem tI78 : tyI Try.prog 78 = some ⟨1, 8, false, [.nilFunc], 0, 0, []⟩ := by kernel_rfl
@[go_sem] theorem tI79 : tyI Try.prog 79 = some ⟨1, 8, false, [.nilFunc], 0, 0, []⟩ := by kernel_rfl
@[go_sem] theorem tI80 : tyI Try.prog 80 = some ⟨1, 8, false, [.nilFunc], 0, 0, []⟩ := by kernel_rfl
@[go_sem] theorem tI81 : tyI Try.prog 81 = some ⟨1, 8, false, [.nilFunc], 0, 0, []⟩ := by kernel_rfl
@[go_sem] theorem tI82 : tyI Try.prog 82 = some ⟨1, 8, false, [.nilFunc], 0, 0, []⟩ := by kernel_rfl
@[go_sem] theorem tI83 : tyI Try.prog 83 = some ⟨1, 0, false, [.tuple { toList := [.agg { toList := [.int .i64 0, .int .i64 0] }, .int .i64 0] }], 0, 0, []⟩ := by kernel_rfl
@[go_sem] theorem tI84 : tyI Try.prog 84 = some ⟨10, 96, true, [.int .i64 0, .int .i64 0, .int .i64 0, .int .i64 0, .int .i64 0, .int .i64 0, .int .i64 0, .slice none 0 0, .int .i64 0, .int .i64 0], 3, 0, [(0, 7), (7, 1), (8, 2)]⟩ := by kernel_rfl
@[go_sem] theorem tI85 : tyI Try.prog 85 = some ⟨10, 96, true, [.int .i64 0, .int .i64 0, .int .i64 0, .int .i64 0, .int .i64 0, .int .i64 0, .int .i64 0, .slice none 0 0, .int .i64 0, .int .i64 0], 3, 0, [(0, 7), (7, 1), (8, 2)]⟩ := by kernel_rfl
@[go_sem] theorem tI86 : tyI Try.prog 86 = some ⟨1, 8, false, [.nilFunc], 0, 0, []⟩ := by kernel_rfl
@[go_sem] theorem tI87 : tyI Try.prog 87 = some ⟨1, 8, false, [.nilFunc], 0, 0, []⟩ := by kernel_rfl
@[go_sem] theorem tI88 : tyI Try.prog 88 = some ⟨1, 8, false, [.nilFunc], 0, 0, []⟩ := by kernel_rfl
@[go_sem] theorem tI89 : tyI Try.prog 89 = some ⟨1, 8, false, [.nilFunc], 0, 0, []⟩ := by kernel_rfl
@[go_sem] theorem tI90 : tyI Try.prog 90 = some ⟨1, 24, false, [.slice none 0 0], 1, 93, []⟩ := by kernel_rfl
@[go_sem] theorem tI91 : tyI Try.prog 91 = some ⟨1, 8, false, [.nilFunc], 0, 0, []⟩ := by kernel_rfl
@[go_sem] theorem tI92 : tyI Try.prog 92 = some ⟨4, 32, true, [.int .i64 0, .int .i64 0, .int .i64 0, .int .i64 0], 3, 0, [(0, 3), (3, 1)]⟩ := by kernel_rfl
@[go_sem] theorem tI93 : tyI Try.prog 93 = some ⟨4, 32, true, [.int .i64 0, .int .i64 0, .int .i64 0, .int .i64 0], 3, 0, [(0, 3), (3, 1)]⟩ := by kernel_rfl
@[go_sem] theorem tI94 : tyI Try.prog 94 = some ⟨1, 8, false, [.nilFunc], 0, 0, []⟩ := by kernel_rfl
@[go_sem] theorem tI95 : tyI Try.prog 95 = some ⟨1, 8, false, [.nilFunc], 0, 0, []⟩ := by kernel_rfl
@[go_sem] theorem tI96 : tyI Try.prog 96 = some ⟨1, 8, false, [.nilFunc], 0, 0, []⟩ := by kernel_rfl
@[go_sem] theorem tI97 : tyI Try.prog 97 = some ⟨1, 8, false, [.nilFunc], 0, 0, []⟩ := by kernel_rfl
@[go_sem] theorem tI98 : tyI Try.prog 98 = some ⟨1, 8, false, [.nilFunc], 0, 0, []⟩ := by kernel_rfl
@[go_sem] theorem tI99 : tyI Try.prog 99 = some ⟨1, 8, false, [.nilFunc], 0, 0, []⟩ := by kernel_rfl
@[go_sem] theorem tI100 : tyI Try.prog 100 = some ⟨1, 8, false, [.nilFunc], 0, 0, []⟩ := by kernel_rfl
@[go_sem] theorem tI101 : tyI Try.prog 101 = some ⟨1, 8, false, [.nilFunc], 0, 0, []⟩ := by kernel_rfl
@[go_sem] theorem tI102 : tyI Try.prog 102 = some ⟨1, 8, false, [.nilFunc], 0, 0, []⟩ := by kernel_rfl
@[go_sem] theorem tI103 : tyI Try.prog 103 = some ⟨1, 8, false, [.nilFunc], 0, 0, []⟩ := by kernel_rfl
@[go_sem] theorem tI104 : tyI Try.prog 104 = some ⟨4, 32, true, [.int .i64 0, .int .i64 0, .int .i64 0, .int .i64 0], 3, 0, [(0, 3), (3, 1)]⟩ := by kernel_rfl
@[go_sem] theorem tI105 : tyI Try.prog 105 = some ⟨4, 32, true, [.int .i64 0, .int .i64 0, .int .i64 0, .int .i64 0], 3, 0, [(0, 3), (3, 1)]⟩ := by kernel_rfl
@[go_sem] theorem tI106 : tyI Try.prog 106 = some ⟨1, 8, false, [.nilFunc], 0, 0, []⟩ := by kernel_rfl
@[go_sem] theorem tI107 : tyI Try.prog 107 = some ⟨1, 8, false, [.nilFunc], 0, 0, []⟩ := by kernel_rfl
@[go_sem] theorem tI108 : tyI Try.prog 108 = some ⟨1, 8, false, [.nilFunc], 0, 0, []⟩ := by kernel_rfl
@[go_sem] theorem tI109 : tyI Try.prog 109 = some ⟨1, 8, false, [.nilFunc], 0, 0, []⟩ := by kernel_rfl
@[go_sem] theorem tI110 : tyI Try.prog 110 = some ⟨1, 8, false, [.nilFunc], 0, 0, []⟩ := by kernel_rfl
@[go_sem] theorem tI111 : tyI Try.prog 111 = some ⟨1, 8, false, [.nilFunc], 0, 0, []⟩ := by kernel_rfl
@[go_sem] theorem tI112 : tyI Try.prog 112 = some ⟨1, 8, false, [.nilFunc], 0, 0, []⟩ := by kernel_rfl
@[go_sem] theorem tI113 : tyI Try.prog 113 = some ⟨1, 8, false, [.nilFunc], 0, 0, []⟩ := by kernel_rfl
@[go_sem] theorem tI114 : tyI Try.prog 114 = some ⟨1, 8, false, [.nilFunc], 0, 0, []⟩ := by kernel_rfl
@[go_sem] theorem tI115 : tyI Try.prog 115 = some ⟨1, 8, false, [.nilFunc], 0, 0, []⟩ := by kernel_rfl
@[go_sem] theorem tI116 : tyI Try.prog 116 = some ⟨1, 8, false, [.nilFunc], 0, 0, []⟩ := by kernel_rfl
@[go_sem] theorem tI117 : tyI Try.prog 117 = some ⟨4, 40, true, [.pointer none, .pointer none, .pointer none, .string { data := { toList := [] } }], 3, 0, [(0, 1), (1, 1), (2, 1), (3, 1)]⟩ := by kernel_rfl
@[go_sem] theorem tI118 : tyI Try.prog 118 = some ⟨4, 40, true, [.pointer none, .pointer none, .pointer none, .string { data := { toList := [] } }], 3, 0, [(0, 1), (1, 1), (2, 1), (3, 1)]⟩ := by kernel_rfl
@[go_sem] theorem tI119 : tyI Try.prog 119 = some ⟨0, 0, true, [], 2, 16, [(0, 1)]⟩ := by kernel_rfl
@[go_sem] theorem tI120 : tyI Try.prog 120 = some ⟨0, 0, true, [], 3, 0, [(0, 0)]⟩ := by kernel_rfl
@[go_sem] theorem tI121 : tyI Try.prog 121 = some ⟨0, 0, true, [], 3, 0, [(0, 0)]⟩ := by kernel_rfl
@[go_sem] theorem tI122 : tyI Try.prog 122 = some ⟨1, 4, false, [.int .u32 0], 0, 0, []⟩ := by kernel_rfl
@[go_sem] theorem tI123 : tyI Try.prog 123 = some ⟨1, 1, false, [.int .u8 0], 0, 0, []⟩ := by kernel_rfl
@[go_sem] theorem tI124 : tyI Try.prog 124 = some ⟨1, 1, false, [.int .u8 0], 0, 0, []⟩ := by kernel_rfl
@[go_sem] theorem tI125 : tyI Try.prog 125 = some ⟨1, 8, false, [.nilFunc], 0, 0, []⟩ := by kernel_rfl
@[go_sem] theorem tI126 : tyI Try.prog 126 = some ⟨1, 8, false, [.pointer none], 0, 5, []⟩ := by kernel_rfl
@[go_sem] theorem tI127 : tyI Try.prog 127 = some ⟨1, 4, false, [.int .i32 0], 0, 0, []⟩ := by kernel_rfl
@[go_sem] theorem tI128 : tyI Try.prog 128 = some ⟨1, 4, false, [.int .i32 0], 0, 0, []⟩ := by kernel_rfl
@[go_sem] theorem tI129 : tyI Try.prog 129 = some ⟨11, 48, true, [.int .u64 0, .int .u64 0, .int .u32 0, .int .u8 0, .int .u8 0, .int .u8 0, .int .u8 0, .nilFunc, .pointer none, .int .i32 0, .int .i32 0], 3, 0, [(0, 1), (1, 1), (2, 1), (3, 1), (4, 1), (5, 1), (6, 1), (7, 1), (8, 1), (9, 1), (10, 1)]⟩ := by kernel_rfl
@[go_sem] theorem tI130 : tyI Try.prog 130 = some ⟨11, 48, true, [.int .u64 0, .int .u64 0, .int .u32 0, .int .u8 0, .int .u8 0, .int .u8 0, .int .u8 0, .nilFunc, .pointer none, .int .i32 0, .int .i32 0], 3, 0, [(0, 1), (1, 1), (2, 1), (3, 1), (4, 1), (5, 1), (6, 1), (7, 1), (8, 1), (9, 1), (10, 1)]⟩ := by kernel_rfl
@[go_sem] theorem tI131 : tyI Try.prog 131 = some ⟨1, 8, false, [.pointer none], 0, 0, []⟩ := by kernel_rfl
@[go_sem] theorem fK7 : flatK Try.prog 7 = some [true, true, false, true] := by kernel_rfl
@[go_sem] theorem fK8 : flatK Try.prog 8 = some [true, true, false, true] := by kernel_rfl
@[go_sem] theorem fK23 : flatK Try.prog 23 = some [true, true, true, true] := by kernel_rfl
@[go_sem] theorem fK24 : flatK Try.prog 24 = some [true, true, true, true] := by kernel_rfl
@[go_sem] theorem fK33 : flatK Try.prog 33 = some [true, true] := by kernel_rfl
@[go_sem] theorem fK34 : flatK Try.prog 34 = some [true, true] := by kernel_rfl
@[go_sem] theorem fK47 : flatK Try.prog 47 = some [true, true, true, true, true, true, true] := by kernel_rfl
@[go_sem] theorem fK48 : flatK Try.prog 48 = some [true, true, true, true, true, true, true] := by kernel_rfl
@[go_sem] theorem fK62 : flatK Try.prog 62 = some [true, true, true] := by kernel_rfl
@[go_sem] theorem fK63 : flatK Try.prog 63 = some [true, true, true] := by kernel_rfl
@[go_sem] theorem aR119 : arrOf Try.prog 119 = some (0, 1) := by kernel_rfl
@[go_sem] theorem follows_any : Try.prog.follows .mixedOrders = true := by kernel_rfl
@[go_sem] theorem fT7_0 : fieldT Try.prog 7 0 = some 2 := by kernel_rfl
@[go_sem] theorem fT7_1 : fieldT Try.prog 7 1 = some 3 := by kernel_rfl
@[go_sem] theorem fT7_2 : fieldT Try.prog 7 2 = some 4 := by kernel_rfl
@[go_sem] theorem fT7_3 : fieldT Try.prog 7 3 = some 6 := by kernel_rfl
@[go_sem] theorem fT8_0 : fieldT Try.prog 8 0 = some 2 := by kernel_rfl
@[go_sem] theorem fT8_1 : fieldT Try.prog 8 1 = some 3 := by kernel_rfl
@[go_sem] theorem fT8_2 : fieldT Try.prog 8 2 = some 4 := by kernel_rfl
@[go_sem] theorem fT8_3 : fieldT Try.prog 8 3 = some 6 := by kernel_rfl
@[go_sem] theorem fT13_0 : fieldT Try.prog 13 0 = some 9 := by kernel_rfl
@[go_sem] theorem fT13_1 : fieldT Try.prog 13 1 = some 12 := by kernel_rfl
@[go_sem] theorem fT14_0 : fieldT Try.prog 14 0 = some 9 := by kernel_rfl
@[go_sem] theorem fT14_1 : fieldT Try.prog 14 1 = some 12 := by kernel_rfl
@[go_sem] theorem fT18_0 : fieldT Try.prog 18 0 = some 17 := by kernel_rfl
@[go_sem] theorem fT19_0 : fieldT Try.prog 19 0 = some 17 := by kernel_rfl
@[go_sem] theorem fT23_0 : fieldT Try.prog 23 0 = some 3 := by kernel_rfl
@[go_sem] theorem fT23_1 : fieldT Try.prog 23 1 = some 3 := by kernel_rfl
@[go_sem] theorem fT23_2 : fieldT Try.prog 23 2 = some 3 := by kernel_rfl
@[go_sem] theorem fT23_3 : fieldT Try.prog 23 3 = some 3 := by kernel_rfl
@[go_sem] theorem fT24_0 : fieldT Try.prog 24 0 = some 3 := by kernel_rfl
@[go_sem] theorem fT24_1 : fieldT Try.prog 24 1 = some 3 := by kernel_rfl
@[go_sem] theorem fT24_2 : fieldT Try.prog 24 2 = some 3 := by kernel_rfl
@[go_sem] theorem fT24_3 : fieldT Try.prog 24 3 = some 3 := by kernel_rfl
@[go_sem] theorem fT33_0 : fieldT Try.prog 33 0 = some 3 := by kernel_rfl
@[go_sem] theorem fT33_1 : fieldT Try.prog 33 1 = some 3 := by kernel_rfl
@[go_sem] theorem fT34_0 : fieldT Try.prog 34 0 = some 3 := by kernel_rfl
@[go_sem] theorem fT34_1 : fieldT Try.prog 34 1 = some 3 := by kernel_rfl
@[go_sem] theorem fT47_0 : fieldT Try.prog 47 0 = some 3 := by kernel_rfl
@[go_sem] theorem fT47_1 : fieldT Try.prog 47 1 = some 3 := by kernel_rfl
@[go_sem] theorem fT47_2 : fieldT Try.prog 47 2 = some 3 := by kernel_rfl
@[go_sem] theorem fT47_3 : fieldT Try.prog 47 3 = some 3 := by kernel_rfl
@[go_sem] theorem fT47_4 : fieldT Try.prog 47 4 = some 3 := by kernel_rfl
@[go_sem] theorem fT47_5 : fieldT Try.prog 47 5 = some 3 := by kernel_rfl
@[go_sem] theorem fT47_6 : fieldT Try.prog 47 6 = some 3 := by kernel_rfl
@[go_sem] theorem fT48_0 : fieldT Try.prog 48 0 = some 3 := by kernel_rfl
@[go_sem] theorem fT48_1 : fieldT Try.prog 48 1 = some 3 := by kernel_rfl
@[go_sem] theorem fT48_2 : fieldT Try.prog 48 2 = some 3 := by kernel_rfl
@[go_sem] theorem fT48_3 : fieldT Try.prog 48 3 = some 3 := by kernel_rfl
@[go_sem] theorem fT48_4 : fieldT Try.prog 48 4 = some 3 := by kernel_rfl
@[go_sem] theorem fT48_5 : fieldT Try.prog 48 5 = some 3 := by kernel_rfl
@[go_sem] theorem fT48_6 : fieldT Try.prog 48 6 = some 3 := by kernel_rfl
@[go_sem] theorem fT62_0 : fieldT Try.prog 62 0 = some 3 := by kernel_rfl
@[go_sem] theorem fT62_1 : fieldT Try.prog 62 1 = some 3 := by kernel_rfl
@[go_sem] theorem fT62_2 : fieldT Try.prog 62 2 = some 3 := by kernel_rfl
@[go_sem] theorem fT63_0 : fieldT Try.prog 63 0 = some 3 := by kernel_rfl
@[go_sem] theorem fT63_1 : fieldT Try.prog 63 1 = some 3 := by kernel_rfl
@[go_sem] theorem fT63_2 : fieldT Try.prog 63 2 = some 3 := by kernel_rfl
@[go_sem] theorem fT73_0 : fieldT Try.prog 73 0 = some 48 := by kernel_rfl
@[go_sem] theorem fT73_1 : fieldT Try.prog 73 1 = some 24 := by kernel_rfl
@[go_sem] theorem fT74_0 : fieldT Try.prog 74 0 = some 48 := by kernel_rfl
@[go_sem] theorem fT74_1 : fieldT Try.prog 74 1 = some 24 := by kernel_rfl
@[go_sem] theorem fT84_0 : fieldT Try.prog 84 0 = some 48 := by kernel_rfl
@[go_sem] theorem fT84_1 : fieldT Try.prog 84 1 = some 32 := by kernel_rfl
@[go_sem] theorem fT84_2 : fieldT Try.prog 84 2 = some 34 := by kernel_rfl
@[go_sem] theorem fT85_0 : fieldT Try.prog 85 0 = some 48 := by kernel_rfl
@[go_sem] theorem fT85_1 : fieldT Try.prog 85 1 = some 32 := by kernel_rfl
@[go_sem] theorem fT85_2 : fieldT Try.prog 85 2 = some 34 := by kernel_rfl
@[go_sem] theorem fT92_0 : fieldT Try.prog 92 0 = some 63 := by kernel_rfl
@[go_sem] theorem fT92_1 : fieldT Try.prog 92 1 = some 3 := by kernel_rfl
@[go_sem] theorem fT93_0 : fieldT Try.prog 93 0 = some 63 := by kernel_rfl
@[go_sem] theorem fT93_1 : fieldT Try.prog 93 1 = some 3 := by kernel_rfl
@[go_sem] theorem fT104_0 : fieldT Try.prog 104 0 = some 63 := by kernel_rfl
@[go_sem] theorem fT104_1 : fieldT Try.prog 104 1 = some 3 := by kernel_rfl
@[go_sem] theorem fT105_0 : fieldT Try.prog 105 0 = some 63 := by kernel_rfl
@[go_sem] theorem fT105_1 : fieldT Try.prog 105 1 = some 3 := by kernel_rfl
@[go_sem] theorem fT117_0 : fieldT Try.prog 117 0 = some 17 := by kernel_rfl
@[go_sem] theorem fT117_1 : fieldT Try.prog 117 1 = some 17 := by kernel_rfl
@[go_sem] theorem fT117_2 : fieldT Try.prog 117 2 = some 17 := by kernel_rfl
@[go_sem] theorem fT117_3 : fieldT Try.prog 117 3 = some 9 := by kernel_rfl
@[go_sem] theorem fT118_0 : fieldT Try.prog 118 0 = some 17 := by kernel_rfl
@[go_sem] theorem fT118_1 : fieldT Try.prog 118 1 = some 17 := by kernel_rfl
@[go_sem] theorem fT118_2 : fieldT Try.prog 118 2 = some 17 := by kernel_rfl
@[go_sem] theorem fT118_3 : fieldT Try.prog 118 3 = some 9 := by kernel_rfl
@[go_sem] theorem fT120_0 : fieldT Try.prog 120 0 = some 119 := by kernel_rfl
@[go_sem] theorem fT121_0 : fieldT Try.prog 121 0 = some 119 := by kernel_rfl
@[go_sem] theorem fT129_0 : fieldT Try.prog 129 0 = some 12 := by kernel_rfl
@[go_sem] theorem fT129_1 : fieldT Try.prog 129 1 = some 12 := by kernel_rfl
@[go_sem] theorem fT129_2 : fieldT Try.prog 129 2 = some 122 := by kernel_rfl
@[go_sem] theorem fT129_3 : fieldT Try.prog 129 3 = some 123 := by kernel_rfl
@[go_sem] theorem fT129_4 : fieldT Try.prog 129 4 = some 5 := by kernel_rfl
@[go_sem] theorem fT129_5 : fieldT Try.prog 129 5 = some 5 := by kernel_rfl
@[go_sem] theorem fT129_6 : fieldT Try.prog 129 6 = some 124 := by kernel_rfl
@[go_sem] theorem fT129_7 : fieldT Try.prog 129 7 = some 125 := by kernel_rfl
@[go_sem] theorem fT129_8 : fieldT Try.prog 129 8 = some 126 := by kernel_rfl
@[go_sem] theorem fT129_9 : fieldT Try.prog 129 9 = some 127 := by kernel_rfl
@[go_sem] theorem fT129_10 : fieldT Try.prog 129 10 = some 128 := by kernel_rfl
@[go_sem] theorem fT130_0 : fieldT Try.prog 130 0 = some 12 := by kernel_rfl
@[go_sem] theorem fT130_1 : fieldT Try.prog 130 1 = some 12 := by kernel_rfl
@[go_sem] theorem fT130_2 : fieldT Try.prog 130 2 = some 122 := by kernel_rfl
@[go_sem] theorem fT130_3 : fieldT Try.prog 130 3 = some 123 := by kernel_rfl
@[go_sem] theorem fT130_4 : fieldT Try.prog 130 4 = some 5 := by kernel_rfl
@[go_sem] theorem fT130_5 : fieldT Try.prog 130 5 = some 5 := by kernel_rfl
@[go_sem] theorem fT130_6 : fieldT Try.prog 130 6 = some 124 := by kernel_rfl
@[go_sem] theorem fT130_7 : fieldT Try.prog 130 7 = some 125 := by kernel_rfl
@[go_sem] theorem fT130_8 : fieldT Try.prog 130 8 = some 126 := by kernel_rfl
@[go_sem] theorem fT130_9 : fieldT Try.prog 130 9 = some 127 := by kernel_rfl
@[go_sem] theorem fT130_10 : fieldT Try.prog 130 10 = some 128 := by kernel_rfl
@[go_sem] theorem underI2 : Try.prog.underlying 2 = some (.int .i64) := Try.underlying2
@[go_sem] theorem underI3 : Try.prog.underlying 3 = some (.int .i64) := Try.underlying3
@[go_sem] theorem underI5 : Try.prog.underlying 5 = some (.int .u8) := Try.underlying5
@[go_sem] theorem underBool : Try.prog.underlying 4 = some .bool := Try.underlying4
end Go.Proofs.Ytdpaflhlgaffdaa
