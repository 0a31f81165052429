/- NODES as arguments. -/
/- G -/
import Derived.Test.YtiidfcadmdahmaaGScrC
import Derived.Test.YtiidfcadmdahmaaFrameN
set_option linter.unusedSimpArgs false
set_option linter.unusedVariables false
namespace Go.Proofs.Ytiidfcadmdahmaa
set_option maxRecDepth 100000
open Go.ChangeShapes Go.WideShapes Go.ChangeAt Go.RowKit Go.Deep

theorem open_st : OpenT Try.prog 39 (fun s : LSty => [.raw (.int .i64 s.top), .raw (.int .i64 s.bottom), .raw (.int .i64 s.padTop), .raw (.int .i64 s.padBottom), .raw (.int .i64 s.inset), .raw (.int .i64 s.orphans), .raw (.int .i64 s.widows), .raw (.int .i64 s.head), .raw (.int .i64 s.before), .raw (.int .i64 s.after), .raw (.int .i64 s.inside), .raw (.int .i64 s.clear)]) (fun _ => True) := ⟨fun {H enc w fuel cs y} h => by
  obtain ⟨ys, n, -, -, hlen, hyl, hg⟩ := DataW.trod_struct Try.underlying39 h
  have hcs : cs.length = 12 := hlen.trans (by kernel_rfl)
  obtain ⟨z0, c0, i0⟩ := fld hg hyl 0 1 (open_i Try.underlying3) 0 rfl rfl rfl (by kernel_rfl)
  obtain ⟨z1, c1, i1⟩ := fld hg hyl 1 1 (open_i Try.underlying3) 1 rfl rfl rfl (by kernel_rfl)
  obtain ⟨z2, c2, i2⟩ := fld hg hyl 2 1 (open_i Try.underlying3) 2 rfl rfl rfl (by kernel_rfl)
  obtain ⟨z3, c3, i3⟩ := fld hg hyl 3 1 (open_i Try.underlying3) 3 rfl rfl rfl (by kernel_rfl)
  obtain ⟨z4, c4, i4⟩ := fld hg hyl 4 1 (open_i Try.underlying3) 4 rfl rfl rfl (by kernel_rfl)
  obtain ⟨z5, c5, i5⟩ := fld hg hyl 5 1 (open_i Try.underlying3) 5 rfl rfl rfl (by kernel_rfl)
  obtain ⟨z6, c6, i6⟩ := fld hg hyl 6 1 (open_i Try.underlying3) 6 rfl rfl rfl (by kernel_rfl)
  obtain ⟨z7, c7, i7⟩ := fld hg hyl 7 1 (open_i Try.underlying3) 7 rfl rfl rfl (by kernel_rfl)
  obtain ⟨z8, c8, i8⟩ := fld hg hyl 8 1 (open_i Try.underlying3) 8 rfl rfl rfl (by kernel_rfl)
  obtain ⟨z9, c9, i9⟩ := fld hg hyl 9 1 (open_i Try.underlying3) 9 rfl rfl rfl (by kernel_rfl)
  obtain ⟨z10, c10, i10⟩ := fld hg hyl 10 1 (open_i Try.underlying3) 10 rfl rfl rfl (by kernel_rfl)
  obtain ⟨z11, c11, i11⟩ := fld hg hyl 11 1 (open_i Try.underlying3) 11 rfl rfl rfl (by kernel_rfl)
  exact ⟨⟨z0, z1, z2, z3, z4, z5, z6, z7, z8, z9, z10, z11⟩, cr_all hcs (cr_app c0 (cr_app c1 (cr_app c2 (cr_app c3 (cr_app c4 (cr_app c5 (cr_app c6 (cr_app c7 (cr_app c8 (cr_app c9 (cr_app c10 c11))))))))))), trivial⟩⟩
theorem open_no : OpenT Try.prog 41 cNo (fun x : LNo => x.words.length ≤ 9223372036854775807) := ⟨fun {H enc w fuel cs y} h => by
  obtain ⟨ys, n, -, -, hlen, hyl, hg⟩ := DataW.trod_struct Try.underlying41 h
  have hcs : cs.length = 20 := hlen.trans (by kernel_rfl)
  obtain ⟨z0, c0, i0⟩ := fld hg hyl 0 1 (open_i Try.underlying3) 0 rfl rfl rfl (by kernel_rfl)
  obtain ⟨z1, c1, i1⟩ := fld hg hyl 1 1 (open_i Try.underlying3) 1 rfl rfl rfl (by kernel_rfl)
  obtain ⟨z2, c2, i2⟩ := fld hg hyl 2 12 open_st 2 rfl rfl rfl (by kernel_rfl)
  obtain ⟨z3, c3, i3⟩ := fld hg hyl 14 1 (open_i Try.underlying3) 3 rfl rfl rfl (by kernel_rfl)
  obtain ⟨z4, c4, i4⟩ := fld hg hyl 15 1 (open_i Try.underlying3) 4 rfl rfl rfl (by kernel_rfl)
  obtain ⟨z5, c5, i5⟩ := fld hg hyl 16 1 (open_sl Try.underlying27 (by kernel_rfl) (Nat.zero_lt_succ _) (fun _ => rfl) (open_i Try.underlying3)) 5 rfl rfl rfl (by kernel_rfl)
  obtain ⟨z6, c6, i6⟩ := fld hg hyl 17 1 (open_i Try.underlying3) 6 rfl rfl rfl (by kernel_rfl)
  obtain ⟨z7, c7, i7⟩ := fld hg hyl 18 1 (open_i Try.underlying3) 7 rfl rfl rfl (by kernel_rfl)
  obtain ⟨z8, c8, i8⟩ := fld hg hyl 19 1 (open_i Try.underlying3) 8 rfl rfl rfl (by kernel_rfl)
  exact ⟨⟨z0, z1, z2, z3, z4, z5, z6, z7, z8⟩, cr_all hcs (cr_app c0 (cr_app c1 (cr_app c2 (cr_app c3 (cr_app c4 (cr_app c5 (cr_app c6 (cr_app c7 c8)))))))), i5.1⟩⟩
theorem open_nos : OpenT Try.prog 22 (fun xs : List LNo => [.sl 20 (xs.map cNo)]) (fun xs => xs.length ≤ 9223372036854775807 ∧ ∀ x ∈ xs, (fun x : LNo => x.words.length ≤ 9223372036854775807) x) := open_sl Try.underlying22 (by kernel_rfl) (Nat.zero_lt_succ _) (fun _ => rfl) open_no
end Go.Proofs.Ytiidfcadmdahmaa
