/- MAPS: a map of functions by numbers that the call itself makes, put and asked. Over any program. -/
import Derived.Test.YtbbnfenlpfoaiaaMem2
import Derived.MapKept
namespace Go.Proofs.Ytbbnfenlpfoaiaa
open Go.RowKit

section
variable {P : Program} {T K E : TypeId}
theorem run_put_new (hT : P.underlying T = some (.map K E)) (hK : P.underlying K = some (.int .i64)) (W : World) (r : Nat) (es : Array MapEntry) (clock : Nat) (k : Int) (v : Value) (hr : r = W.heap.size)
    (hf : Instr.findNow (.int .i64) (.int .i64 k) es.toList 0 = some none) :
    (Instr.mapUpdate T (.map (some r)) (.int .i64 k) v).run P (W.alloc (.map es clock)) = .ok () (W.alloc (.map (es.push { key := .int .i64 k, val := v, born := clock }) (clock + 1))) := by
  subst hr
  have hb : (W.alloc (.map es clock)).heap[W.heap.size]? = some (.map es clock) := by
    show (W.heap.push _)[W.heap.size]? = _
    exact Array.getElem?_push_size
  have e : ({ W.alloc (.map es clock) with heap := (W.alloc (.map es clock)).heap.setIfInBounds W.heap.size (.map (es.push { key := .int .i64 k, val := v, born := clock }) (clock + 1)) } : World) =
      W.alloc (.map (es.push { key := .int .i64 k, val := v, born := clock }) (clock + 1)) := by
    show ({ W with heap := (W.heap.push _).setIfInBounds W.heap.size _ } : World) = { W with heap := W.heap.push _ }
    congr 1
    apply Array.ext_getElem?
    intro i
    simp only [Array.getElem?_setIfInBounds, Array.getElem?_push, Array.size_push]
    split <;> rename_i h
    · subst h; simp
    · rw [if_neg (Ne.symm h), if_neg (Ne.symm h)]
  simp only [Instr.mapUpdate, Sem.run_bind, run_underlying hT, Result.andThen_ok, MapKept.run_getObj_map hb]
  rw [MapKept.run_checkKey hK (by trivial)]
  simp only [Result.andThen_ok]
  rw [MapKept.run_findKey hK hf]
  simp only [Result.andThen_ok]
  rw [MapKept.run_setObj_map _ hb, e]
theorem run_look_some (hT : P.underlying T = some (.map K E)) (hK : P.underlying K = some (.int .i64)) {w : World} {r : Nat} {es : Array MapEntry} {clock : Nat} (hb : w.heap[r]? = some (.map es clock)) {k : Int} {i : Nat} {v : Value}
    (hf : Instr.findNow (.int .i64) (.int .i64 k) es.toList 0 = some (some (i, v))) : (Instr.lookup T (.map (some r)) (.int .i64 k) false).run P w = .ok v w := by
  simp only [Instr.lookup, Sem.run_bind, run_underlying hT, Result.andThen_ok, MapKept.run_getObj_map hb, Sem.run_pure]
  rw [MapKept.run_checkKey hK (by trivial)]
  simp only [Result.andThen_ok]
  rw [MapKept.run_findKey hK hf]
  rfl
theorem run_look_none (hT : P.underlying T = some (.map K E)) (hK : P.underlying K = some (.int .i64)) {w : World} {r : Nat} {es : Array MapEntry} {clock : Nat} (hb : w.heap[r]? = some (.map es clock)) {k : Int} {z : Value}
    (hz : (zeroValue E).run P w = .ok z w)
    (hf : Instr.findNow (.int .i64) (.int .i64 k) es.toList 0 = some none) : (Instr.lookup T (.map (some r)) (.int .i64 k) false).run P w = .ok z w := by
  simp only [Instr.lookup, Sem.run_bind, run_underlying hT, Result.andThen_ok, MapKept.run_getObj_map hb, Sem.run_pure]
  rw [MapKept.run_checkKey hK (by trivial)]
  simp only [Result.andThen_ok]
  rw [MapKept.run_findKey hK hf]
  simp only [Result.andThen_ok, Sem.run_bind, hz]
  rfl
end
theorem run_equal_fn {P : Program} {t : TypeId} {ps rs : Array TypeId} {vd : Bool} {v : Value} {f : Fn} {a c : Array Value} {w : World} (ht : P.underlying t = some (.func ps rs vd)) (hv : v = .func f a c) : (Op.equal t v .nilFunc).run P w = .ok false w := by
  subst hv
  obtain ⟨d, hd⟩ : ∃ d, Op.maxDepth = d + 1 := ⟨9999, rfl⟩
  unfold Op.equal
  rw [hd]
  simp only [Op.equalIn, Sem.run_bind, run_underlying ht, Result.andThen_ok, Sem.run_pure]
theorem run_neq_fn {P : Program} {t : TypeId} {ps rs : Array TypeId} {vd : Bool} {f : Fn} {a c : Array Value} {w : World} (ht : P.underlying t = some (.func ps rs vd)) : (binOp .neq t (.func f a c) .nilFunc).run P w = .ok (.bool true) w := by
  show (do pure (Value.bool (!(← Op.equal t _ _)))).run P w = _
  simp only [Sem.run_bind, run_equal_fn ht rfl, Result.andThen_ok, Sem.run_pure]; rfl
theorem run_neq_fn0 {P : Program} {t : TypeId} {ps rs : Array TypeId} {vd : Bool} {w : World} (ht : P.underlying t = some (.func ps rs vd)) : (binOp .neq t .nilFunc .nilFunc).run P w = .ok (.bool false) w := by
  have : (Op.equal t .nilFunc .nilFunc).run P w = .ok true w := by
    obtain ⟨d, hd⟩ : ∃ d, Op.maxDepth = d + 1 := ⟨9999, rfl⟩
    unfold Op.equal
    rw [hd]
    simp only [Op.equalIn, Sem.run_bind, run_underlying ht, Result.andThen_ok, Sem.run_pure]
  show (do pure (Value.bool (!(← Op.equal t _ _)))).run P w = _
  simp only [Sem.run_bind, this, Result.andThen_ok, Sem.run_pure]; rfl
end Go.Proofs.Ytbbnfenlpfoaiaa
