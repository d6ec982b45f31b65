import Derived.Test.YtddmbdigdnmfgaaGreatDoorName
import Derived.MapKept
namespace Go.Proofs.YtddmbdigdnmfgaaGreatDoor
open Go.RowKit
set_option maxHeartbeats 400000
set_option maxRecDepth 100000

/-! ### The map of the kinds -/
theorem run_makeMap192 (w : World) : (Instr.makeMap 192 none).run Tryz.prog w = .ok (.map (some w.heap.size)) (w.alloc (.map #[] 0)) := by
  rfl
def intKey (e : MapEntry) : Prop := ∃ k : Int, e.key = .int .i64 k
theorem run_putNew (w : World) (r : Nat) (hr : r = w.heap.size) (es : Array MapEntry) (c : Nat) (k : Int) (v : Value) (hk : Instr.findNow (.int .i64) (.int .i64 k) es.toList 0 = some none) :
    (Instr.mapUpdate 192 (.map (some r)) (.int .i64 k) v).run Tryz.prog (w.alloc (.map es c)) = .ok () (w.alloc (.map (es.push ⟨.int .i64 k, v, c⟩) (c + 1))) := by
  subst hr
  have hb := (MapKept.heap_alloc w (.map es c)).1
  have h1 : Tryz.prog.underlying 192 = some (.map 55 283) := Tryz.underlying192
  have h2 : Tryz.prog.underlying 55 = some (.int .i64) := Tryz.underlying55
  simp only [Instr.mapUpdate, Sem.run_bind, run_underlying h1, MapKept.run_getObj_map hb, Result.andThen_ok, MapKept.run_checkKey h2 (show MapKept.IsKey (.int .i64) (.int .i64 k) from rfl), MapKept.run_findKey h2 hk, MapKept.run_setObj_map _ hb]
  congr 1
  simp only [World.alloc]
  congr 1
  apply Array.ext'
  simp [Array.setIfInBounds, Array.toList_push]
def v2048 : Value := .agg #[.int .i64 0, .int .i64 2048, .bool false]
def kindMap : Array MapEntry := #[⟨.int .i64 1, .agg #[.int .i64 0, .int .i64 2048, .bool false], 0⟩, ⟨.int .i64 2, .agg #[.int .i64 0, .int .i64 2048, .bool false], 1⟩, ⟨.int .i64 3, .agg #[.int .i64 1, .int .i64 200, .bool false], 2⟩, ⟨.int .i64 4, .agg #[.int .i64 0, .int .i64 0, .bool true], 3⟩]
theorem kinds118 (w : World) :
    Calls Tryz.prog 118 #[] w fun e w' => e = .returned (.map (some (w.heap.size + 1))) ∧ w' = (w.alloc (.cells #[.int .i64 0, .int .i64 2048, .bool false] 283)).alloc (.map kindMap 4) := by
  go_enter Tryz.func118, Tryz.ntmps118
  have hmk := run_makeMap192
  have p1 := run_putNew (w.alloc (.cells #[.int .i64 0, .int .i64 2048, .bool false] 283)) (w.heap.size + 1) (by simp) #[] 0 1 (.agg #[.int .i64 0, .int .i64 2048, .bool false]) rfl
  have p2 := run_putNew (w.alloc (.cells #[.int .i64 0, .int .i64 2048, .bool false] 283)) (w.heap.size + 1) (by simp) _ 1 2 (.agg #[.int .i64 0, .int .i64 2048, .bool false]) (rfl : Instr.findNow (.int .i64) (.int .i64 2) (#[⟨.int .i64 1, .agg #[.int .i64 0, .int .i64 2048, .bool false], 0⟩] : Array MapEntry).toList 0 = some none)
  have p3 := run_putNew (w.alloc (.cells #[.int .i64 0, .int .i64 2048, .bool false] 283)) (w.heap.size + 1) (by simp) _ 2 3 (.agg #[.int .i64 1, .int .i64 200, .bool false]) (rfl : Instr.findNow (.int .i64) (.int .i64 3) (#[⟨.int .i64 1, .agg #[.int .i64 0, .int .i64 2048, .bool false], 0⟩, ⟨.int .i64 2, .agg #[.int .i64 0, .int .i64 2048, .bool false], 1⟩] : Array MapEntry).toList 0 = some none)
  have p4 := run_putNew (w.alloc (.cells #[.int .i64 0, .int .i64 2048, .bool false] 283)) (w.heap.size + 1) (by simp) _ 3 4 (.agg #[.int .i64 0, .int .i64 0, .bool true]) (rfl : Instr.findNow (.int .i64) (.int .i64 4) (#[⟨.int .i64 1, .agg #[.int .i64 0, .int .i64 2048, .bool false], 0⟩, ⟨.int .i64 2, .agg #[.int .i64 0, .int .i64 2048, .bool false], 1⟩, ⟨.int .i64 3, .agg #[.int .i64 1, .int .i64 200, .bool false], 2⟩] : Array MapEntry).toList 0 = some none)
  simp only [List.push_toArray, List.nil_append, List.cons_append] at p1 p2 p3 p4
  go_wp2
  go_ret
  exact ⟨rfl, rfl⟩
end Go.Proofs.YtddmbdigdnmfgaaGreatDoor
