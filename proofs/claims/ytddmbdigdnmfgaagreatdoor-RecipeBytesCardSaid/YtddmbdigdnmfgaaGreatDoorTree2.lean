import Derived.Test.YtddmbdigdnmfgaaGreatDoorTree
import Derived.Test.YtddmbdigdnmfgaaGreatDoorCursor
namespace Go.Proofs.YtddmbdigdnmfgaaGreatDoor
open Go.RowKit
set_option maxHeartbeats 400000
set_option maxRecDepth 100000

theorem run_lookup192 (w : World) (bm : Nat) (h : w.heap[bm]? = some (.map kindMap 4)) (k : Int) (v : Value) (i : Nat) (hf : Instr.findNow (.int .i64) (.int .i64 k) kindMap.toList 0 = some (some (i, v))) :
    (Instr.lookup 192 (.map (some bm)) (.int .i64 k) true).run Tryz.prog w = .ok (.tuple #[v, .bool true]) w := by
  have h1 : Tryz.prog.underlying 192 = some (.map 55 283) := Tryz.underlying192
  have h2 : Tryz.prog.underlying 55 = some (.int .i64) := Tryz.underlying55
  simp only [Instr.lookup, Sem.run_bind, run_underlying h1, MapKept.run_getObj_map h, Result.andThen_ok, MapKept.run_checkKey h2 (show MapKept.IsKey (.int .i64) (.int .i64 k) from rfl), MapKept.run_findKey h2 hf, Sem.run_pure, if_true]

/-- A looker at lb: how many nodes it has seen, how deep. -/
structure Looker (w : World) (lb bm : Nat) (n d : Nat) : Prop where
  blk : Blk w lb [.map (some bm), .int .i64 n, .int .i64 d] 195
  map : w.heap[bm]? = some (.map kindMap 4)
  ne : bm ≠ lb
/-- What stands in the map at the kind k: the least and the most bytes, may there be kids. -/
def KindIs (k : Int) (lo hi : Nat) (kd : Bool) : Prop := ∃ i, Instr.findNow (.int .i64) (.int .i64 k) kindMap.toList 0 = some (some (i, .agg #[.int .i64 lo, .int .i64 hi, .bool kd]))
theorem kind1 : KindIs 1 0 2048 false := ⟨0, rfl⟩
theorem kind2 : KindIs 2 0 2048 false := ⟨1, rfl⟩
theorem kind3 : KindIs 3 1 200 false := ⟨2, rfl⟩
theorem kind4 : KindIs 4 0 0 true := ⟨3, rfl⟩

theorem named179_nil (w : World) : Calls Tryz.prog 179 #[.slice none 0 0] w fun e w' => e = .returned (.bool true) ∧ w = w' := by
  go_enter Tryz.func179, Tryz.ntmps179
  go_wp2
  refine wp_loop_rounds 1 ?_
  rw [rounds_succ]
  go_wp2
  go_ret
  exact ⟨rfl, rfl⟩

theorem wp_world {P : Program} {c : Code} {Q : Exit → Act → World → Prop} {a : Act} {w : World} (I : World → Prop) (h : I w) (k : ∀ w', I w' → c.wp P Q a w') : c.wp P Q a w := k w h
theorem Looker.turn {w : World} {lb bm n d n' d' : Nat} (h : Looker w lb bm n d) : Looker ((w.setCell ⟨lb, 1, none⟩ (.int .i64 n')).setCell ⟨lb, 2, none⟩ (.int .i64 d')) lb bm n' d' :=
  ⟨(h.blk.set 1 _).set 2 _, (Below.heap_setCell _ _ _ _ h.ne).trans ((Below.heap_setCell _ _ _ _ h.ne).trans h.map), h.ne⟩

theorem Looker.alloc {w : World} {lb bm n d : Nat} (h : Looker w lb bm n d) (o : Obj) : Looker (w.alloc o) lb bm n d :=
  ⟨h.blk.alloc o, (Below.heap_alloc _ _ _ (Array.getElem?_eq_some_iff.1 h.map).1).trans h.map, h.ne⟩
theorem Looker.drew {w : World} {lb bm n d : Nat} (h : Looker w lb bm n d) : Looker w.drew lb bm n d := ⟨h.blk.drew, h.map, h.ne⟩
theorem Looker.keep {w w' : World} {G : Nat → Prop} {lb bm n d : Nat} (h : Looker w lb bm n d) (k : Keep G w w') (hl : G lb) (hm : G bm) : Looker w' lb bm n d := ⟨h.blk.keep k hl, k.heap hm h.map, h.ne⟩
theorem right119_leaf (w : World) (lb bm n d dep : Nat) (k : Int) (lo hi : Nat) (kd : Bool) (A : Option Addr) (m c : Nat) (h : Looker w lb bm n d) (hn : n < 200) (hd : d < dep) (hdep : dep ≤ 8) (hk : KindIs k lo hi kd) (hlo : lo ≤ m) (hhi : m ≤ hi) :
    Calls Tryz.prog 119 #[.pointer (some ⟨lb, 0, none⟩), .agg #[.int .i64 k, .slice A m c, .slice none 0 0], .int .i64 dep] w
      fun e w' => e = .returned (.bool true) ∧ Looker w' lb bm (n + 1) dep ∧ Keep (fun i => i ≠ lb) w w' := by
  obtain ⟨ik, hk⟩ := hk
  have H := Fact.mk h
  have c0 := h.blk.cell 0 _ rfl
  have c1 := h.blk.cell 1 _ rfl
  have c2 := h.blk.cell 2 _ rfl
  have f1 := h.blk.free 1
  have f2 := h.blk.free 2
  have hl := h.blk.lt
  clear h
  go_enter Tryz.func119, Tryz.ntmps119
  go_wp2_with fail
  refine wp_world (fun w' => Looker w' lb bm (n + 1) dep ∧ Blk w' w.heap.size [.int .i64 k, .slice A m c, .slice none 0 0] 58 ∧ Keep (fun i => i ≠ lb) w w') ?_ ?_
  · have hlw : lb ≠ w.heap.size := by omega
    have hB := Blk.new ((w.setCell ⟨lb, 1, none⟩ (.int .i64 (n + 1))).setCell ⟨lb, 2, none⟩ (.int .i64 dep)) [.int .i64 k, .slice A m c, .slice none 0 0] 58
    rw [show ((w.setCell ⟨lb, 1, none⟩ (.int .i64 (n + 1))).setCell ⟨lb, 2, none⟩ (.int .i64 dep)).heap.size = w.heap.size from by simp [World.setCell]] at hB
    exact ⟨(H.out.turn (n' := n + 1) (d' := dep)).alloc _, hB, (((Keep.refl _ w).setCell (p := ⟨lb, 1, none⟩) (.inr fun h => h rfl) _).setCell (p := ⟨lb, 2, none⟩) (.inr fun h => h rfl) _).alloc _⟩
  · rintro w0 ⟨h0, hb0, hk0⟩
    have H0 := Fact.mk h0
    have B0 := Fact.mk hb0
    have K0 := Fact.mk hk0
    clear c0 c1 c2 f1 f2 H
    have c0 := h0.blk.cell 0 _ rfl
    have c1 := h0.blk.cell 1 _ rfl
    have d0 := hb0.cell 0 _ rfl
    have d1 := hb0.cell 1 _ rfl
    have d2 := hb0.cell 2 _ rfl
    have hmap := h0.map
    clear h0 hb0 hk0
    have hbm : bm < w0.heap.size := (Array.getElem?_eq_some_iff.1 hmap).1
    have hlk := fun w' h => run_lookup192 w' bm h k _ ik hk
    have hset : ∀ (o : Obj) (v : Value) (j : Nat), ((w0.drew.alloc o).setCell ⟨w0.heap.size, j, none⟩ v).heap[bm]? = some (.map kindMap 4) := fun o v j => (Below.heap_setCell _ _ _ _ (by show bm ≠ w0.heap.size; omega)).trans ((Below.heap_alloc _ _ _ hbm).trans hmap)
    have hall : ∀ (o : Obj), (w0.drew.alloc o).heap[bm]? = some (.map kindMap 4) := fun o => (Below.heap_alloc _ _ _ hbm).trans hmap
    have hdrew : w0.drew.heap[bm]? = some (.map kindMap 4) := hmap
    go_region_held3 (fun w' => w'.cell? ⟨lb, 0, none⟩ = some (.map (some bm)) ∧ w'.cell? ⟨w.heap.size, 0, none⟩ = some (.int .i64 k) ∧ w'.heap[bm]? = some (.map kindMap 4)) (exact ⟨by go_keep, by go_keep, by first | exact hdrew | exact hall _ | exact hset _ _ _⟩) (fail)
    all_goals
      obtain ⟨w1, hw1⟩ : ∃ W, W = (w0.alloc (.cells #[.int .i64 lo, .int .i64 hi, .bool kd] 283)).drew := ⟨_, rfl⟩
      rw [← hw1]
      obtain ⟨h0, hb0, hb1, hk0⟩ : Looker w1 lb bm (n + 1) dep ∧ Blk w1 w.heap.size [.int .i64 k, .slice A m c, .slice none 0 0] 58 ∧ Blk w1 w0.heap.size [.int .i64 lo, .int .i64 hi, .bool kd] 283 ∧ Keep (fun i => i ≠ lb) w w1 := by
        subst hw1
        exact ⟨(H0.out.alloc _).drew, (B0.out.alloc _).drew, (Blk.new w0 [.int .i64 lo, .int .i64 hi, .bool kd] 283).drew, (K0.out.alloc _).drew⟩
      clear hw1
      have H1 := Fact.mk h0
      have K1 := Fact.mk hk0
      clear hlk hset hall hdrew hmap c0 c1 d0 d1 d2 hk
      have c1 := h0.blk.cell 1 _ rfl
      have d0 := hb0.cell 0 _ rfl
      have d1 := hb0.cell 1 _ rfl
      have d2 := hb0.cell 2 _ rfl
      have e0 := hb1.cell 0 _ rfl
      have e1 := hb1.cell 1 _ rfl
      have e2 := hb1.cell 2 _ rfl
      clear h0 hb0 hb1 hk0
      have g1 : ¬ (m : Int) < lo := by omega
      have g2 : ¬ (hi : Int) < m := by omega
      have g3 : ¬ (200 : Int) < ((n + 1 : Nat) : Int) := by omega
      have g4 : ¬ (8 : Int) < (dep : Int) := by omega
      go_wp2_with (first
        | (go_at_call 179; go_must (refine (named179_nil _).mono ?_); rintro e w' ⟨rfl, rfl⟩))
      all_goals
        refine wp_loop_rounds 1 ?_
        rw [rounds_succ]
        go_wp2
        go_ret
        exact ⟨rfl, H1.out, K1.out⟩
end Go.Proofs.YtddmbdigdnmfgaaGreatDoor
