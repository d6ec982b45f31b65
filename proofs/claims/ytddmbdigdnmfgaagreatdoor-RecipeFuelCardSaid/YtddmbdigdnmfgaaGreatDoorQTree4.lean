/- Walks of this seat, packed. -/
import Derived.Test.YtddmbdigdnmfgaaGreatDoorQName
import Derived.MapKept
import Derived.Test.YtddmbdigdnmfgaaGreatDoorQPut
namespace Go.Proofs.YtddmbdigdnmfgaaGreatDoor
open Go.RowKit
set_option maxHeartbeats 400000
set_option maxRecDepth 100000

/-! ### The map of the kinds -/
theorem run_makeMap192 (w : World) : (Instr.makeMap 192 none).run Tryz.prog w = .ok (.map (some w.heap.size)) (w.alloc (.map #[] 0)) := by
  rfl
def intKey (e : MapEntry) : Prop := ∃ k : Int, e.key = .int .i64 k
theorem run_putNew (w : World) (r : Nat) (hr : r = w.heap.size) (es : Array MapEntry) (c : Nat) (k : Int) (v : Value) (hk : Instr.findNow (.int .i64) (.int .i64 k) es.toList 0 = some none) :
    (Instr.mapUpdate 192 (.map (some r)) (.int .i64 k) v).run Tryz.prog (w.alloc (.map es c)) = .ok () (w.alloc (.map (es.push ⟨.int .i64 k, v, c⟩) (c + 1))) := by
  subst hr
  have hb := (MapKept.heap_alloc w (.map es c)).1
  have h1 : Tryz.prog.underlying 192 = some (.map 55 283) := Tryz.underlying192
  have h2 : Tryz.prog.underlying 55 = some (.int .i64) := Tryz.underlying55
  simp only [Instr.mapUpdate, Sem.run_bind, run_underlying h1, MapKept.run_getObj_map hb, Result.andThen_ok, MapKept.run_checkKey h2 (show MapKept.IsKey (.int .i64) (.int .i64 k) from rfl), MapKept.run_findKey h2 hk, MapKept.run_setObj_map _ hb]
  congr 1
  simp only [World.alloc]
  congr 1
  apply Array.ext'
  simp [Array.setIfInBounds, Array.toList_push]
def v2048 : Value := .agg #[.int .i64 0, .int .i64 2048, .bool false]
def kindMap : Array MapEntry := #[⟨.int .i64 1, .agg #[.int .i64 0, .int .i64 2048, .bool false], 0⟩, ⟨.int .i64 2, .agg #[.int .i64 0, .int .i64 2048, .bool false], 1⟩, ⟨.int .i64 3, .agg #[.int .i64 1, .int .i64 200, .bool false], 2⟩, ⟨.int .i64 4, .agg #[.int .i64 0, .int .i64 0, .bool true], 3⟩]
theorem kinds118 (w : World) :
    Calls Tryz.prog 118 #[] w fun e w' => e = .returned (.map (some (w.heap.size + 1))) ∧ w' = (w.alloc (.cells #[.int .i64 0, .int .i64 2048, .bool false] 283)).alloc (.map kindMap 4) := by
  go_enter Tryz.func118, Tryz.ntmps118
  have hmk := run_makeMap192
  have p1 := run_putNew (w.alloc (.cells #[.int .i64 0, .int .i64 2048, .bool false] 283)) (w.heap.size + 1) (by simp) #[] 0 1 (.agg #[.int .i64 0, .int .i64 2048, .bool false]) rfl
  have p2 := run_putNew (w.alloc (.cells #[.int .i64 0, .int .i64 2048, .bool false] 283)) (w.heap.size + 1) (by simp) _ 1 2 (.agg #[.int .i64 0, .int .i64 2048, .bool false]) (rfl : Instr.findNow (.int .i64) (.int .i64 2) (#[⟨.int .i64 1, .agg #[.int .i64 0, .int .i64 2048, .bool false], 0⟩] : Array MapEntry).toList 0 = some none)
  have p3 := run_putNew (w.alloc (.cells #[.int .i64 0, .int .i64 2048, .bool false] 283)) (w.heap.size + 1) (by simp) _ 2 3 (.agg #[.int .i64 1, .int .i64 200, .bool false]) (rfl : Instr.findNow (.int .i64) (.int .i64 3) (#[⟨.int .i64 1, .agg #[.int .i64 0, .int .i64 2048, .bool false], 0⟩, ⟨.int .i64 2, .agg #[.int .i64 0, .int .i64 2048, .bool false], 1⟩] : Array MapEntry).toList 0 = some none)
  have p4 := run_putNew (w.alloc (.cells #[.int .i64 0, .int .i64 2048, .bool false] 283)) (w.heap.size + 1) (by simp) _ 3 4 (.agg #[.int .i64 0, .int .i64 0, .bool true]) (rfl : Instr.findNow (.int .i64) (.int .i64 4) (#[⟨.int .i64 1, .agg #[.int .i64 0, .int .i64 2048, .bool false], 0⟩, ⟨.int .i64 2, .agg #[.int .i64 0, .int .i64 2048, .bool false], 1⟩, ⟨.int .i64 3, .agg #[.int .i64 1, .int .i64 200, .bool false], 2⟩] : Array MapEntry).toList 0 = some none)
  simp only [List.push_toArray, List.nil_append, List.cons_append] at p1 p2 p3 p4
  go_wp2
  go_ret
  exact ⟨rfl, rfl⟩
end Go.Proofs.YtddmbdigdnmfgaaGreatDoor

namespace Go.Proofs.YtddmbdigdnmfgaaGreatDoor
open Go.RowKit
set_option maxHeartbeats 400000
set_option maxRecDepth 100000

theorem run_lookup192 (w : World) (bm : Nat) (h : w.heap[bm]? = some (.map kindMap 4)) (k : Int) (v : Value) (i : Nat) (hf : Instr.findNow (.int .i64) (.int .i64 k) kindMap.toList 0 = some (some (i, v))) :
    (Instr.lookup 192 (.map (some bm)) (.int .i64 k) true).run Tryz.prog w = .ok (.tuple #[v, .bool true]) w := by
  have h1 : Tryz.prog.underlying 192 = some (.map 55 283) := Tryz.underlying192
  have h2 : Tryz.prog.underlying 55 = some (.int .i64) := Tryz.underlying55
  simp only [Instr.lookup, Sem.run_bind, run_underlying h1, MapKept.run_getObj_map h, Result.andThen_ok, MapKept.run_checkKey h2 (show MapKept.IsKey (.int .i64) (.int .i64 k) from rfl), MapKept.run_findKey h2 hf, Sem.run_pure, if_true]

/-- A looker at lb: how many nodes it has seen, how deep. -/
structure Looker (w : World) (lb bm : Nat) (n d : Nat) : Prop where
  blk : Blk w lb [.map (some bm), .int .i64 n, .int .i64 d] 195
  map : w.heap[bm]? = some (.map kindMap 4)
  ne : bm ≠ lb
/-- What stands in the map at the kind k: the least and the most bytes, may there be kids. -/
def KindIs (k : Int) (lo hi : Nat) (kd : Bool) : Prop := ∃ i, Instr.findNow (.int .i64) (.int .i64 k) kindMap.toList 0 = some (some (i, .agg #[.int .i64 lo, .int .i64 hi, .bool kd]))
theorem kind1 : KindIs 1 0 2048 false := ⟨0, rfl⟩
theorem kind2 : KindIs 2 0 2048 false := ⟨1, rfl⟩
theorem kind3 : KindIs 3 1 200 false := ⟨2, rfl⟩
theorem kind4 : KindIs 4 0 0 true := ⟨3, rfl⟩

theorem named179_nil (w : World) : Calls Tryz.prog 179 #[.slice none 0 0] w fun e w' => e = .returned (.bool true) ∧ w = w' := by
  go_enter Tryz.func179, Tryz.ntmps179
  go_wp2
  refine wp_loop_rounds 1 ?_
  rw [rounds_succ]
  go_wp2
  go_ret
  exact ⟨rfl, rfl⟩

theorem wp_world {P : Program} {c : Code} {Q : Exit → Act → World → Prop} {a : Act} {w : World} (I : World → Prop) (h : I w) (k : ∀ w', I w' → c.wp P Q a w') : c.wp P Q a w := k w h
theorem Looker.turn {w : World} {lb bm n d n' d' : Nat} (h : Looker w lb bm n d) : Looker ((w.setCell ⟨lb, 1, none⟩ (.int .i64 n')).setCell ⟨lb, 2, none⟩ (.int .i64 d')) lb bm n' d' :=
  ⟨(h.blk.set 1 _).set 2 _, (Below.heap_setCell _ _ _ _ h.ne).trans ((Below.heap_setCell _ _ _ _ h.ne).trans h.map), h.ne⟩

theorem Looker.alloc {w : World} {lb bm n d : Nat} (h : Looker w lb bm n d) (o : Obj) : Looker (w.alloc o) lb bm n d :=
  ⟨h.blk.alloc o, (Below.heap_alloc _ _ _ (Array.getElem?_eq_some_iff.1 h.map).1).trans h.map, h.ne⟩
theorem Looker.drew {w : World} {lb bm n d : Nat} (h : Looker w lb bm n d) : Looker w.drew lb bm n d := ⟨h.blk.drew, h.map, h.ne⟩
theorem Looker.keep {w w' : World} {G : Nat → Prop} {lb bm n d : Nat} (h : Looker w lb bm n d) (k : Keep G w w') (hl : G lb) (hm : G bm) : Looker w' lb bm n d := ⟨h.blk.keep k hl, k.heap hm h.map, h.ne⟩
theorem right119_leaf (w : World) (lb bm n d dep : Nat) (k : Int) (lo hi : Nat) (kd : Bool) (A : Option Addr) (m c : Nat) (h : Looker w lb bm n d) (hn : n < 200) (hd : d < dep) (hdep : dep ≤ 8) (hk : KindIs k lo hi kd) (hlo : lo ≤ m) (hhi : m ≤ hi) :
    Calls Tryz.prog 119 #[.pointer (some ⟨lb, 0, none⟩), .agg #[.int .i64 k, .slice A m c, .slice none 0 0], .int .i64 dep] w
      fun e w' => e = .returned (.bool true) ∧ Looker w' lb bm (n + 1) dep ∧ Keep (fun i => i ≠ lb) w w' := by
  obtain ⟨ik, hk⟩ := hk
  have H := Fact.mk h
  have c0 := h.blk.cell 0 _ rfl
  have c1 := h.blk.cell 1 _ rfl
  have c2 := h.blk.cell 2 _ rfl
  have f1 := h.blk.free 1
  have f2 := h.blk.free 2
  have hl := h.blk.lt
  clear h
  go_enter Tryz.func119, Tryz.ntmps119
  go_wp2_with fail
  refine wp_world (fun w' => Looker w' lb bm (n + 1) dep ∧ Blk w' w.heap.size [.int .i64 k, .slice A m c, .slice none 0 0] 58 ∧ Keep (fun i => i ≠ lb) w w') ?_ ?_
  · have hlw : lb ≠ w.heap.size := by omega
    have hB := Blk.new ((w.setCell ⟨lb, 1, none⟩ (.int .i64 (n + 1))).setCell ⟨lb, 2, none⟩ (.int .i64 dep)) [.int .i64 k, .slice A m c, .slice none 0 0] 58
    rw [show ((w.setCell ⟨lb, 1, none⟩ (.int .i64 (n + 1))).setCell ⟨lb, 2, none⟩ (.int .i64 dep)).heap.size = w.heap.size from by simp [World.setCell]] at hB
    exact ⟨(H.out.turn (n' := n + 1) (d' := dep)).alloc _, hB, (((Keep.refl _ w).setCell (p := ⟨lb, 1, none⟩) (.inr fun h => h rfl) _).setCell (p := ⟨lb, 2, none⟩) (.inr fun h => h rfl) _).alloc _⟩
  · rintro w0 ⟨h0, hb0, hk0⟩
    have H0 := Fact.mk h0
    have B0 := Fact.mk hb0
    have K0 := Fact.mk hk0
    clear c0 c1 c2 f1 f2 H
    have c0 := h0.blk.cell 0 _ rfl
    have c1 := h0.blk.cell 1 _ rfl
    have d0 := hb0.cell 0 _ rfl
    have d1 := hb0.cell 1 _ rfl
    have d2 := hb0.cell 2 _ rfl
    have hmap := h0.map
    clear h0 hb0 hk0
    have hbm : bm < w0.heap.size := (Array.getElem?_eq_some_iff.1 hmap).1
    have hlk := fun w' h => run_lookup192 w' bm h k _ ik hk
    have hset : ∀ (o : Obj) (v : Value) (j : Nat), ((w0.drew.alloc o).setCell ⟨w0.heap.size, j, none⟩ v).heap[bm]? = some (.map kindMap 4) := fun o v j => (Below.heap_setCell _ _ _ _ (by show bm ≠ w0.heap.size; omega)).trans ((Below.heap_alloc _ _ _ hbm).trans hmap)
    have hall : ∀ (o : Obj), (w0.drew.alloc o).heap[bm]? = some (.map kindMap 4) := fun o => (Below.heap_alloc _ _ _ hbm).trans hmap
    have hdrew : w0.drew.heap[bm]? = some (.map kindMap 4) := hmap
    go_region_held3 (fun w' => w'.cell? ⟨lb, 0, none⟩ = some (.map (some bm)) ∧ w'.cell? ⟨w.heap.size, 0, none⟩ = some (.int .i64 k) ∧ w'.heap[bm]? = some (.map kindMap 4)) (exact ⟨by go_keep, by go_keep, by first | exact hdrew | exact hall _ | exact hset _ _ _⟩) (fail)
    all_goals
      obtain ⟨w1, hw1⟩ : ∃ W, W = (w0.alloc (.cells #[.int .i64 lo, .int .i64 hi, .bool kd] 283)).drew := ⟨_, rfl⟩
      rw [← hw1]
      obtain ⟨h0, hb0, hb1, hk0⟩ : Looker w1 lb bm (n + 1) dep ∧ Blk w1 w.heap.size [.int .i64 k, .slice A m c, .slice none 0 0] 58 ∧ Blk w1 w0.heap.size [.int .i64 lo, .int .i64 hi, .bool kd] 283 ∧ Keep (fun i => i ≠ lb) w w1 := by
        subst hw1
        exact ⟨(H0.out.alloc _).drew, (B0.out.alloc _).drew, (Blk.new w0 [.int .i64 lo, .int .i64 hi, .bool kd] 283).drew, (K0.out.alloc _).drew⟩
      clear hw1
      have H1 := Fact.mk h0
      have K1 := Fact.mk hk0
      clear hlk hset hall hdrew hmap c0 c1 d0 d1 d2 hk
      have c1 := h0.blk.cell 1 _ rfl
      have d0 := hb0.cell 0 _ rfl
      have d1 := hb0.cell 1 _ rfl
      have d2 := hb0.cell 2 _ rfl
      have e0 := hb1.cell 0 _ rfl
      have e1 := hb1.cell 1 _ rfl
      have e2 := hb1.cell 2 _ rfl
      clear h0 hb0 hb1 hk0
      have g1 : ¬ (m : Int) < lo := by omega
      have g2 : ¬ (hi : Int) < m := by omega
      have g3 : ¬ (200 : Int) < ((n + 1 : Nat) : Int) := by omega
      have g4 : ¬ (8 : Int) < (dep : Int) := by omega
      go_wp2_with (first
        | (go_at_call 179; go_must (refine (named179_nil _).mono ?_); rintro e w' ⟨rfl, rfl⟩))
      all_goals
        refine wp_loop_rounds 1 ?_
        rw [rounds_succ]
        go_wp2
        go_ret
        exact ⟨rfl, H1.out, K1.out⟩
end Go.Proofs.YtddmbdigdnmfgaaGreatDoor

namespace Go.Proofs.YtddmbdigdnmfgaaGreatDoor
open Go.RowKit
set_option maxHeartbeats 400000
set_option maxRecDepth 100000

/-- One kid's cells at ⟨kb, off⟩: its name, and a leaf. -/
structure KidAt (w : World) (kb off : Nat) (s : ByteArray) (k : Int) (A : Option Addr) (m c : Nat) : Prop where
  name : w.cell? ⟨kb, off, none⟩ = some (.string s)
  kind : w.cell? ⟨kb, off + 1, none⟩ = some (.int .i64 k)
  bytes : w.cell? ⟨kb, off + 2, none⟩ = some (.slice A m c)
  kids : w.cell? ⟨kb, off + 3, none⟩ = some (.slice none 0 0)
theorem KidAt.keep {w w' : World} {G : Nat → Prop} {kb off m c : Nat} {s : ByteArray} {k : Int} {A : Option Addr} (h : KidAt w kb off s k A m c) (hk : Keep G w w') (hg : G kb) : KidAt w' kb off s k A m c :=
  ⟨hk.cell (p := ⟨kb, off, none⟩) hg h.name, hk.cell (p := ⟨kb, off + 1, none⟩) hg h.kind, hk.cell (p := ⟨kb, off + 2, none⟩) hg h.bytes, hk.cell (p := ⟨kb, off + 3, none⟩) hg h.kids⟩

section
variable {P : Program} {l : List Oper} {Q : Exit → Act → World → Prop} {md : Region.Mode} {S : World → Prop}
theorem take_yes {i : Nat} {oi : Oper} {v : Value} {fuel : Nat} {listed : Array Bool} {a : Act} {w : World} (hi : l[i]? = some oi)
    (hs : Region.noSelect l.toArray = true) (hf : Region.free md l.toArray listed i = true) (hr : (Region.ready md l.toArray listed).contains i = true)
    (hQ : ∀ c a w, Q (.panic c) (a.put oi.dst v) w → Q (.panic c) a w) (hw : Region.wanted oi (yielded l.toArray a.tmps) = true)
    (hy : ∀ w, S w → (execOp a.eval oi).run P w = .ok (.value v) w) (hS : S w)
    (h : wpAnyH P md l.toArray Q S fuel (listed.setIfInBounds i true) (a.put oi.dst v) w) : wpAnyH P md l.toArray Q S (fuel + 1) listed a w :=
  wpAnyH_take (by simpa using hi) hs hf hr hQ (.inl ⟨hw, hy⟩) hS h
theorem take_no {i : Nat} {oi : Oper} {fuel : Nat} {listed : Array Bool} {a : Act} {w : World} (hi : l[i]? = some oi)
    (hs : Region.noSelect l.toArray = true) (hf : Region.free md l.toArray listed i = true) (hr : (Region.ready md l.toArray listed).contains i = true)
    (hQ : ∀ c a w, Q (.panic c) (a.put oi.dst undef) w → Q (.panic c) a w) (hw : Region.wanted oi (yielded l.toArray a.tmps) = false) (hS : S w)
    (h : wpAnyH P md l.toArray Q S fuel (listed.setIfInBounds i true) (a.put oi.dst undef) w) : wpAnyH P md l.toArray Q S (fuel + 1) listed a w :=
  wpAnyH_take (by simpa using hi) hs hf hr hQ (.inr ⟨hw, rfl⟩) hS h
end

theorem named179_one (w : World) (kb off : Nat) (s : ByteArray) (k : Int) (A : Option Addr) (m c cc : Nat) (h : KidAt w kb off s k A m c) (hs : NameOk s) :
    Calls Tryz.prog 179 #[.slice (some ⟨kb, off, none⟩) 1 cc] w fun e w' => e = .returned (.bool true) ∧ Keep All w w' := by
  have h0 := h.name
  have h1 := h.kind
  have h2 := h.bytes
  have h3 := h.kids
  have hlt := World.block_lt_of_cell? w _ h0
  have HS := Fact.mk hs
  clear h hs
  go_enter Tryz.func179, Tryz.ntmps179
  go_wp2
  refine wp_loop_rounds 2 ?_
  rw [rounds_succ]
  go_wp2_with fail
  have B := Fact.mk (Blk.new w [.string s, .int .i64 k, .slice A m c, .slice none 0 0] 71)
  refine wp_region_held_drew (S := fun w' => w'.cell? ⟨w.heap.size, 0, none⟩ = some (.string s)) (by kernel_rfl) ?_ (fun hHeld => ?_)
  · go_keep
  refine take_yes (i := 0) (v := .pointer (some ⟨w.heap.size, 0, none⟩)) rfl (by kernel_rfl) (by kernel_rfl) (by kernel_rfl) (fun _ _ _ h => h) rfl (by intro w hSw; (try dsimp only at hSw); go_simp) (by assumption) ?_
  try simp only [Act.put, List.setIfInBounds_toArray, List.set_cons_zero, List.set_cons_succ]
  refine take_yes (i := 1) (v := .string s) rfl (by kernel_rfl) (by kernel_rfl) (by kernel_rfl) (fun _ _ _ h => h) rfl (by intro w hSw; (try dsimp only at hSw); go_simp) (by assumption) ?_
  try simp only [Act.put, List.setIfInBounds_toArray, List.set_cons_zero, List.set_cons_succ]
  refine wpAnyH_ready (rs := [2]) (by kernel_rfl) (by simp) ?_
  refine AllReadyH.cons rfl (fun K hK => ?_) AllReadyH.nil
  go_simp
  go_at_call 110
  refine (name110 _ _ HS.out).mono ?_
  rintro e w1 ⟨rfl, hk⟩
  have K1 := Fact.mk hk
  have hc := (B.out.drew.keep hk trivial).cell 0 _ rfl
  clear hk hHeld
  go_wp2_with fail
  refine hK.out _ _ hc (fun hHeld => ?_)
  clear hK K
  try simp only [Act.put, List.setIfInBounds_toArray, List.set_cons_zero, List.set_cons_succ]
  refine take_yes (i := 3) (v := .bool false) rfl (by kernel_rfl) (by kernel_rfl) (by kernel_rfl) (fun _ _ _ h => h) rfl (by intro w hSw; (try dsimp only at hSw); go_simp) (by assumption) ?_
  try simp only [Act.put, List.setIfInBounds_toArray, List.set_cons_zero, List.set_cons_succ]
  refine take_yes (i := 4) (v := .bool false) rfl (by kernel_rfl) (by kernel_rfl) (by kernel_rfl) (fun _ _ _ h => h) rfl (by intro w hSw; (try dsimp only at hSw); go_simp) (by assumption) ?_
  try simp only [Act.put, List.setIfInBounds_toArray, List.set_cons_zero, List.set_cons_succ]
  refine take_yes (i := 5) (v := .int .i64 0) rfl (by kernel_rfl) (by kernel_rfl) (by kernel_rfl) (fun _ _ _ h => h) rfl (by intro w hSw; (try dsimp only at hSw); go_simp) (by assumption) ?_
  try simp only [Act.put, List.setIfInBounds_toArray, List.set_cons_zero, List.set_cons_succ]
  refine take_yes (i := 6) (v := .bool false) rfl (by kernel_rfl) (by kernel_rfl) (by kernel_rfl) (fun _ _ _ h => h) rfl (by intro w hSw; (try dsimp only at hSw); go_simp) (by assumption) ?_
  try simp only [Act.put, List.setIfInBounds_toArray, List.set_cons_zero, List.set_cons_succ]
  refine take_yes (i := 7) (v := .bool false) rfl (by kernel_rfl) (by kernel_rfl) (by kernel_rfl) (fun _ _ _ h => h) rfl (by intro w hSw; (try dsimp only at hSw); go_simp) (by assumption) ?_
  try simp only [Act.put, List.setIfInBounds_toArray, List.set_cons_zero, List.set_cons_succ]
  refine take_no (i := 8) rfl (by kernel_rfl) (by kernel_rfl) (by kernel_rfl) (fun _ _ _ h => h) rfl (by assumption) ?_
  try simp only [Act.put, List.setIfInBounds_toArray, List.set_cons_zero, List.set_cons_succ]
  refine take_no (i := 9) rfl (by kernel_rfl) (by kernel_rfl) (by kernel_rfl) (fun _ _ _ h => h) rfl (by assumption) ?_
  try simp only [Act.put, List.setIfInBounds_toArray, List.set_cons_zero, List.set_cons_succ]
  refine take_no (i := 10) rfl (by kernel_rfl) (by kernel_rfl) (by kernel_rfl) (fun _ _ _ h => h) rfl (by assumption) ?_
  try simp only [Act.put, List.setIfInBounds_toArray, List.set_cons_zero, List.set_cons_succ]
  refine take_no (i := 11) rfl (by kernel_rfl) (by kernel_rfl) (by kernel_rfl) (fun _ _ _ h => h) rfl (by assumption) ?_
  try simp only [Act.put, List.setIfInBounds_toArray, List.set_cons_zero, List.set_cons_succ]
  refine take_no (i := 12) rfl (by kernel_rfl) (by kernel_rfl) (by kernel_rfl) (fun _ _ _ h => h) rfl (by assumption) ?_
  try simp only [Act.put, List.setIfInBounds_toArray, List.set_cons_zero, List.set_cons_succ]
  refine take_no (i := 13) rfl (by kernel_rfl) (by kernel_rfl) (by kernel_rfl) (fun _ _ _ h => h) rfl (by assumption) ?_
  try simp only [Act.put, List.setIfInBounds_toArray, List.set_cons_zero, List.set_cons_succ]
  refine take_no (i := 14) rfl (by kernel_rfl) (by kernel_rfl) (by kernel_rfl) (fun _ _ _ h => h) rfl (by assumption) ?_
  try simp only [Act.put, List.setIfInBounds_toArray, List.set_cons_zero, List.set_cons_succ]
  refine take_no (i := 15) rfl (by kernel_rfl) (by kernel_rfl) (by kernel_rfl) (fun _ _ _ h => h) rfl (by assumption) ?_
  try simp only [Act.put, List.setIfInBounds_toArray, List.set_cons_zero, List.set_cons_succ]
  refine take_no (i := 16) rfl (by kernel_rfl) (by kernel_rfl) (by kernel_rfl) (fun _ _ _ h => h) rfl (by assumption) ?_
  try simp only [Act.put, List.setIfInBounds_toArray, List.set_cons_zero, List.set_cons_succ]
  refine take_yes (i := 17) (v := .bool false) rfl (by kernel_rfl) (by kernel_rfl) (by kernel_rfl) (fun _ _ _ h => h) rfl (by intro w hSw; (try dsimp only at hSw); go_simp) (by assumption) ?_
  try simp only [Act.put, List.setIfInBounds_toArray, List.set_cons_zero, List.set_cons_succ]
  refine take_yes (i := 18) (v := .bool false) rfl (by kernel_rfl) (by kernel_rfl) (by kernel_rfl) (fun _ _ _ h => h) rfl (by intro w hSw; (try dsimp only at hSw); go_simp) (by assumption) ?_
  try simp only [Act.put, List.setIfInBounds_toArray, List.set_cons_zero, List.set_cons_succ]
  refine wpAnyH_done (by kernel_rfl) ?_ _
  go_wp2
  rw [rounds_succ]
  go_wp2
  go_ret
  exact ⟨rfl, (((Keep.refl _ w).alloc _).drew).trans K1.out⟩
end Go.Proofs.YtddmbdigdnmfgaaGreatDoor

namespace Go.Proofs.YtddmbdigdnmfgaaGreatDoor
open Go.RowKit
set_option maxHeartbeats 400000
set_option maxRecDepth 100000

theorem right119_dir (w : World) (lb bm n d dep : Nat) (A0 : Option Addr) (c0' : Nat) (kb off cc : Nat) (s : ByteArray) (k : Int) (lo hi : Nat) (kd : Bool) (A : Option Addr) (m c : Nat) (h : Looker w lb bm n d) (hn : n + 1 < 200) (hd : d < dep) (hdep : dep + 1 ≤ 8) (hkid : KidAt w kb off s k A m c) (hs : NameOk s) (hne : kb ≠ lb) (hkk : KindIs k lo hi kd) (hlo : lo ≤ m) (hhi : m ≤ hi) :
    Calls Tryz.prog 119 #[.pointer (some ⟨lb, 0, none⟩), .agg #[.int .i64 4, .slice A0 0 c0', .slice (some ⟨kb, off, none⟩) 1 cc], .int .i64 dep] w
      fun e w' => e = .returned (.bool true) ∧ Looker w' lb bm (n + 2) (dep + 1) ∧ Keep (fun i => i ≠ lb) w w' := by
  obtain ⟨ik, hk⟩ := kind4
  have HKID := Fact.mk hkid
  have HS := Fact.mk hs
  have HKK := Fact.mk hkk
  clear hkid hs hkk
  have H := Fact.mk h
  have c0 := h.blk.cell 0 _ rfl
  have c1 := h.blk.cell 1 _ rfl
  have c2 := h.blk.cell 2 _ rfl
  have f1 := h.blk.free 1
  have f2 := h.blk.free 2
  have hl := h.blk.lt
  clear h
  go_enter Tryz.func119, Tryz.ntmps119
  go_wp2_with fail
  refine wp_world (fun w' => Looker w' lb bm (n + 1) dep ∧ Blk w' w.heap.size [.int .i64 4, .slice A0 0 c0', .slice (some ⟨kb, off, none⟩) 1 cc] 58 ∧ Keep (fun i => i ≠ lb) w w') ?_ ?_
  · have hlw : lb ≠ w.heap.size := by omega
    have hB := Blk.new ((w.setCell ⟨lb, 1, none⟩ (.int .i64 (n + 1))).setCell ⟨lb, 2, none⟩ (.int .i64 dep)) [.int .i64 4, .slice A0 0 c0', .slice (some ⟨kb, off, none⟩) 1 cc] 58
    rw [show ((w.setCell ⟨lb, 1, none⟩ (.int .i64 (n + 1))).setCell ⟨lb, 2, none⟩ (.int .i64 dep)).heap.size = w.heap.size from by simp [World.setCell]] at hB
    exact ⟨(H.out.turn (n' := n + 1) (d' := dep)).alloc _, hB, (((Keep.refl _ w).setCell (p := ⟨lb, 1, none⟩) (.inr fun h => h rfl) _).setCell (p := ⟨lb, 2, none⟩) (.inr fun h => h rfl) _).alloc _⟩
  · rintro w0 ⟨h0, hb0, hk0⟩
    have H0 := Fact.mk h0
    have B0 := Fact.mk hb0
    have K0 := Fact.mk hk0
    clear c0 c1 c2 f1 f2 H
    have c0 := h0.blk.cell 0 _ rfl
    have c1 := h0.blk.cell 1 _ rfl
    have d0 := hb0.cell 0 _ rfl
    have d1 := hb0.cell 1 _ rfl
    have d2 := hb0.cell 2 _ rfl
    have hmap := h0.map
    clear h0 hb0 hk0
    have hbm : bm < w0.heap.size := (Array.getElem?_eq_some_iff.1 hmap).1
    have hlk := fun w' h => run_lookup192 w' bm h 4 _ ik hk
    have hset : ∀ (o : Obj) (v : Value) (j : Nat), ((w0.drew.alloc o).setCell ⟨w0.heap.size, j, none⟩ v).heap[bm]? = some (.map kindMap 4) := fun o v j => (Below.heap_setCell _ _ _ _ (by show bm ≠ w0.heap.size; omega)).trans ((Below.heap_alloc _ _ _ hbm).trans hmap)
    have hall : ∀ (o : Obj), (w0.drew.alloc o).heap[bm]? = some (.map kindMap 4) := fun o => (Below.heap_alloc _ _ _ hbm).trans hmap
    have hdrew : w0.drew.heap[bm]? = some (.map kindMap 4) := hmap
    go_region_held3 (fun w' => w'.cell? ⟨lb, 0, none⟩ = some (.map (some bm)) ∧ w'.cell? ⟨w.heap.size, 0, none⟩ = some (.int .i64 4) ∧ w'.heap[bm]? = some (.map kindMap 4)) (exact ⟨by go_keep, by go_keep, by first | exact hdrew | exact hall _ | exact hset _ _ _⟩) (fail)
    all_goals
      obtain ⟨w1, hw1⟩ : ∃ W, W = (w0.alloc (.cells #[.int .i64 0, .int .i64 0, .bool true] 283)).drew := ⟨_, rfl⟩
      rw [← hw1]
      obtain ⟨h0, hb0, hb1, hk0⟩ : Looker w1 lb bm (n + 1) dep ∧ Blk w1 w.heap.size [.int .i64 4, .slice A0 0 c0', .slice (some ⟨kb, off, none⟩) 1 cc] 58 ∧ Blk w1 w0.heap.size [.int .i64 0, .int .i64 0, .bool true] 283 ∧ Keep (fun i => i ≠ lb) w w1 := by
        subst hw1
        exact ⟨(H0.out.alloc _).drew, (B0.out.alloc _).drew, (Blk.new w0 [.int .i64 0, .int .i64 0, .bool true] 283).drew, (K0.out.alloc _).drew⟩
      clear hw1
      have H1 := Fact.mk h0
      have K1 := Fact.mk hk0
      clear hlk hset hall hdrew hmap c0 c1 d0 d1 d2 hk
      have c1 := h0.blk.cell 1 _ rfl
      have d0 := hb0.cell 0 _ rfl
      have d1 := hb0.cell 1 _ rfl
      have d2 := hb0.cell 2 _ rfl
      have e0 := hb1.cell 0 _ rfl
      have e1 := hb1.cell 1 _ rfl
      have e2 := hb1.cell 2 _ rfl
      clear h0 hb0 hb1 hk0
      have g3 : ¬ (200 : Int) < ((n + 1 : Nat) : Int) := by omega
      have g4 : ¬ (8 : Int) < (dep : Int) := by omega
      have HKID1 := Fact.mk (HKID.out.keep K1.out hne)
      go_wp2_with (first
        | (go_at_call 179; go_must (refine (named179_one _ _ _ _ _ _ _ _ _ HKID1.out HS.out).mono ?_); rintro e w2 ⟨rfl, hk2⟩; have K2 := Fact.mk (K1.out.trans (hk2.mono fun _ _ => trivial)); have H2 := Fact.mk (H1.out.keep hk2 trivial trivial); have HKID2 := Fact.mk (HKID1.out.keep hk2 trivial); have q0 := HKID2.out.name; have q1 := HKID2.out.kind; have q2 := HKID2.out.bytes; have q3 := HKID2.out.kids; have d2' := hk2.cell (p := ⟨w.heap.size, 2, none⟩) trivial d2; clear hk2 c1 d0 d1 e0 e1 e2))
      refine wp_loop_rounds 2 ?_
      rw [rounds_succ]
      go_wp2_with (first
        | (go_at_call 119; go_must (refine (right119_leaf _ lb bm (n + 1) (dep) (dep + 1) k lo hi kd A m c (H2.out.alloc _) (by omega) (by omega) hdep HKK.out hlo hhi).mono ?_); rintro e w3 ⟨rfl, h3, hk3⟩; have H3 := Fact.mk h3; have K3 := Fact.mk ((K2.out.alloc _).trans hk3); clear h3 hk3))
      rw [rounds_succ]
      go_wp2
      go_ret
      exact ⟨rfl, H3.out, K3.out⟩
end Go.Proofs.YtddmbdigdnmfgaaGreatDoor
