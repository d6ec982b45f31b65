import Derived.Test.YtddmbdigdnmfgaaGreatDoorTree3
namespace Go.Proofs.YtddmbdigdnmfgaaGreatDoor
open Go.RowKit
set_option maxHeartbeats 400000
set_option maxRecDepth 100000

theorem right119_dir (w : World) (lb bm n d dep : Nat) (A0 : Option Addr) (c0' : Nat) (kb off cc : Nat) (s : ByteArray) (k : Int) (lo hi : Nat) (kd : Bool) (A : Option Addr) (m c : Nat) (h : Looker w lb bm n d) (hn : n + 1 < 200) (hd : d < dep) (hdep : dep + 1 ≤ 8) (hkid : KidAt w kb off s k A m c) (hs : NameOk s) (hne : kb ≠ lb) (hkk : KindIs k lo hi kd) (hlo : lo ≤ m) (hhi : m ≤ hi) :
    Calls Tryz.prog 119 #[.pointer (some ⟨lb, 0, none⟩), .agg #[.int .i64 4, .slice A0 0 c0', .slice (some ⟨kb, off, none⟩) 1 cc], .int .i64 dep] w
      fun e w' => e = .returned (.bool true) ∧ Looker w' lb bm (n + 2) (dep + 1) ∧ Keep (fun i => i ≠ lb) w w' := by
  obtain ⟨ik, hk⟩ := kind4
  have HKID := Fact.mk hkid
  have HS := Fact.mk hs
  have HKK := Fact.mk hkk
  clear hkid hs hkk
  have H := Fact.mk h
  have c0 := h.blk.cell 0 _ rfl
  have c1 := h.blk.cell 1 _ rfl
  have c2 := h.blk.cell 2 _ rfl
  have f1 := h.blk.free 1
  have f2 := h.blk.free 2
  have hl := h.blk.lt
  clear h
  go_enter Tryz.func119, Tryz.ntmps119
  go_wp2_with fail
  refine wp_world (fun w' => Looker w' lb bm (n + 1) dep ∧ Blk w' w.heap.size [.int .i64 4, .slice A0 0 c0', .slice (some ⟨kb, off, none⟩) 1 cc] 58 ∧ Keep (fun i => i ≠ lb) w w') ?_ ?_
  · have hlw : lb ≠ w.heap.size := by omega
    have hB := Blk.new ((w.setCell ⟨lb, 1, none⟩ (.int .i64 (n + 1))).setCell ⟨lb, 2, none⟩ (.int .i64 dep)) [.int .i64 4, .slice A0 0 c0', .slice (some ⟨kb, off, none⟩) 1 cc] 58
    rw [show ((w.setCell ⟨lb, 1, none⟩ (.int .i64 (n + 1))).setCell ⟨lb, 2, none⟩ (.int .i64 dep)).heap.size = w.heap.size from by simp [World.setCell]] at hB
    exact ⟨(H.out.turn (n' := n + 1) (d' := dep)).alloc _, hB, (((Keep.refl _ w).setCell (p := ⟨lb, 1, none⟩) (.inr fun h => h rfl) _).setCell (p := ⟨lb, 2, none⟩) (.inr fun h => h rfl) _).alloc _⟩
  · rintro w0 ⟨h0, hb0, hk0⟩
    have H0 := Fact.mk h0
    have B0 := Fact.mk hb0
    have K0 := Fact.mk hk0
    clear c0 c1 c2 f1 f2 H
    have c0 := h0.blk.cell 0 _ rfl
    have c1 := h0.blk.cell 1 _ rfl
    have d0 := hb0.cell 0 _ rfl
    have d1 := hb0.cell 1 _ rfl
    have d2 := hb0.cell 2 _ rfl
    have hmap := h0.map
    clear h0 hb0 hk0
    have hbm : bm < w0.heap.size := (Array.getElem?_eq_some_iff.1 hmap).1
    have hlk := fun w' h => run_lookup192 w' bm h 4 _ ik hk
    have hset : ∀ (o : Obj) (v : Value) (j : Nat), ((w0.drew.alloc o).setCell ⟨w0.heap.size, j, none⟩ v).heap[bm]? = some (.map kindMap 4) := fun o v j => (Below.heap_setCell _ _ _ _ (by show bm ≠ w0.heap.size; omega)).trans ((Below.heap_alloc _ _ _ hbm).trans hmap)
    have hall : ∀ (o : Obj), (w0.drew.alloc o).heap[bm]? = some (.map kindMap 4) := fun o => (Below.heap_alloc _ _ _ hbm).trans hmap
    have hdrew : w0.drew.heap[bm]? = some (.map kindMap 4) := hmap
    go_region_held3 (fun w' => w'.cell? ⟨lb, 0, none⟩ = some (.map (some bm)) ∧ w'.cell? ⟨w.heap.size, 0, none⟩ = some (.int .i64 4) ∧ w'.heap[bm]? = some (.map kindMap 4)) (exact ⟨by go_keep, by go_keep, by first | exact hdrew | exact hall _ | exact hset _ _ _⟩) (fail)
    all_goals
      obtain ⟨w1, hw1⟩ : ∃ W, W = (w0.alloc (.cells #[.int .i64 0, .int .i64 0, .bool true] 283)).drew := ⟨_, rfl⟩
      rw [← hw1]
      obtain ⟨h0, hb0, hb1, hk0⟩ : Looker w1 lb bm (n + 1) dep ∧ Blk w1 w.heap.size [.int .i64 4, .slice A0 0 c0', .slice (some ⟨kb, off, none⟩) 1 cc] 58 ∧ Blk w1 w0.heap.size [.int .i64 0, .int .i64 0, .bool true] 283 ∧ Keep (fun i => i ≠ lb) w w1 := by
        subst hw1
        exact ⟨(H0.out.alloc _).drew, (B0.out.alloc _).drew, (Blk.new w0 [.int .i64 0, .int .i64 0, .bool true] 283).drew, (K0.out.alloc _).drew⟩
      clear hw1
      have H1 := Fact.mk h0
      have K1 := Fact.mk hk0
      clear hlk hset hall hdrew hmap c0 c1 d0 d1 d2 hk
      have c1 := h0.blk.cell 1 _ rfl
      have d0 := hb0.cell 0 _ rfl
      have d1 := hb0.cell 1 _ rfl
      have d2 := hb0.cell 2 _ rfl
      have e0 := hb1.cell 0 _ rfl
      have e1 := hb1.cell 1 _ rfl
      have e2 := hb1.cell 2 _ rfl
      clear h0 hb0 hb1 hk0
      have g3 : ¬ (200 : Int) < ((n + 1 : Nat) : Int) := by omega
      have g4 : ¬ (8 : Int) < (dep : Int) := by omega
      have HKID1 := Fact.mk (HKID.out.keep K1.out hne)
      go_wp2_with (first
        | (go_at_call 179; go_must (refine (named179_one _ _ _ _ _ _ _ _ _ HKID1.out HS.out).mono ?_); rintro e w2 ⟨rfl, hk2⟩; have K2 := Fact.mk (K1.out.trans (hk2.mono fun _ _ => trivial)); have H2 := Fact.mk (H1.out.keep hk2 trivial trivial); have HKID2 := Fact.mk (HKID1.out.keep hk2 trivial); have q0 := HKID2.out.name; have q1 := HKID2.out.kind; have q2 := HKID2.out.bytes; have q3 := HKID2.out.kids; have d2' := hk2.cell (p := ⟨w.heap.size, 2, none⟩) trivial d2; clear hk2 c1 d0 d1 e0 e1 e2))
      refine wp_loop_rounds 2 ?_
      rw [rounds_succ]
      go_wp2_with (first
        | (go_at_call 119; go_must (refine (right119_leaf _ lb bm (n + 1) (dep) (dep + 1) k lo hi kd A m c (H2.out.alloc _) (by omega) (by omega) hdep HKK.out hlo hhi).mono ?_); rintro e w3 ⟨rfl, h3, hk3⟩; have H3 := Fact.mk h3; have K3 := Fact.mk ((K2.out.alloc _).trans hk3); clear h3 hk3))
      rw [rounds_succ]
      go_wp2
      go_ret
      exact ⟨rfl, H3.out, K3.out⟩
end Go.Proofs.YtddmbdigdnmfgaaGreatDoor
