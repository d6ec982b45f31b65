import Derived.Test.YtddmbdigdnmfgaaGreatDoorRec3
namespace Go.Proofs.YtddmbdigdnmfgaaGreatDoor
open Go.RowKit
set_option maxHeartbeats 800000
set_option maxRecDepth 100000

theorem row_shrink {w : World} {base g n m c sz : Nat} {e : TypeId} {xs ys : List Value} (h : w.ownsRow base e sz (.slice (some ⟨g, 0, none⟩) (n + m) c) (n + m) (xs ++ ys)) (hx : xs.length = n * sz) : w.ownsRow base e sz (.slice (some ⟨g, 0, none⟩) n c) n xs := by
  rcases h.2 with ⟨e1, _⟩ | ⟨g', cap, cur, e1, hb, hh, hn, hc, hs, ht⟩
  · cases e1
  · injection e1 with e2 _ e3
    injection e2 with e4
    injection e4 with e5
    subst e5 e3
    refine ⟨hx, .inr ⟨g, c, cur, rfl, hb, hh, by omega, hc, hs, ?_⟩⟩
    have := congrArg (List.take (n * sz)) ht
    rw [List.take_take, List.take_left' hx] at this
    rwa [Nat.min_eq_left (Nat.mul_le_mul_right _ (by omega))] at this

/-- The topmost tree is taken. -/
def Took (w : World) (p used fuel at_ n g pc : Nat) (ov : Value) (rest xs : List Value) (x : XN) (base : Nat) (e : Ending) (w' : World) : Prop :=
  e = .returned (.agg #[.int .i64 x.k, .slice x.A x.m x.c, .slice x.B x.q x.cq]) ∧ BlkB w' p used fuel (.slice (some ⟨g, 0, none⟩) n pc) ov at_ rest ∧ w'.ownsRow base 58 3 (.slice (some ⟨g, 0, none⟩) n pc) n xs ∧ Keep (fun i => i ≠ p) w w'
theorem take162 (w : World) (p used fuel at_ n g pc base : Nat) (ov : Value) (rest xs : List Value) (x : XN) (h : BlkB w p used fuel (.slice (some ⟨g, 0, none⟩) (n + 1) pc) ov at_ rest)
    (hrow : w.ownsRow base 58 3 (.slice (some ⟨g, 0, none⟩) (n + 1) pc) (n + 1) (xs ++ [.int .i64 x.k, .slice x.A x.m x.c, .slice x.B x.q x.cq])) (hx : xs.length = n * 3) (hn : n < 16) (hpb : p < base) :
    Calls Tryz.prog 162 #[.pointer (some ⟨p, 0, none⟩)] w (Took w p used fuel at_ n g pc ov rest xs x base) := by
  have H := Fact.mk h
  have HROW := Fact.mk hrow
  have c2 := Blk.cell h 2 _ rfl
  have f2 := Blk.free h 2
  have hlt := h.lt
  have hpc : n + 1 ≤ pc := by
    rcases hrow.2 with ⟨e1, _⟩ | ⟨g', cap, cur, e1, hb, hh, hn, hc, hs, ht⟩
    · cases e1
    · injection e1 with _ _ e3; omega
  have hg := (hrow.lt g rfl).2
  have hgp : g ≠ p := by have := (hrow.lt g rfl).1; omega
  have q0 : w.cell? ⟨g, n * 3, none⟩ = some (.int .i64 x.k) := (hrow.cellAt (n * 3) (by omega)).trans (by rw [List.getElem?_append_right (by omega), hx]; simp)
  have q1 : w.cell? ⟨g, n * 3 + 1, none⟩ = some (.slice x.A x.m x.c) := (hrow.cellAt (n * 3 + 1) (by omega)).trans (by rw [List.getElem?_append_right (by omega), hx]; simp)
  have q2 : w.cell? ⟨g, n * 3 + 2, none⟩ = some (.slice x.B x.q x.cq) := (hrow.cellAt (n * 3 + 2) (by omega)).trans (by rw [List.getElem?_append_right (by omega), hx]; simp)
  clear h hrow
  go_enter Tryz.func162, Tryz.ntmps162
  go_wp2_with (go_at_call 111; go_must (refine (must111 _).mono ?_); rintro e v ⟨rfl, rfl⟩)
  have hB := Blk.new (w.setCell ⟨p, 2, none⟩ (.slice (some ⟨g, 0, none⟩) n pc)) [.int .i64 x.k, .slice x.A x.m x.c, .slice x.B x.q x.cq] 58
  rw [show (w.setCell ⟨p, 2, none⟩ (.slice (some ⟨g, 0, none⟩) n pc)).heap.size = w.heap.size from by simp [World.setCell]] at hB
  refine bodyPost_ret (results_58 rfl _ _ w.heap.size _ _ _ rfl (hB.alloc _)) rfl ?_
  have hK : Keep (fun i => i ≠ p) w (w.setCell ⟨p, 2, none⟩ (.slice (some ⟨g, 0, none⟩) n pc)) := (Keep.refl _ w).setCell (p := ⟨p, 2, none⟩) (.inr fun h => h rfl) _
  exact ⟨rfl, ((Blk.set H.out 2 _).alloc _).alloc _, own_keep (row_shrink HROW.out hx) ((hK.alloc _).alloc _) (fun g' hg' => by cases hg'; exact hgp), (hK.alloc _).alloc _⟩
end Go.Proofs.YtddmbdigdnmfgaaGreatDoor
