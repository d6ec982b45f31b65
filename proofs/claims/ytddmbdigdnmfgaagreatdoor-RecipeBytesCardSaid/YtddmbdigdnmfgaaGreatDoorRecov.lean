import Derived.Test.YtddmbdigdnmfgaaGreatDoorHad
import Derived.Recover
import Derived.Defers
namespace Go.Proofs.YtddmbdigdnmfgaaGreatDoor
open Go.RowKit
set_option maxHeartbeats 1000000
set_option maxRecDepth 100000

theorem rec64_idle (w : World) (p used b14 b9 b10 b8 : Nat) (x : Int) (h14 : w.cell? ⟨b14, 0, none⟩ = some (.pointer (some ⟨p, 0, none⟩))) (h0 : w.cell? ⟨p, 0, none⟩ = some (.int .i64 used)) (h9 : w.cell? ⟨b9, 0, none⟩ = some (.int .i64 x)) (f9 : w.frozen? ⟨b9, 0, none⟩ = false) :
    CallsD Tryz.prog 64 #[.pointer (some ⟨b14, 0, none⟩), .pointer (some ⟨b9, 0, none⟩), .pointer (some ⟨b10, 0, none⟩), .pointer (some ⟨b8, 0, none⟩)] .returning w fun e u w' =>
      e = .returned (.tuple #[]) ∧ u = .returning ∧ w' = w.setCell ⟨b9, 0, none⟩ (.int .i64 used) := by
  refine callsD_of_wpS Tryz.func64 rfl fun c₀ cs hu => ?_
  simp only [Tryz.ntmps64, List.size_toArray, List.length_cons, List.length_nil, Nat.reduceAdd, Nat.reduceSub, Array.replicate_succ, Array.replicate_zero, List.push_toArray, List.append_toArray, List.nil_append, List.cons_append]
  apply wpS_seq
  refine wpS_of_wp ?_
  go_wp2
  simp only [Exit.thenS]
  apply wpS_seq
  apply wpS_region
  simp [wpOpsS, go_sem, recoverD, hu, Exit.thenS]
  refine wpS_of_wp ?_
  go_wp2
  cases c₀
  simp_all [bodyPostS, results, Tryz.results64]
theorem rec64_panic (w : World) (p used b14 b9 b10 b8 : Nat) (x y : Int) (d0 d1 d2 : Value) (older : List PanicEntry) (h14 : w.cell? ⟨b14, 0, none⟩ = some (.pointer (some ⟨p, 0, none⟩))) (h0 : w.cell? ⟨p, 0, none⟩ = some (.int .i64 used)) (h9 : w.cell? ⟨b9, 0, none⟩ = some (.int .i64 x)) (f9 : w.frozen? ⟨b9, 0, none⟩ = false)
    (h10 : w.cell? ⟨b10, 0, none⟩ = some (.int .i64 y)) (f10 : w.frozen? ⟨b10, 0, none⟩ = false) (h8 : Blk w b8 [d0, d1, d2] 58) (h910 : b9 ≠ b10) (h98 : b9 ≠ b8) (h108 : b10 ≠ b8) :
    CallsD Tryz.prog 64 #[.pointer (some ⟨b14, 0, none⟩), .pointer (some ⟨b9, 0, none⟩), .pointer (some ⟨b10, 0, none⟩), .pointer (some ⟨b8, 0, none⟩)] (.panicking ({ v := .iface 28 (.int .i64 11), recovered := false } :: older)) w fun e u w' =>
      e = .returned (.tuple #[]) ∧ u = .panicking ({ v := .iface 28 (.int .i64 11), recovered := true } :: older) ∧ w' = set3 ((w.setCell ⟨b9, 0, none⟩ (.int .i64 used)).setCell ⟨b10, 0, none⟩ (.int .i64 11)) b8 (.int .i64 0) (.slice none 0 0) (.slice none 0 0) := by
  have e0 := h8.cell 0 _ rfl
  have e1 := h8.cell 1 _ rfl
  have e2 := h8.cell 2 _ rfl
  have z0 := h8.free 0
  have z1 := h8.free 1
  have z2 := h8.free 2
  clear h8
  have hta : ∀ w, (Instr.typeAssert (.iface 28 (.int .i64 11)) 20 28 true).run Tryz.prog w = .ok (.tuple #[.int .i64 11, .bool true]) w := fun _ => by kernel_rfl
  refine callsD_of_wpS Tryz.func64 rfl fun c₀ cs hu => ?_
  simp only [Tryz.ntmps64, List.size_toArray, List.length_cons, List.length_nil, Nat.reduceAdd, Nat.reduceSub, Array.replicate_succ, Array.replicate_zero, List.push_toArray, List.append_toArray, List.nil_append, List.cons_append]
  apply wpS_seq
  refine wpS_of_wp ?_
  go_wp2
  simp only [Exit.thenS]
  apply wpS_seq
  apply wpS_region
  simp [wpOpsS, go_sem, recoverD, hu, Exit.thenS]
  refine wpS_of_wp ?_
  go_wp2

  cases c₀
  simp_all [bodyPostS, results, Tryz.results64, set3]
end Go.Proofs.YtddmbdigdnmfgaaGreatDoor
