/- The kit's flat functions, at no rows: made by a program. -/
import Derived.Test.YtddmbdigdnmfgaaGreatDoorMark
namespace Go.Proofs.YtddmbdigdnmfgaaGreatDoor
open Go.RowKit
set_option maxHeartbeats 400000
set_option maxRecDepth 100000

theorem flat81 (w : World) : Calls Tryz.prog 81 #[.slice none 0 0] w (RightPost w true) := by
  have hmk : ∀ w, (Instr.makeSlice 103 (.int .i64 0) (.int .i64 0)).run Tryz.prog w = .ok (.slice (some ⟨w.heap.size, 0, none⟩) 0 0) (w.alloc (.cells #[] 198)) := fun w => by kernel_rfl
  go_enter Tryz.func81, Tryz.ntmps81
  go_wp2
  go_loopg [3] 0 (fun g x w' => x = .int .i64 0 ∧ Keep All w w')
  case atStart => exact ⟨rfl, by first | exact Keep.refl _ _ | exact HK.out | exact HK.out.alloc _⟩
  obtain ⟨rfl, hk⟩ := hrel
  have HK := Fact.mk hk
  clear hk
  go_wp2
  go_loopg [6] 0 (fun g x w' => x = .int .i64 0 ∧ Keep All w w')
  case atStart => exact ⟨rfl, by first | exact Keep.refl _ _ | exact HK.out | exact HK.out.alloc _⟩
  obtain ⟨rfl, hk⟩ := hrel
  have HK := Fact.mk hk
  clear hk
  go_wp2
  go_loopg [9] 0 (fun g x w' => x = .int .i64 0 ∧ Keep All w w')
  case atStart => exact ⟨rfl, by first | exact Keep.refl _ _ | exact HK.out | exact HK.out.alloc _⟩
  obtain ⟨rfl, hk⟩ := hrel
  have HK := Fact.mk hk
  clear hk
  go_wp2
  go_loopg [11] 0 (fun g x w' => x = .int .i64 0 ∧ Keep All w w')
  case atStart => exact ⟨rfl, by first | exact Keep.refl _ _ | exact HK.out | exact HK.out.alloc _⟩
  obtain ⟨rfl, hk⟩ := hrel
  have HK := Fact.mk hk
  clear hk
  go_wp2
  go_loopg [14] 0 (fun g x w' => x = .int .i64 0 ∧ Keep All w w')
  case atStart => exact ⟨rfl, by first | exact Keep.refl _ _ | exact HK.out | exact HK.out.alloc _⟩
  obtain ⟨rfl, hk⟩ := hrel
  have HK := Fact.mk hk
  clear hk
  go_wp2
  go_ret
  exact ⟨rfl, HK.out⟩
theorem flat82 (w : World) : Calls Tryz.prog 82 #[.slice none 0 0] w (RightPost w true) := by
  have hmk : ∀ w, (Instr.makeSlice 104 (.int .i64 0) (.int .i64 0)).run Tryz.prog w = .ok (.slice (some ⟨w.heap.size, 0, none⟩) 0 0) (w.alloc (.cells #[] 200)) := fun w => by kernel_rfl
  go_enter Tryz.func82, Tryz.ntmps82
  go_wp2
  go_loopg [3] 0 (fun g x w' => x = .int .i64 0 ∧ Keep All w w')
  case atStart => exact ⟨rfl, by first | exact Keep.refl _ _ | exact HK.out | exact HK.out.alloc _⟩
  obtain ⟨rfl, hk⟩ := hrel
  have HK := Fact.mk hk
  clear hk
  go_wp2
  go_loopg [6] 0 (fun g x w' => x = .int .i64 0 ∧ Keep All w w')
  case atStart => exact ⟨rfl, by first | exact Keep.refl _ _ | exact HK.out | exact HK.out.alloc _⟩
  obtain ⟨rfl, hk⟩ := hrel
  have HK := Fact.mk hk
  clear hk
  go_wp2
  go_loopg [9] 0 (fun g x w' => x = .int .i64 0 ∧ Keep All w w')
  case atStart => exact ⟨rfl, by first | exact Keep.refl _ _ | exact HK.out | exact HK.out.alloc _⟩
  obtain ⟨rfl, hk⟩ := hrel
  have HK := Fact.mk hk
  clear hk
  go_wp2
  go_loopg [11] 0 (fun g x w' => x = .int .i64 0 ∧ Keep All w w')
  case atStart => exact ⟨rfl, by first | exact Keep.refl _ _ | exact HK.out | exact HK.out.alloc _⟩
  obtain ⟨rfl, hk⟩ := hrel
  have HK := Fact.mk hk
  clear hk
  go_wp2
  go_loopg [14] 0 (fun g x w' => x = .int .i64 0 ∧ Keep All w w')
  case atStart => exact ⟨rfl, by first | exact Keep.refl _ _ | exact HK.out | exact HK.out.alloc _⟩
  obtain ⟨rfl, hk⟩ := hrel
  have HK := Fact.mk hk
  clear hk
  go_wp2
  go_ret
  exact ⟨rfl, HK.out⟩
theorem flat83 (w : World) : Calls Tryz.prog 83 #[.slice none 0 0] w (RightPost w true) := by
  have hmk : ∀ w, (Instr.makeSlice 105 (.int .i64 0) (.int .i64 0)).run Tryz.prog w = .ok (.slice (some ⟨w.heap.size, 0, none⟩) 0 0) (w.alloc (.cells #[] 81)) := fun w => by kernel_rfl
  go_enter Tryz.func83, Tryz.ntmps83
  go_wp2
  go_loopg [3] 0 (fun g x w' => x = .int .i64 0 ∧ Keep All w w')
  case atStart => exact ⟨rfl, by first | exact Keep.refl _ _ | exact HK.out | exact HK.out.alloc _⟩
  obtain ⟨rfl, hk⟩ := hrel
  have HK := Fact.mk hk
  clear hk
  go_wp2
  go_loopg [6] 0 (fun g x w' => x = .int .i64 0 ∧ Keep All w w')
  case atStart => exact ⟨rfl, by first | exact Keep.refl _ _ | exact HK.out | exact HK.out.alloc _⟩
  obtain ⟨rfl, hk⟩ := hrel
  have HK := Fact.mk hk
  clear hk
  go_wp2
  go_loopg [9] 0 (fun g x w' => x = .int .i64 0 ∧ Keep All w w')
  case atStart => exact ⟨rfl, by first | exact Keep.refl _ _ | exact HK.out | exact HK.out.alloc _⟩
  obtain ⟨rfl, hk⟩ := hrel
  have HK := Fact.mk hk
  clear hk
  go_wp2
  go_loopg [11] 0 (fun g x w' => x = .int .i64 0 ∧ Keep All w w')
  case atStart => exact ⟨rfl, by first | exact Keep.refl _ _ | exact HK.out | exact HK.out.alloc _⟩
  obtain ⟨rfl, hk⟩ := hrel
  have HK := Fact.mk hk
  clear hk
  go_wp2
  go_loopg [14] 0 (fun g x w' => x = .int .i64 0 ∧ Keep All w w')
  case atStart => exact ⟨rfl, by first | exact Keep.refl _ _ | exact HK.out | exact HK.out.alloc _⟩
  obtain ⟨rfl, hk⟩ := hrel
  have HK := Fact.mk hk
  clear hk
  go_wp2
  go_ret
  exact ⟨rfl, HK.out⟩
theorem flat84 (w : World) : Calls Tryz.prog 84 #[.slice none 0 0] w (RightPost w true) := by
  have hmk : ∀ w, (Instr.makeSlice 106 (.int .i64 0) (.int .i64 0)).run Tryz.prog w = .ok (.slice (some ⟨w.heap.size, 0, none⟩) 0 0) (w.alloc (.cells #[] 201)) := fun w => by kernel_rfl
  go_enter Tryz.func84, Tryz.ntmps84
  go_wp2
  go_loopg [3] 0 (fun g x w' => x = .int .i64 0 ∧ Keep All w w')
  case atStart => exact ⟨rfl, by first | exact Keep.refl _ _ | exact HK.out | exact HK.out.alloc _⟩
  obtain ⟨rfl, hk⟩ := hrel
  have HK := Fact.mk hk
  clear hk
  go_wp2
  go_loopg [6] 0 (fun g x w' => x = .int .i64 0 ∧ Keep All w w')
  case atStart => exact ⟨rfl, by first | exact Keep.refl _ _ | exact HK.out | exact HK.out.alloc _⟩
  obtain ⟨rfl, hk⟩ := hrel
  have HK := Fact.mk hk
  clear hk
  go_wp2
  go_loopg [9] 0 (fun g x w' => x = .int .i64 0 ∧ Keep All w w')
  case atStart => exact ⟨rfl, by first | exact Keep.refl _ _ | exact HK.out | exact HK.out.alloc _⟩
  obtain ⟨rfl, hk⟩ := hrel
  have HK := Fact.mk hk
  clear hk
  go_wp2
  go_loopg [11] 0 (fun g x w' => x = .int .i64 0 ∧ Keep All w w')
  case atStart => exact ⟨rfl, by first | exact Keep.refl _ _ | exact HK.out | exact HK.out.alloc _⟩
  obtain ⟨rfl, hk⟩ := hrel
  have HK := Fact.mk hk
  clear hk
  go_wp2
  go_loopg [14] 0 (fun g x w' => x = .int .i64 0 ∧ Keep All w w')
  case atStart => exact ⟨rfl, by first | exact Keep.refl _ _ | exact HK.out | exact HK.out.alloc _⟩
  obtain ⟨rfl, hk⟩ := hrel
  have HK := Fact.mk hk
  clear hk
  go_wp2
  go_ret
  exact ⟨rfl, HK.out⟩
theorem flat85 (w : World) : Calls Tryz.prog 85 #[.slice none 0 0] w (RightPost w true) := by
  have hmk : ∀ w, (Instr.makeSlice 107 (.int .i64 0) (.int .i64 0)).run Tryz.prog w = .ok (.slice (some ⟨w.heap.size, 0, none⟩) 0 0) (w.alloc (.cells #[] 125)) := fun w => by kernel_rfl
  go_enter Tryz.func85, Tryz.ntmps85
  go_wp2
  go_loopg [3] 0 (fun g x w' => x = .int .i64 0 ∧ Keep All w w')
  case atStart => exact ⟨rfl, by first | exact Keep.refl _ _ | exact HK.out | exact HK.out.alloc _⟩
  obtain ⟨rfl, hk⟩ := hrel
  have HK := Fact.mk hk
  clear hk
  go_wp2
  go_loopg [6] 0 (fun g x w' => x = .int .i64 0 ∧ Keep All w w')
  case atStart => exact ⟨rfl, by first | exact Keep.refl _ _ | exact HK.out | exact HK.out.alloc _⟩
  obtain ⟨rfl, hk⟩ := hrel
  have HK := Fact.mk hk
  clear hk
  go_wp2
  go_loopg [9] 0 (fun g x w' => x = .int .i64 0 ∧ Keep All w w')
  case atStart => exact ⟨rfl, by first | exact Keep.refl _ _ | exact HK.out | exact HK.out.alloc _⟩
  obtain ⟨rfl, hk⟩ := hrel
  have HK := Fact.mk hk
  clear hk
  go_wp2
  go_loopg [11] 0 (fun g x w' => x = .int .i64 0 ∧ Keep All w w')
  case atStart => exact ⟨rfl, by first | exact Keep.refl _ _ | exact HK.out | exact HK.out.alloc _⟩
  obtain ⟨rfl, hk⟩ := hrel
  have HK := Fact.mk hk
  clear hk
  go_wp2
  go_loopg [14] 0 (fun g x w' => x = .int .i64 0 ∧ Keep All w w')
  case atStart => exact ⟨rfl, by first | exact Keep.refl _ _ | exact HK.out | exact HK.out.alloc _⟩
  obtain ⟨rfl, hk⟩ := hrel
  have HK := Fact.mk hk
  clear hk
  go_wp2
  go_ret
  exact ⟨rfl, HK.out⟩
theorem flat87 (w : World) : Calls Tryz.prog 87 #[.slice none 0 0] w (RightPost w true) := by
  have hmk : ∀ w, (Instr.makeSlice 108 (.int .i64 0) (.int .i64 0)).run Tryz.prog w = .ok (.slice (some ⟨w.heap.size, 0, none⟩) 0 0) (w.alloc (.cells #[] 203)) := fun w => by kernel_rfl
  go_enter Tryz.func87, Tryz.ntmps87
  go_wp2
  go_loopg [3] 0 (fun g x w' => x = .int .i64 0 ∧ Keep All w w')
  case atStart => exact ⟨rfl, by first | exact Keep.refl _ _ | exact HK.out | exact HK.out.alloc _⟩
  obtain ⟨rfl, hk⟩ := hrel
  have HK := Fact.mk hk
  clear hk
  go_wp2
  go_loopg [6] 0 (fun g x w' => x = .int .i64 0 ∧ Keep All w w')
  case atStart => exact ⟨rfl, by first | exact Keep.refl _ _ | exact HK.out | exact HK.out.alloc _⟩
  obtain ⟨rfl, hk⟩ := hrel
  have HK := Fact.mk hk
  clear hk
  go_wp2
  go_loopg [9] 0 (fun g x w' => x = .int .i64 0 ∧ Keep All w w')
  case atStart => exact ⟨rfl, by first | exact Keep.refl _ _ | exact HK.out | exact HK.out.alloc _⟩
  obtain ⟨rfl, hk⟩ := hrel
  have HK := Fact.mk hk
  clear hk
  go_wp2
  go_loopg [11] 0 (fun g x w' => x = .int .i64 0 ∧ Keep All w w')
  case atStart => exact ⟨rfl, by first | exact Keep.refl _ _ | exact HK.out | exact HK.out.alloc _⟩
  obtain ⟨rfl, hk⟩ := hrel
  have HK := Fact.mk hk
  clear hk
  go_wp2
  go_loopg [14] 0 (fun g x w' => x = .int .i64 0 ∧ Keep All w w')
  case atStart => exact ⟨rfl, by first | exact Keep.refl _ _ | exact HK.out | exact HK.out.alloc _⟩
  obtain ⟨rfl, hk⟩ := hrel
  have HK := Fact.mk hk
  clear hk
  go_wp2
  go_ret
  exact ⟨rfl, HK.out⟩
theorem flat88 (w : World) : Calls Tryz.prog 88 #[.slice none 0 0] w (RightPost w true) := by
  have hmk : ∀ w, (Instr.makeSlice 109 (.int .i64 0) (.int .i64 0)).run Tryz.prog w = .ok (.slice (some ⟨w.heap.size, 0, none⟩) 0 0) (w.alloc (.cells #[] 204)) := fun w => by kernel_rfl
  go_enter Tryz.func88, Tryz.ntmps88
  go_wp2
  go_loopg [3] 0 (fun g x w' => x = .int .i64 0 ∧ Keep All w w')
  case atStart => exact ⟨rfl, by first | exact Keep.refl _ _ | exact HK.out | exact HK.out.alloc _⟩
  obtain ⟨rfl, hk⟩ := hrel
  have HK := Fact.mk hk
  clear hk
  go_wp2
  go_loopg [6] 0 (fun g x w' => x = .int .i64 0 ∧ Keep All w w')
  case atStart => exact ⟨rfl, by first | exact Keep.refl _ _ | exact HK.out | exact HK.out.alloc _⟩
  obtain ⟨rfl, hk⟩ := hrel
  have HK := Fact.mk hk
  clear hk
  go_wp2
  go_loopg [9] 0 (fun g x w' => x = .int .i64 0 ∧ Keep All w w')
  case atStart => exact ⟨rfl, by first | exact Keep.refl _ _ | exact HK.out | exact HK.out.alloc _⟩
  obtain ⟨rfl, hk⟩ := hrel
  have HK := Fact.mk hk
  clear hk
  go_wp2
  go_loopg [11] 0 (fun g x w' => x = .int .i64 0 ∧ Keep All w w')
  case atStart => exact ⟨rfl, by first | exact Keep.refl _ _ | exact HK.out | exact HK.out.alloc _⟩
  obtain ⟨rfl, hk⟩ := hrel
  have HK := Fact.mk hk
  clear hk
  go_wp2
  go_loopg [14] 0 (fun g x w' => x = .int .i64 0 ∧ Keep All w w')
  case atStart => exact ⟨rfl, by first | exact Keep.refl _ _ | exact HK.out | exact HK.out.alloc _⟩
  obtain ⟨rfl, hk⟩ := hrel
  have HK := Fact.mk hk
  clear hk
  go_wp2
  go_ret
  exact ⟨rfl, HK.out⟩
theorem flat89 (w : World) : Calls Tryz.prog 89 #[.slice none 0 0] w (RightPost w true) := by
  have hmk : ∀ w, (Instr.makeSlice 110 (.int .i64 0) (.int .i64 0)).run Tryz.prog w = .ok (.slice (some ⟨w.heap.size, 0, none⟩) 0 0) (w.alloc (.cells #[] 56)) := fun w => by kernel_rfl
  go_enter Tryz.func89, Tryz.ntmps89
  go_wp2
  go_loopg [3] 0 (fun g x w' => x = .int .i64 0 ∧ Keep All w w')
  case atStart => exact ⟨rfl, by first | exact Keep.refl _ _ | exact HK.out | exact HK.out.alloc _⟩
  obtain ⟨rfl, hk⟩ := hrel
  have HK := Fact.mk hk
  clear hk
  go_wp2
  go_loopg [6] 0 (fun g x w' => x = .int .i64 0 ∧ Keep All w w')
  case atStart => exact ⟨rfl, by first | exact Keep.refl _ _ | exact HK.out | exact HK.out.alloc _⟩
  obtain ⟨rfl, hk⟩ := hrel
  have HK := Fact.mk hk
  clear hk
  go_wp2
  go_loopg [9] 0 (fun g x w' => x = .int .i64 0 ∧ Keep All w w')
  case atStart => exact ⟨rfl, by first | exact Keep.refl _ _ | exact HK.out | exact HK.out.alloc _⟩
  obtain ⟨rfl, hk⟩ := hrel
  have HK := Fact.mk hk
  clear hk
  go_wp2
  go_loopg [11] 0 (fun g x w' => x = .int .i64 0 ∧ Keep All w w')
  case atStart => exact ⟨rfl, by first | exact Keep.refl _ _ | exact HK.out | exact HK.out.alloc _⟩
  obtain ⟨rfl, hk⟩ := hrel
  have HK := Fact.mk hk
  clear hk
  go_wp2
  go_loopg [14] 0 (fun g x w' => x = .int .i64 0 ∧ Keep All w w')
  case atStart => exact ⟨rfl, by first | exact Keep.refl _ _ | exact HK.out | exact HK.out.alloc _⟩
  obtain ⟨rfl, hk⟩ := hrel
  have HK := Fact.mk hk
  clear hk
  go_wp2
  go_ret
  exact ⟨rfl, HK.out⟩
theorem flat90 (w : World) : Calls Tryz.prog 90 #[.slice none 0 0] w (RightPost w true) := by
  have hmk : ∀ w, (Instr.makeSlice 111 (.int .i64 0) (.int .i64 0)).run Tryz.prog w = .ok (.slice (some ⟨w.heap.size, 0, none⟩) 0 0) (w.alloc (.cells #[] 131)) := fun w => by kernel_rfl
  go_enter Tryz.func90, Tryz.ntmps90
  go_wp2
  go_loopg [3] 0 (fun g x w' => x = .int .i64 0 ∧ Keep All w w')
  case atStart => exact ⟨rfl, by first | exact Keep.refl _ _ | exact HK.out | exact HK.out.alloc _⟩
  obtain ⟨rfl, hk⟩ := hrel
  have HK := Fact.mk hk
  clear hk
  go_wp2
  go_loopg [6] 0 (fun g x w' => x = .int .i64 0 ∧ Keep All w w')
  case atStart => exact ⟨rfl, by first | exact Keep.refl _ _ | exact HK.out | exact HK.out.alloc _⟩
  obtain ⟨rfl, hk⟩ := hrel
  have HK := Fact.mk hk
  clear hk
  go_wp2
  go_loopg [9] 0 (fun g x w' => x = .int .i64 0 ∧ Keep All w w')
  case atStart => exact ⟨rfl, by first | exact Keep.refl _ _ | exact HK.out | exact HK.out.alloc _⟩
  obtain ⟨rfl, hk⟩ := hrel
  have HK := Fact.mk hk
  clear hk
  go_wp2
  go_loopg [11] 0 (fun g x w' => x = .int .i64 0 ∧ Keep All w w')
  case atStart => exact ⟨rfl, by first | exact Keep.refl _ _ | exact HK.out | exact HK.out.alloc _⟩
  obtain ⟨rfl, hk⟩ := hrel
  have HK := Fact.mk hk
  clear hk
  go_wp2
  go_loopg [14] 0 (fun g x w' => x = .int .i64 0 ∧ Keep All w w')
  case atStart => exact ⟨rfl, by first | exact Keep.refl _ _ | exact HK.out | exact HK.out.alloc _⟩
  obtain ⟨rfl, hk⟩ := hrel
  have HK := Fact.mk hk
  clear hk
  go_wp2
  go_ret
  exact ⟨rfl, HK.out⟩
theorem flat91 (w : World) : Calls Tryz.prog 91 #[.slice none 0 0] w (RightPost w true) := by
  have hmk : ∀ w, (Instr.makeSlice 112 (.int .i64 0) (.int .i64 0)).run Tryz.prog w = .ok (.slice (some ⟨w.heap.size, 0, none⟩) 0 0) (w.alloc (.cells #[] 208)) := fun w => by kernel_rfl
  go_enter Tryz.func91, Tryz.ntmps91
  go_wp2
  go_loopg [3] 0 (fun g x w' => x = .int .i64 0 ∧ Keep All w w')
  case atStart => exact ⟨rfl, by first | exact Keep.refl _ _ | exact HK.out | exact HK.out.alloc _⟩
  obtain ⟨rfl, hk⟩ := hrel
  have HK := Fact.mk hk
  clear hk
  go_wp2
  go_loopg [6] 0 (fun g x w' => x = .int .i64 0 ∧ Keep All w w')
  case atStart => exact ⟨rfl, by first | exact Keep.refl _ _ | exact HK.out | exact HK.out.alloc _⟩
  obtain ⟨rfl, hk⟩ := hrel
  have HK := Fact.mk hk
  clear hk
  go_wp2
  go_loopg [9] 0 (fun g x w' => x = .int .i64 0 ∧ Keep All w w')
  case atStart => exact ⟨rfl, by first | exact Keep.refl _ _ | exact HK.out | exact HK.out.alloc _⟩
  obtain ⟨rfl, hk⟩ := hrel
  have HK := Fact.mk hk
  clear hk
  go_wp2
  go_loopg [11] 0 (fun g x w' => x = .int .i64 0 ∧ Keep All w w')
  case atStart => exact ⟨rfl, by first | exact Keep.refl _ _ | exact HK.out | exact HK.out.alloc _⟩
  obtain ⟨rfl, hk⟩ := hrel
  have HK := Fact.mk hk
  clear hk
  go_wp2
  go_loopg [14] 0 (fun g x w' => x = .int .i64 0 ∧ Keep All w w')
  case atStart => exact ⟨rfl, by first | exact Keep.refl _ _ | exact HK.out | exact HK.out.alloc _⟩
  obtain ⟨rfl, hk⟩ := hrel
  have HK := Fact.mk hk
  clear hk
  go_wp2
  go_ret
  exact ⟨rfl, HK.out⟩
theorem flat92 (w : World) : Calls Tryz.prog 92 #[.slice none 0 0] w (RightPost w true) := by
  have hmk : ∀ w, (Instr.makeSlice 113 (.int .i64 0) (.int .i64 0)).run Tryz.prog w = .ok (.slice (some ⟨w.heap.size, 0, none⟩) 0 0) (w.alloc (.cells #[] 213)) := fun w => by kernel_rfl
  go_enter Tryz.func92, Tryz.ntmps92
  go_wp2
  go_loopg [3] 0 (fun g x w' => x = .int .i64 0 ∧ Keep All w w')
  case atStart => exact ⟨rfl, by first | exact Keep.refl _ _ | exact HK.out | exact HK.out.alloc _⟩
  obtain ⟨rfl, hk⟩ := hrel
  have HK := Fact.mk hk
  clear hk
  go_wp2
  go_loopg [6] 0 (fun g x w' => x = .int .i64 0 ∧ Keep All w w')
  case atStart => exact ⟨rfl, by first | exact Keep.refl _ _ | exact HK.out | exact HK.out.alloc _⟩
  obtain ⟨rfl, hk⟩ := hrel
  have HK := Fact.mk hk
  clear hk
  go_wp2
  go_loopg [9] 0 (fun g x w' => x = .int .i64 0 ∧ Keep All w w')
  case atStart => exact ⟨rfl, by first | exact Keep.refl _ _ | exact HK.out | exact HK.out.alloc _⟩
  obtain ⟨rfl, hk⟩ := hrel
  have HK := Fact.mk hk
  clear hk
  go_wp2
  go_loopg [11] 0 (fun g x w' => x = .int .i64 0 ∧ Keep All w w')
  case atStart => exact ⟨rfl, by first | exact Keep.refl _ _ | exact HK.out | exact HK.out.alloc _⟩
  obtain ⟨rfl, hk⟩ := hrel
  have HK := Fact.mk hk
  clear hk
  go_wp2
  go_loopg [14] 0 (fun g x w' => x = .int .i64 0 ∧ Keep All w w')
  case atStart => exact ⟨rfl, by first | exact Keep.refl _ _ | exact HK.out | exact HK.out.alloc _⟩
  obtain ⟨rfl, hk⟩ := hrel
  have HK := Fact.mk hk
  clear hk
  go_wp2
  go_ret
  exact ⟨rfl, HK.out⟩
theorem flat93 (w : World) : Calls Tryz.prog 93 #[.slice none 0 0] w (RightPost w true) := by
  have hmk : ∀ w, (Instr.makeSlice 114 (.int .i64 0) (.int .i64 0)).run Tryz.prog w = .ok (.slice (some ⟨w.heap.size, 0, none⟩) 0 0) (w.alloc (.cells #[] 218)) := fun w => by kernel_rfl
  go_enter Tryz.func93, Tryz.ntmps93
  go_wp2
  go_loopg [3] 0 (fun g x w' => x = .int .i64 0 ∧ Keep All w w')
  case atStart => exact ⟨rfl, by first | exact Keep.refl _ _ | exact HK.out | exact HK.out.alloc _⟩
  obtain ⟨rfl, hk⟩ := hrel
  have HK := Fact.mk hk
  clear hk
  go_wp2
  go_loopg [6] 0 (fun g x w' => x = .int .i64 0 ∧ Keep All w w')
  case atStart => exact ⟨rfl, by first | exact Keep.refl _ _ | exact HK.out | exact HK.out.alloc _⟩
  obtain ⟨rfl, hk⟩ := hrel
  have HK := Fact.mk hk
  clear hk
  go_wp2
  go_loopg [9] 0 (fun g x w' => x = .int .i64 0 ∧ Keep All w w')
  case atStart => exact ⟨rfl, by first | exact Keep.refl _ _ | exact HK.out | exact HK.out.alloc _⟩
  obtain ⟨rfl, hk⟩ := hrel
  have HK := Fact.mk hk
  clear hk
  go_wp2
  go_loopg [11] 0 (fun g x w' => x = .int .i64 0 ∧ Keep All w w')
  case atStart => exact ⟨rfl, by first | exact Keep.refl _ _ | exact HK.out | exact HK.out.alloc _⟩
  obtain ⟨rfl, hk⟩ := hrel
  have HK := Fact.mk hk
  clear hk
  go_wp2
  go_loopg [14] 0 (fun g x w' => x = .int .i64 0 ∧ Keep All w w')
  case atStart => exact ⟨rfl, by first | exact Keep.refl _ _ | exact HK.out | exact HK.out.alloc _⟩
  obtain ⟨rfl, hk⟩ := hrel
  have HK := Fact.mk hk
  clear hk
  go_wp2
  go_ret
  exact ⟨rfl, HK.out⟩
theorem flat94 (w : World) : Calls Tryz.prog 94 #[.slice none 0 0] w (RightPost w true) := by
  have hmk : ∀ w, (Instr.makeSlice 115 (.int .i64 0) (.int .i64 0)).run Tryz.prog w = .ok (.slice (some ⟨w.heap.size, 0, none⟩) 0 0) (w.alloc (.cells #[] 222)) := fun w => by kernel_rfl
  go_enter Tryz.func94, Tryz.ntmps94
  go_wp2
  go_loopg [3] 0 (fun g x w' => x = .int .i64 0 ∧ Keep All w w')
  case atStart => exact ⟨rfl, by first | exact Keep.refl _ _ | exact HK.out | exact HK.out.alloc _⟩
  obtain ⟨rfl, hk⟩ := hrel
  have HK := Fact.mk hk
  clear hk
  go_wp2
  go_loopg [6] 0 (fun g x w' => x = .int .i64 0 ∧ Keep All w w')
  case atStart => exact ⟨rfl, by first | exact Keep.refl _ _ | exact HK.out | exact HK.out.alloc _⟩
  obtain ⟨rfl, hk⟩ := hrel
  have HK := Fact.mk hk
  clear hk
  go_wp2
  go_loopg [9] 0 (fun g x w' => x = .int .i64 0 ∧ Keep All w w')
  case atStart => exact ⟨rfl, by first | exact Keep.refl _ _ | exact HK.out | exact HK.out.alloc _⟩
  obtain ⟨rfl, hk⟩ := hrel
  have HK := Fact.mk hk
  clear hk
  go_wp2
  go_loopg [11] 0 (fun g x w' => x = .int .i64 0 ∧ Keep All w w')
  case atStart => exact ⟨rfl, by first | exact Keep.refl _ _ | exact HK.out | exact HK.out.alloc _⟩
  obtain ⟨rfl, hk⟩ := hrel
  have HK := Fact.mk hk
  clear hk
  go_wp2
  go_loopg [14] 0 (fun g x w' => x = .int .i64 0 ∧ Keep All w w')
  case atStart => exact ⟨rfl, by first | exact Keep.refl _ _ | exact HK.out | exact HK.out.alloc _⟩
  obtain ⟨rfl, hk⟩ := hrel
  have HK := Fact.mk hk
  clear hk
  go_wp2
  go_ret
  exact ⟨rfl, HK.out⟩
theorem flat95 (w : World) : Calls Tryz.prog 95 #[.slice none 0 0] w (RightPost w true) := by
  have hmk : ∀ w, (Instr.makeSlice 116 (.int .i64 0) (.int .i64 0)).run Tryz.prog w = .ok (.slice (some ⟨w.heap.size, 0, none⟩) 0 0) (w.alloc (.cells #[] 227)) := fun w => by kernel_rfl
  go_enter Tryz.func95, Tryz.ntmps95
  go_wp2
  go_loopg [3] 0 (fun g x w' => x = .int .i64 0 ∧ Keep All w w')
  case atStart => exact ⟨rfl, by first | exact Keep.refl _ _ | exact HK.out | exact HK.out.alloc _⟩
  obtain ⟨rfl, hk⟩ := hrel
  have HK := Fact.mk hk
  clear hk
  go_wp2
  go_loopg [6] 0 (fun g x w' => x = .int .i64 0 ∧ Keep All w w')
  case atStart => exact ⟨rfl, by first | exact Keep.refl _ _ | exact HK.out | exact HK.out.alloc _⟩
  obtain ⟨rfl, hk⟩ := hrel
  have HK := Fact.mk hk
  clear hk
  go_wp2
  go_loopg [9] 0 (fun g x w' => x = .int .i64 0 ∧ Keep All w w')
  case atStart => exact ⟨rfl, by first | exact Keep.refl _ _ | exact HK.out | exact HK.out.alloc _⟩
  obtain ⟨rfl, hk⟩ := hrel
  have HK := Fact.mk hk
  clear hk
  go_wp2
  go_loopg [11] 0 (fun g x w' => x = .int .i64 0 ∧ Keep All w w')
  case atStart => exact ⟨rfl, by first | exact Keep.refl _ _ | exact HK.out | exact HK.out.alloc _⟩
  obtain ⟨rfl, hk⟩ := hrel
  have HK := Fact.mk hk
  clear hk
  go_wp2
  go_loopg [14] 0 (fun g x w' => x = .int .i64 0 ∧ Keep All w w')
  case atStart => exact ⟨rfl, by first | exact Keep.refl _ _ | exact HK.out | exact HK.out.alloc _⟩
  obtain ⟨rfl, hk⟩ := hrel
  have HK := Fact.mk hk
  clear hk
  go_wp2
  go_ret
  exact ⟨rfl, HK.out⟩
theorem flat96 (w : World) : Calls Tryz.prog 96 #[.slice none 0 0] w (RightPost w true) := by
  have hmk : ∀ w, (Instr.makeSlice 117 (.int .i64 0) (.int .i64 0)).run Tryz.prog w = .ok (.slice (some ⟨w.heap.size, 0, none⟩) 0 0) (w.alloc (.cells #[] 231)) := fun w => by kernel_rfl
  go_enter Tryz.func96, Tryz.ntmps96
  go_wp2
  go_loopg [3] 0 (fun g x w' => x = .int .i64 0 ∧ Keep All w w')
  case atStart => exact ⟨rfl, by first | exact Keep.refl _ _ | exact HK.out | exact HK.out.alloc _⟩
  obtain ⟨rfl, hk⟩ := hrel
  have HK := Fact.mk hk
  clear hk
  go_wp2
  go_loopg [6] 0 (fun g x w' => x = .int .i64 0 ∧ Keep All w w')
  case atStart => exact ⟨rfl, by first | exact Keep.refl _ _ | exact HK.out | exact HK.out.alloc _⟩
  obtain ⟨rfl, hk⟩ := hrel
  have HK := Fact.mk hk
  clear hk
  go_wp2
  go_loopg [9] 0 (fun g x w' => x = .int .i64 0 ∧ Keep All w w')
  case atStart => exact ⟨rfl, by first | exact Keep.refl _ _ | exact HK.out | exact HK.out.alloc _⟩
  obtain ⟨rfl, hk⟩ := hrel
  have HK := Fact.mk hk
  clear hk
  go_wp2
  go_loopg [11] 0 (fun g x w' => x = .int .i64 0 ∧ Keep All w w')
  case atStart => exact ⟨rfl, by first | exact Keep.refl _ _ | exact HK.out | exact HK.out.alloc _⟩
  obtain ⟨rfl, hk⟩ := hrel
  have HK := Fact.mk hk
  clear hk
  go_wp2
  go_loopg [14] 0 (fun g x w' => x = .int .i64 0 ∧ Keep All w w')
  case atStart => exact ⟨rfl, by first | exact Keep.refl _ _ | exact HK.out | exact HK.out.alloc _⟩
  obtain ⟨rfl, hk⟩ := hrel
  have HK := Fact.mk hk
  clear hk
  go_wp2
  go_ret
  exact ⟨rfl, HK.out⟩
theorem flat97 (w : World) : Calls Tryz.prog 97 #[.slice none 0 0] w (RightPost w true) := by
  have hmk : ∀ w, (Instr.makeSlice 118 (.int .i64 0) (.int .i64 0)).run Tryz.prog w = .ok (.slice (some ⟨w.heap.size, 0, none⟩) 0 0) (w.alloc (.cells #[] 237)) := fun w => by kernel_rfl
  go_enter Tryz.func97, Tryz.ntmps97
  go_wp2
  go_loopg [3] 0 (fun g x w' => x = .int .i64 0 ∧ Keep All w w')
  case atStart => exact ⟨rfl, by first | exact Keep.refl _ _ | exact HK.out | exact HK.out.alloc _⟩
  obtain ⟨rfl, hk⟩ := hrel
  have HK := Fact.mk hk
  clear hk
  go_wp2
  go_loopg [6] 0 (fun g x w' => x = .int .i64 0 ∧ Keep All w w')
  case atStart => exact ⟨rfl, by first | exact Keep.refl _ _ | exact HK.out | exact HK.out.alloc _⟩
  obtain ⟨rfl, hk⟩ := hrel
  have HK := Fact.mk hk
  clear hk
  go_wp2
  go_loopg [9] 0 (fun g x w' => x = .int .i64 0 ∧ Keep All w w')
  case atStart => exact ⟨rfl, by first | exact Keep.refl _ _ | exact HK.out | exact HK.out.alloc _⟩
  obtain ⟨rfl, hk⟩ := hrel
  have HK := Fact.mk hk
  clear hk
  go_wp2
  go_loopg [11] 0 (fun g x w' => x = .int .i64 0 ∧ Keep All w w')
  case atStart => exact ⟨rfl, by first | exact Keep.refl _ _ | exact HK.out | exact HK.out.alloc _⟩
  obtain ⟨rfl, hk⟩ := hrel
  have HK := Fact.mk hk
  clear hk
  go_wp2
  go_loopg [14] 0 (fun g x w' => x = .int .i64 0 ∧ Keep All w w')
  case atStart => exact ⟨rfl, by first | exact Keep.refl _ _ | exact HK.out | exact HK.out.alloc _⟩
  obtain ⟨rfl, hk⟩ := hrel
  have HK := Fact.mk hk
  clear hk
  go_wp2
  go_ret
  exact ⟨rfl, HK.out⟩
theorem flat98 (w : World) : Calls Tryz.prog 98 #[.slice none 0 0] w (RightPost w true) := by
  have hmk : ∀ w, (Instr.makeSlice 119 (.int .i64 0) (.int .i64 0)).run Tryz.prog w = .ok (.slice (some ⟨w.heap.size, 0, none⟩) 0 0) (w.alloc (.cells #[] 242)) := fun w => by kernel_rfl
  go_enter Tryz.func98, Tryz.ntmps98
  go_wp2
  go_loopg [3] 0 (fun g x w' => x = .int .i64 0 ∧ Keep All w w')
  case atStart => exact ⟨rfl, by first | exact Keep.refl _ _ | exact HK.out | exact HK.out.alloc _⟩
  obtain ⟨rfl, hk⟩ := hrel
  have HK := Fact.mk hk
  clear hk
  go_wp2
  go_loopg [6] 0 (fun g x w' => x = .int .i64 0 ∧ Keep All w w')
  case atStart => exact ⟨rfl, by first | exact Keep.refl _ _ | exact HK.out | exact HK.out.alloc _⟩
  obtain ⟨rfl, hk⟩ := hrel
  have HK := Fact.mk hk
  clear hk
  go_wp2
  go_loopg [9] 0 (fun g x w' => x = .int .i64 0 ∧ Keep All w w')
  case atStart => exact ⟨rfl, by first | exact Keep.refl _ _ | exact HK.out | exact HK.out.alloc _⟩
  obtain ⟨rfl, hk⟩ := hrel
  have HK := Fact.mk hk
  clear hk
  go_wp2
  go_loopg [11] 0 (fun g x w' => x = .int .i64 0 ∧ Keep All w w')
  case atStart => exact ⟨rfl, by first | exact Keep.refl _ _ | exact HK.out | exact HK.out.alloc _⟩
  obtain ⟨rfl, hk⟩ := hrel
  have HK := Fact.mk hk
  clear hk
  go_wp2
  go_loopg [14] 0 (fun g x w' => x = .int .i64 0 ∧ Keep All w w')
  case atStart => exact ⟨rfl, by first | exact Keep.refl _ _ | exact HK.out | exact HK.out.alloc _⟩
  obtain ⟨rfl, hk⟩ := hrel
  have HK := Fact.mk hk
  clear hk
  go_wp2
  go_ret
  exact ⟨rfl, HK.out⟩
theorem flat99 (w : World) : Calls Tryz.prog 99 #[.slice none 0 0] w (RightPost w true) := by
  have hmk : ∀ w, (Instr.makeSlice 120 (.int .i64 0) (.int .i64 0)).run Tryz.prog w = .ok (.slice (some ⟨w.heap.size, 0, none⟩) 0 0) (w.alloc (.cells #[] 246)) := fun w => by kernel_rfl
  go_enter Tryz.func99, Tryz.ntmps99
  go_wp2
  go_loopg [3] 0 (fun g x w' => x = .int .i64 0 ∧ Keep All w w')
  case atStart => exact ⟨rfl, by first | exact Keep.refl _ _ | exact HK.out | exact HK.out.alloc _⟩
  obtain ⟨rfl, hk⟩ := hrel
  have HK := Fact.mk hk
  clear hk
  go_wp2
  go_loopg [6] 0 (fun g x w' => x = .int .i64 0 ∧ Keep All w w')
  case atStart => exact ⟨rfl, by first | exact Keep.refl _ _ | exact HK.out | exact HK.out.alloc _⟩
  obtain ⟨rfl, hk⟩ := hrel
  have HK := Fact.mk hk
  clear hk
  go_wp2
  go_loopg [9] 0 (fun g x w' => x = .int .i64 0 ∧ Keep All w w')
  case atStart => exact ⟨rfl, by first | exact Keep.refl _ _ | exact HK.out | exact HK.out.alloc _⟩
  obtain ⟨rfl, hk⟩ := hrel
  have HK := Fact.mk hk
  clear hk
  go_wp2
  go_loopg [11] 0 (fun g x w' => x = .int .i64 0 ∧ Keep All w w')
  case atStart => exact ⟨rfl, by first | exact Keep.refl _ _ | exact HK.out | exact HK.out.alloc _⟩
  obtain ⟨rfl, hk⟩ := hrel
  have HK := Fact.mk hk
  clear hk
  go_wp2
  go_loopg [14] 0 (fun g x w' => x = .int .i64 0 ∧ Keep All w w')
  case atStart => exact ⟨rfl, by first | exact Keep.refl _ _ | exact HK.out | exact HK.out.alloc _⟩
  obtain ⟨rfl, hk⟩ := hrel
  have HK := Fact.mk hk
  clear hk
  go_wp2
  go_ret
  exact ⟨rfl, HK.out⟩
theorem flat100 (w : World) : Calls Tryz.prog 100 #[.slice none 0 0] w (RightPost w true) := by
  have hmk : ∀ w, (Instr.makeSlice 121 (.int .i64 0) (.int .i64 0)).run Tryz.prog w = .ok (.slice (some ⟨w.heap.size, 0, none⟩) 0 0) (w.alloc (.cells #[] 251)) := fun w => by kernel_rfl
  go_enter Tryz.func100, Tryz.ntmps100
  go_wp2
  go_loopg [3] 0 (fun g x w' => x = .int .i64 0 ∧ Keep All w w')
  case atStart => exact ⟨rfl, by first | exact Keep.refl _ _ | exact HK.out | exact HK.out.alloc _⟩
  obtain ⟨rfl, hk⟩ := hrel
  have HK := Fact.mk hk
  clear hk
  go_wp2
  go_loopg [6] 0 (fun g x w' => x = .int .i64 0 ∧ Keep All w w')
  case atStart => exact ⟨rfl, by first | exact Keep.refl _ _ | exact HK.out | exact HK.out.alloc _⟩
  obtain ⟨rfl, hk⟩ := hrel
  have HK := Fact.mk hk
  clear hk
  go_wp2
  go_loopg [9] 0 (fun g x w' => x = .int .i64 0 ∧ Keep All w w')
  case atStart => exact ⟨rfl, by first | exact Keep.refl _ _ | exact HK.out | exact HK.out.alloc _⟩
  obtain ⟨rfl, hk⟩ := hrel
  have HK := Fact.mk hk
  clear hk
  go_wp2
  go_loopg [11] 0 (fun g x w' => x = .int .i64 0 ∧ Keep All w w')
  case atStart => exact ⟨rfl, by first | exact Keep.refl _ _ | exact HK.out | exact HK.out.alloc _⟩
  obtain ⟨rfl, hk⟩ := hrel
  have HK := Fact.mk hk
  clear hk
  go_wp2
  go_loopg [14] 0 (fun g x w' => x = .int .i64 0 ∧ Keep All w w')
  case atStart => exact ⟨rfl, by first | exact Keep.refl _ _ | exact HK.out | exact HK.out.alloc _⟩
  obtain ⟨rfl, hk⟩ := hrel
  have HK := Fact.mk hk
  clear hk
  go_wp2
  go_ret
  exact ⟨rfl, HK.out⟩
theorem flat101 (w : World) : Calls Tryz.prog 101 #[.slice none 0 0] w (RightPost w true) := by
  have hmk : ∀ w, (Instr.makeSlice 122 (.int .i64 0) (.int .i64 0)).run Tryz.prog w = .ok (.slice (some ⟨w.heap.size, 0, none⟩) 0 0) (w.alloc (.cells #[] 257)) := fun w => by kernel_rfl
  go_enter Tryz.func101, Tryz.ntmps101
  go_wp2
  go_loopg [3] 0 (fun g x w' => x = .int .i64 0 ∧ Keep All w w')
  case atStart => exact ⟨rfl, by first | exact Keep.refl _ _ | exact HK.out | exact HK.out.alloc _⟩
  obtain ⟨rfl, hk⟩ := hrel
  have HK := Fact.mk hk
  clear hk
  go_wp2
  go_loopg [6] 0 (fun g x w' => x = .int .i64 0 ∧ Keep All w w')
  case atStart => exact ⟨rfl, by first | exact Keep.refl _ _ | exact HK.out | exact HK.out.alloc _⟩
  obtain ⟨rfl, hk⟩ := hrel
  have HK := Fact.mk hk
  clear hk
  go_wp2
  go_loopg [9] 0 (fun g x w' => x = .int .i64 0 ∧ Keep All w w')
  case atStart => exact ⟨rfl, by first | exact Keep.refl _ _ | exact HK.out | exact HK.out.alloc _⟩
  obtain ⟨rfl, hk⟩ := hrel
  have HK := Fact.mk hk
  clear hk
  go_wp2
  go_loopg [11] 0 (fun g x w' => x = .int .i64 0 ∧ Keep All w w')
  case atStart => exact ⟨rfl, by first | exact Keep.refl _ _ | exact HK.out | exact HK.out.alloc _⟩
  obtain ⟨rfl, hk⟩ := hrel
  have HK := Fact.mk hk
  clear hk
  go_wp2
  go_loopg [14] 0 (fun g x w' => x = .int .i64 0 ∧ Keep All w w')
  case atStart => exact ⟨rfl, by first | exact Keep.refl _ _ | exact HK.out | exact HK.out.alloc _⟩
  obtain ⟨rfl, hk⟩ := hrel
  have HK := Fact.mk hk
  clear hk
  go_wp2
  go_ret
  exact ⟨rfl, HK.out⟩
end Go.Proofs.YtddmbdigdnmfgaaGreatDoor
