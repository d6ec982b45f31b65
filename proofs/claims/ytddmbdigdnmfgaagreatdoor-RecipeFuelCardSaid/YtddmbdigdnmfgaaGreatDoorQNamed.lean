/- base.sign, at every rune: the signs below 128 one by one, printed by a program. -/
import Derived.Test.YtddmbdigdnmfgaaGreatDoorQName
import Derived.Test.YtddmbdigdnmfgaaGreatDoorQShelf
import Derived.Test.YtddmbdigdnmfgaaGreatDoorQPut
namespace Go.Proofs.YtddmbdigdnmfgaaGreatDoor
open Go.RowKit
set_option maxHeartbeats 400000
set_option maxRecDepth 100000

/-- May a sign stand in a name? -/
def signP (n : Nat) : Bool := (65 ≤ n && n ≤ 90) || (97 ≤ n && n ≤ 122) || (48 ≤ n && n ≤ 57) || n == 46 || n == 95 || n == 43 || n == 45
theorem idx197 (w : World) (n : Nat) (r : Int) (h : Lib.indexByte [46, 95, 43, 45] (n : Int).toNat.toUInt8 = r) : Calls Tryz.prog 197 #[.string ⟨#[46, 95, 43, 45]⟩, .int .u8 n] w fun e w' => e = .returned (.int .i64 r) ∧ w = w' :=
  (Tryz.strings_IndexByte _ _ w).mono fun _ _ ⟨h1, h2⟩ => ⟨h1.trans (by rw [← h]), h2.symm⟩
theorem sgn0 (w : World) : Calls Tryz.prog 161 #[.int .i32 0] w fun e w' => e = .returned (.bool false) ∧ w = w' := by
  go_enter Tryz.func161, Tryz.ntmps161
  go_wp2_with (go_at_call 197; go_must (refine (idx197 _ 0 (-1) (by decide)).mono ?_); rintro e w' ⟨rfl, rfl⟩)
  go_ret
  exact ⟨rfl, rfl⟩
theorem sgn1 (w : World) : Calls Tryz.prog 161 #[.int .i32 1] w fun e w' => e = .returned (.bool false) ∧ w = w' := by
  go_enter Tryz.func161, Tryz.ntmps161
  go_wp2_with (go_at_call 197; go_must (refine (idx197 _ 1 (-1) (by decide)).mono ?_); rintro e w' ⟨rfl, rfl⟩)
  go_ret
  exact ⟨rfl, rfl⟩
theorem sgn2 (w : World) : Calls Tryz.prog 161 #[.int .i32 2] w fun e w' => e = .returned (.bool false) ∧ w = w' := by
  go_enter Tryz.func161, Tryz.ntmps161
  go_wp2_with (go_at_call 197; go_must (refine (idx197 _ 2 (-1) (by decide)).mono ?_); rintro e w' ⟨rfl, rfl⟩)
  go_ret
  exact ⟨rfl, rfl⟩
theorem sgn3 (w : World) : Calls Tryz.prog 161 #[.int .i32 3] w fun e w' => e = .returned (.bool false) ∧ w = w' := by
  go_enter Tryz.func161, Tryz.ntmps161
  go_wp2_with (go_at_call 197; go_must (refine (idx197 _ 3 (-1) (by decide)).mono ?_); rintro e w' ⟨rfl, rfl⟩)
  go_ret
  exact ⟨rfl, rfl⟩
theorem sgn4 (w : World) : Calls Tryz.prog 161 #[.int .i32 4] w fun e w' => e = .returned (.bool false) ∧ w = w' := by
  go_enter Tryz.func161, Tryz.ntmps161
  go_wp2_with (go_at_call 197; go_must (refine (idx197 _ 4 (-1) (by decide)).mono ?_); rintro e w' ⟨rfl, rfl⟩)
  go_ret
  exact ⟨rfl, rfl⟩
theorem sgn5 (w : World) : Calls Tryz.prog 161 #[.int .i32 5] w fun e w' => e = .returned (.bool false) ∧ w = w' := by
  go_enter Tryz.func161, Tryz.ntmps161
  go_wp2_with (go_at_call 197; go_must (refine (idx197 _ 5 (-1) (by decide)).mono ?_); rintro e w' ⟨rfl, rfl⟩)
  go_ret
  exact ⟨rfl, rfl⟩
theorem sgn6 (w : World) : Calls Tryz.prog 161 #[.int .i32 6] w fun e w' => e = .returned (.bool false) ∧ w = w' := by
  go_enter Tryz.func161, Tryz.ntmps161
  go_wp2_with (go_at_call 197; go_must (refine (idx197 _ 6 (-1) (by decide)).mono ?_); rintro e w' ⟨rfl, rfl⟩)
  go_ret
  exact ⟨rfl, rfl⟩
theorem sgn7 (w : World) : Calls Tryz.prog 161 #[.int .i32 7] w fun e w' => e = .returned (.bool false) ∧ w = w' := by
  go_enter Tryz.func161, Tryz.ntmps161
  go_wp2_with (go_at_call 197; go_must (refine (idx197 _ 7 (-1) (by decide)).mono ?_); rintro e w' ⟨rfl, rfl⟩)
  go_ret
  exact ⟨rfl, rfl⟩
theorem sgn8 (w : World) : Calls Tryz.prog 161 #[.int .i32 8] w fun e w' => e = .returned (.bool false) ∧ w = w' := by
  go_enter Tryz.func161, Tryz.ntmps161
  go_wp2_with (go_at_call 197; go_must (refine (idx197 _ 8 (-1) (by decide)).mono ?_); rintro e w' ⟨rfl, rfl⟩)
  go_ret
  exact ⟨rfl, rfl⟩
theorem sgn9 (w : World) : Calls Tryz.prog 161 #[.int .i32 9] w fun e w' => e = .returned (.bool false) ∧ w = w' := by
  go_enter Tryz.func161, Tryz.ntmps161
  go_wp2_with (go_at_call 197; go_must (refine (idx197 _ 9 (-1) (by decide)).mono ?_); rintro e w' ⟨rfl, rfl⟩)
  go_ret
  exact ⟨rfl, rfl⟩
theorem sgn10 (w : World) : Calls Tryz.prog 161 #[.int .i32 10] w fun e w' => e = .returned (.bool false) ∧ w = w' := by
  go_enter Tryz.func161, Tryz.ntmps161
  go_wp2_with (go_at_call 197; go_must (refine (idx197 _ 10 (-1) (by decide)).mono ?_); rintro e w' ⟨rfl, rfl⟩)
  go_ret
  exact ⟨rfl, rfl⟩
theorem sgn11 (w : World) : Calls Tryz.prog 161 #[.int .i32 11] w fun e w' => e = .returned (.bool false) ∧ w = w' := by
  go_enter Tryz.func161, Tryz.ntmps161
  go_wp2_with (go_at_call 197; go_must (refine (idx197 _ 11 (-1) (by decide)).mono ?_); rintro e w' ⟨rfl, rfl⟩)
  go_ret
  exact ⟨rfl, rfl⟩
theorem sgn12 (w : World) : Calls Tryz.prog 161 #[.int .i32 12] w fun e w' => e = .returned (.bool false) ∧ w = w' := by
  go_enter Tryz.func161, Tryz.ntmps161
  go_wp2_with (go_at_call 197; go_must (refine (idx197 _ 12 (-1) (by decide)).mono ?_); rintro e w' ⟨rfl, rfl⟩)
  go_ret
  exact ⟨rfl, rfl⟩
theorem sgn13 (w : World) : Calls Tryz.prog 161 #[.int .i32 13] w fun e w' => e = .returned (.bool false) ∧ w = w' := by
  go_enter Tryz.func161, Tryz.ntmps161
  go_wp2_with (go_at_call 197; go_must (refine (idx197 _ 13 (-1) (by decide)).mono ?_); rintro e w' ⟨rfl, rfl⟩)
  go_ret
  exact ⟨rfl, rfl⟩
theorem sgn14 (w : World) : Calls Tryz.prog 161 #[.int .i32 14] w fun e w' => e = .returned (.bool false) ∧ w = w' := by
  go_enter Tryz.func161, Tryz.ntmps161
  go_wp2_with (go_at_call 197; go_must (refine (idx197 _ 14 (-1) (by decide)).mono ?_); rintro e w' ⟨rfl, rfl⟩)
  go_ret
  exact ⟨rfl, rfl⟩
theorem sgn15 (w : World) : Calls Tryz.prog 161 #[.int .i32 15] w fun e w' => e = .returned (.bool false) ∧ w = w' := by
  go_enter Tryz.func161, Tryz.ntmps161
  go_wp2_with (go_at_call 197; go_must (refine (idx197 _ 15 (-1) (by decide)).mono ?_); rintro e w' ⟨rfl, rfl⟩)
  go_ret
  exact ⟨rfl, rfl⟩
theorem sgn16 (w : World) : Calls Tryz.prog 161 #[.int .i32 16] w fun e w' => e = .returned (.bool false) ∧ w = w' := by
  go_enter Tryz.func161, Tryz.ntmps161
  go_wp2_with (go_at_call 197; go_must (refine (idx197 _ 16 (-1) (by decide)).mono ?_); rintro e w' ⟨rfl, rfl⟩)
  go_ret
  exact ⟨rfl, rfl⟩
theorem sgn17 (w : World) : Calls Tryz.prog 161 #[.int .i32 17] w fun e w' => e = .returned (.bool false) ∧ w = w' := by
  go_enter Tryz.func161, Tryz.ntmps161
  go_wp2_with (go_at_call 197; go_must (refine (idx197 _ 17 (-1) (by decide)).mono ?_); rintro e w' ⟨rfl, rfl⟩)
  go_ret
  exact ⟨rfl, rfl⟩
theorem sgn18 (w : World) : Calls Tryz.prog 161 #[.int .i32 18] w fun e w' => e = .returned (.bool false) ∧ w = w' := by
  go_enter Tryz.func161, Tryz.ntmps161
  go_wp2_with (go_at_call 197; go_must (refine (idx197 _ 18 (-1) (by decide)).mono ?_); rintro e w' ⟨rfl, rfl⟩)
  go_ret
  exact ⟨rfl, rfl⟩
theorem sgn19 (w : World) : Calls Tryz.prog 161 #[.int .i32 19] w fun e w' => e = .returned (.bool false) ∧ w = w' := by
  go_enter Tryz.func161, Tryz.ntmps161
  go_wp2_with (go_at_call 197; go_must (refine (idx197 _ 19 (-1) (by decide)).mono ?_); rintro e w' ⟨rfl, rfl⟩)
  go_ret
  exact ⟨rfl, rfl⟩
theorem sgn20 (w : World) : Calls Tryz.prog 161 #[.int .i32 20] w fun e w' => e = .returned (.bool false) ∧ w = w' := by
  go_enter Tryz.func161, Tryz.ntmps161
  go_wp2_with (go_at_call 197; go_must (refine (idx197 _ 20 (-1) (by decide)).mono ?_); rintro e w' ⟨rfl, rfl⟩)
  go_ret
  exact ⟨rfl, rfl⟩
theorem sgn21 (w : World) : Calls Tryz.prog 161 #[.int .i32 21] w fun e w' => e = .returned (.bool false) ∧ w = w' := by
  go_enter Tryz.func161, Tryz.ntmps161
  go_wp2_with (go_at_call 197; go_must (refine (idx197 _ 21 (-1) (by decide)).mono ?_); rintro e w' ⟨rfl, rfl⟩)
  go_ret
  exact ⟨rfl, rfl⟩
theorem sgn22 (w : World) : Calls Tryz.prog 161 #[.int .i32 22] w fun e w' => e = .returned (.bool false) ∧ w = w' := by
  go_enter Tryz.func161, Tryz.ntmps161
  go_wp2_with (go_at_call 197; go_must (refine (idx197 _ 22 (-1) (by decide)).mono ?_); rintro e w' ⟨rfl, rfl⟩)
  go_ret
  exact ⟨rfl, rfl⟩
theorem sgn23 (w : World) : Calls Tryz.prog 161 #[.int .i32 23] w fun e w' => e = .returned (.bool false) ∧ w = w' := by
  go_enter Tryz.func161, Tryz.ntmps161
  go_wp2_with (go_at_call 197; go_must (refine (idx197 _ 23 (-1) (by decide)).mono ?_); rintro e w' ⟨rfl, rfl⟩)
  go_ret
  exact ⟨rfl, rfl⟩
theorem sgn24 (w : World) : Calls Tryz.prog 161 #[.int .i32 24] w fun e w' => e = .returned (.bool false) ∧ w = w' := by
  go_enter Tryz.func161, Tryz.ntmps161
  go_wp2_with (go_at_call 197; go_must (refine (idx197 _ 24 (-1) (by decide)).mono ?_); rintro e w' ⟨rfl, rfl⟩)
  go_ret
  exact ⟨rfl, rfl⟩
theorem sgn25 (w : World) : Calls Tryz.prog 161 #[.int .i32 25] w fun e w' => e = .returned (.bool false) ∧ w = w' := by
  go_enter Tryz.func161, Tryz.ntmps161
  go_wp2_with (go_at_call 197; go_must (refine (idx197 _ 25 (-1) (by decide)).mono ?_); rintro e w' ⟨rfl, rfl⟩)
  go_ret
  exact ⟨rfl, rfl⟩
theorem sgn26 (w : World) : Calls Tryz.prog 161 #[.int .i32 26] w fun e w' => e = .returned (.bool false) ∧ w = w' := by
  go_enter Tryz.func161, Tryz.ntmps161
  go_wp2_with (go_at_call 197; go_must (refine (idx197 _ 26 (-1) (by decide)).mono ?_); rintro e w' ⟨rfl, rfl⟩)
  go_ret
  exact ⟨rfl, rfl⟩
theorem sgn27 (w : World) : Calls Tryz.prog 161 #[.int .i32 27] w fun e w' => e = .returned (.bool false) ∧ w = w' := by
  go_enter Tryz.func161, Tryz.ntmps161
  go_wp2_with (go_at_call 197; go_must (refine (idx197 _ 27 (-1) (by decide)).mono ?_); rintro e w' ⟨rfl, rfl⟩)
  go_ret
  exact ⟨rfl, rfl⟩
theorem sgn28 (w : World) : Calls Tryz.prog 161 #[.int .i32 28] w fun e w' => e = .returned (.bool false) ∧ w = w' := by
  go_enter Tryz.func161, Tryz.ntmps161
  go_wp2_with (go_at_call 197; go_must (refine (idx197 _ 28 (-1) (by decide)).mono ?_); rintro e w' ⟨rfl, rfl⟩)
  go_ret
  exact ⟨rfl, rfl⟩
theorem sgn29 (w : World) : Calls Tryz.prog 161 #[.int .i32 29] w fun e w' => e = .returned (.bool false) ∧ w = w' := by
  go_enter Tryz.func161, Tryz.ntmps161
  go_wp2_with (go_at_call 197; go_must (refine (idx197 _ 29 (-1) (by decide)).mono ?_); rintro e w' ⟨rfl, rfl⟩)
  go_ret
  exact ⟨rfl, rfl⟩
theorem sgn30 (w : World) : Calls Tryz.prog 161 #[.int .i32 30] w fun e w' => e = .returned (.bool false) ∧ w = w' := by
  go_enter Tryz.func161, Tryz.ntmps161
  go_wp2_with (go_at_call 197; go_must (refine (idx197 _ 30 (-1) (by decide)).mono ?_); rintro e w' ⟨rfl, rfl⟩)
  go_ret
  exact ⟨rfl, rfl⟩
theorem sgn31 (w : World) : Calls Tryz.prog 161 #[.int .i32 31] w fun e w' => e = .returned (.bool false) ∧ w = w' := by
  go_enter Tryz.func161, Tryz.ntmps161
  go_wp2_with (go_at_call 197; go_must (refine (idx197 _ 31 (-1) (by decide)).mono ?_); rintro e w' ⟨rfl, rfl⟩)
  go_ret
  exact ⟨rfl, rfl⟩
theorem sgn32 (w : World) : Calls Tryz.prog 161 #[.int .i32 32] w fun e w' => e = .returned (.bool false) ∧ w = w' := by
  go_enter Tryz.func161, Tryz.ntmps161
  go_wp2_with (go_at_call 197; go_must (refine (idx197 _ 32 (-1) (by decide)).mono ?_); rintro e w' ⟨rfl, rfl⟩)
  go_ret
  exact ⟨rfl, rfl⟩
theorem sgn33 (w : World) : Calls Tryz.prog 161 #[.int .i32 33] w fun e w' => e = .returned (.bool false) ∧ w = w' := by
  go_enter Tryz.func161, Tryz.ntmps161
  go_wp2_with (go_at_call 197; go_must (refine (idx197 _ 33 (-1) (by decide)).mono ?_); rintro e w' ⟨rfl, rfl⟩)
  go_ret
  exact ⟨rfl, rfl⟩
theorem sgn34 (w : World) : Calls Tryz.prog 161 #[.int .i32 34] w fun e w' => e = .returned (.bool false) ∧ w = w' := by
  go_enter Tryz.func161, Tryz.ntmps161
  go_wp2_with (go_at_call 197; go_must (refine (idx197 _ 34 (-1) (by decide)).mono ?_); rintro e w' ⟨rfl, rfl⟩)
  go_ret
  exact ⟨rfl, rfl⟩
theorem sgn35 (w : World) : Calls Tryz.prog 161 #[.int .i32 35] w fun e w' => e = .returned (.bool false) ∧ w = w' := by
  go_enter Tryz.func161, Tryz.ntmps161
  go_wp2_with (go_at_call 197; go_must (refine (idx197 _ 35 (-1) (by decide)).mono ?_); rintro e w' ⟨rfl, rfl⟩)
  go_ret
  exact ⟨rfl, rfl⟩
theorem sgn36 (w : World) : Calls Tryz.prog 161 #[.int .i32 36] w fun e w' => e = .returned (.bool false) ∧ w = w' := by
  go_enter Tryz.func161, Tryz.ntmps161
  go_wp2_with (go_at_call 197; go_must (refine (idx197 _ 36 (-1) (by decide)).mono ?_); rintro e w' ⟨rfl, rfl⟩)
  go_ret
  exact ⟨rfl, rfl⟩
theorem sgn37 (w : World) : Calls Tryz.prog 161 #[.int .i32 37] w fun e w' => e = .returned (.bool false) ∧ w = w' := by
  go_enter Tryz.func161, Tryz.ntmps161
  go_wp2_with (go_at_call 197; go_must (refine (idx197 _ 37 (-1) (by decide)).mono ?_); rintro e w' ⟨rfl, rfl⟩)
  go_ret
  exact ⟨rfl, rfl⟩
theorem sgn38 (w : World) : Calls Tryz.prog 161 #[.int .i32 38] w fun e w' => e = .returned (.bool false) ∧ w = w' := by
  go_enter Tryz.func161, Tryz.ntmps161
  go_wp2_with (go_at_call 197; go_must (refine (idx197 _ 38 (-1) (by decide)).mono ?_); rintro e w' ⟨rfl, rfl⟩)
  go_ret
  exact ⟨rfl, rfl⟩
theorem sgn39 (w : World) : Calls Tryz.prog 161 #[.int .i32 39] w fun e w' => e = .returned (.bool false) ∧ w = w' := by
  go_enter Tryz.func161, Tryz.ntmps161
  go_wp2_with (go_at_call 197; go_must (refine (idx197 _ 39 (-1) (by decide)).mono ?_); rintro e w' ⟨rfl, rfl⟩)
  go_ret
  exact ⟨rfl, rfl⟩
theorem sgn40 (w : World) : Calls Tryz.prog 161 #[.int .i32 40] w fun e w' => e = .returned (.bool false) ∧ w = w' := by
  go_enter Tryz.func161, Tryz.ntmps161
  go_wp2_with (go_at_call 197; go_must (refine (idx197 _ 40 (-1) (by decide)).mono ?_); rintro e w' ⟨rfl, rfl⟩)
  go_ret
  exact ⟨rfl, rfl⟩
theorem sgn41 (w : World) : Calls Tryz.prog 161 #[.int .i32 41] w fun e w' => e = .returned (.bool false) ∧ w = w' := by
  go_enter Tryz.func161, Tryz.ntmps161
  go_wp2_with (go_at_call 197; go_must (refine (idx197 _ 41 (-1) (by decide)).mono ?_); rintro e w' ⟨rfl, rfl⟩)
  go_ret
  exact ⟨rfl, rfl⟩
theorem sgn42 (w : World) : Calls Tryz.prog 161 #[.int .i32 42] w fun e w' => e = .returned (.bool false) ∧ w = w' := by
  go_enter Tryz.func161, Tryz.ntmps161
  go_wp2_with (go_at_call 197; go_must (refine (idx197 _ 42 (-1) (by decide)).mono ?_); rintro e w' ⟨rfl, rfl⟩)
  go_ret
  exact ⟨rfl, rfl⟩
theorem sgn43 (w : World) : Calls Tryz.prog 161 #[.int .i32 43] w fun e w' => e = .returned (.bool true) ∧ w = w' := by
  go_enter Tryz.func161, Tryz.ntmps161
  go_wp2_with (go_at_call 197; go_must (refine (idx197 _ 43 (2) (by decide)).mono ?_); rintro e w' ⟨rfl, rfl⟩)
  go_ret
  exact ⟨rfl, rfl⟩
theorem sgn44 (w : World) : Calls Tryz.prog 161 #[.int .i32 44] w fun e w' => e = .returned (.bool false) ∧ w = w' := by
  go_enter Tryz.func161, Tryz.ntmps161
  go_wp2_with (go_at_call 197; go_must (refine (idx197 _ 44 (-1) (by decide)).mono ?_); rintro e w' ⟨rfl, rfl⟩)
  go_ret
  exact ⟨rfl, rfl⟩
theorem sgn45 (w : World) : Calls Tryz.prog 161 #[.int .i32 45] w fun e w' => e = .returned (.bool true) ∧ w = w' := by
  go_enter Tryz.func161, Tryz.ntmps161
  go_wp2_with (go_at_call 197; go_must (refine (idx197 _ 45 (3) (by decide)).mono ?_); rintro e w' ⟨rfl, rfl⟩)
  go_ret
  exact ⟨rfl, rfl⟩
theorem sgn46 (w : World) : Calls Tryz.prog 161 #[.int .i32 46] w fun e w' => e = .returned (.bool true) ∧ w = w' := by
  go_enter Tryz.func161, Tryz.ntmps161
  go_wp2_with (go_at_call 197; go_must (refine (idx197 _ 46 (0) (by decide)).mono ?_); rintro e w' ⟨rfl, rfl⟩)
  go_ret
  exact ⟨rfl, rfl⟩
theorem sgn47 (w : World) : Calls Tryz.prog 161 #[.int .i32 47] w fun e w' => e = .returned (.bool false) ∧ w = w' := by
  go_enter Tryz.func161, Tryz.ntmps161
  go_wp2_with (go_at_call 197; go_must (refine (idx197 _ 47 (-1) (by decide)).mono ?_); rintro e w' ⟨rfl, rfl⟩)
  go_ret
  exact ⟨rfl, rfl⟩
theorem sgn48 (w : World) : Calls Tryz.prog 161 #[.int .i32 48] w fun e w' => e = .returned (.bool true) ∧ w = w' := by
  go_enter Tryz.func161, Tryz.ntmps161
  go_wp2
  go_ret
  exact ⟨rfl, rfl⟩
theorem sgn49 (w : World) : Calls Tryz.prog 161 #[.int .i32 49] w fun e w' => e = .returned (.bool true) ∧ w = w' := by
  go_enter Tryz.func161, Tryz.ntmps161
  go_wp2
  go_ret
  exact ⟨rfl, rfl⟩
theorem sgn50 (w : World) : Calls Tryz.prog 161 #[.int .i32 50] w fun e w' => e = .returned (.bool true) ∧ w = w' := by
  go_enter Tryz.func161, Tryz.ntmps161
  go_wp2
  go_ret
  exact ⟨rfl, rfl⟩
theorem sgn51 (w : World) : Calls Tryz.prog 161 #[.int .i32 51] w fun e w' => e = .returned (.bool true) ∧ w = w' := by
  go_enter Tryz.func161, Tryz.ntmps161
  go_wp2
  go_ret
  exact ⟨rfl, rfl⟩
theorem sgn52 (w : World) : Calls Tryz.prog 161 #[.int .i32 52] w fun e w' => e = .returned (.bool true) ∧ w = w' := by
  go_enter Tryz.func161, Tryz.ntmps161
  go_wp2
  go_ret
  exact ⟨rfl, rfl⟩
theorem sgn53 (w : World) : Calls Tryz.prog 161 #[.int .i32 53] w fun e w' => e = .returned (.bool true) ∧ w = w' := by
  go_enter Tryz.func161, Tryz.ntmps161
  go_wp2
  go_ret
  exact ⟨rfl, rfl⟩
theorem sgn54 (w : World) : Calls Tryz.prog 161 #[.int .i32 54] w fun e w' => e = .returned (.bool true) ∧ w = w' := by
  go_enter Tryz.func161, Tryz.ntmps161
  go_wp2
  go_ret
  exact ⟨rfl, rfl⟩
theorem sgn55 (w : World) : Calls Tryz.prog 161 #[.int .i32 55] w fun e w' => e = .returned (.bool true) ∧ w = w' := by
  go_enter Tryz.func161, Tryz.ntmps161
  go_wp2
  go_ret
  exact ⟨rfl, rfl⟩
theorem sgn56 (w : World) : Calls Tryz.prog 161 #[.int .i32 56] w fun e w' => e = .returned (.bool true) ∧ w = w' := by
  go_enter Tryz.func161, Tryz.ntmps161
  go_wp2
  go_ret
  exact ⟨rfl, rfl⟩
theorem sgn57 (w : World) : Calls Tryz.prog 161 #[.int .i32 57] w fun e w' => e = .returned (.bool true) ∧ w = w' := by
  go_enter Tryz.func161, Tryz.ntmps161
  go_wp2
  go_ret
  exact ⟨rfl, rfl⟩
theorem sgn58 (w : World) : Calls Tryz.prog 161 #[.int .i32 58] w fun e w' => e = .returned (.bool false) ∧ w = w' := by
  go_enter Tryz.func161, Tryz.ntmps161
  go_wp2_with (go_at_call 197; go_must (refine (idx197 _ 58 (-1) (by decide)).mono ?_); rintro e w' ⟨rfl, rfl⟩)
  go_ret
  exact ⟨rfl, rfl⟩
theorem sgn59 (w : World) : Calls Tryz.prog 161 #[.int .i32 59] w fun e w' => e = .returned (.bool false) ∧ w = w' := by
  go_enter Tryz.func161, Tryz.ntmps161
  go_wp2_with (go_at_call 197; go_must (refine (idx197 _ 59 (-1) (by decide)).mono ?_); rintro e w' ⟨rfl, rfl⟩)
  go_ret
  exact ⟨rfl, rfl⟩
theorem sgn60 (w : World) : Calls Tryz.prog 161 #[.int .i32 60] w fun e w' => e = .returned (.bool false) ∧ w = w' := by
  go_enter Tryz.func161, Tryz.ntmps161
  go_wp2_with (go_at_call 197; go_must (refine (idx197 _ 60 (-1) (by decide)).mono ?_); rintro e w' ⟨rfl, rfl⟩)
  go_ret
  exact ⟨rfl, rfl⟩
theorem sgn61 (w : World) : Calls Tryz.prog 161 #[.int .i32 61] w fun e w' => e = .returned (.bool false) ∧ w = w' := by
  go_enter Tryz.func161, Tryz.ntmps161
  go_wp2_with (go_at_call 197; go_must (refine (idx197 _ 61 (-1) (by decide)).mono ?_); rintro e w' ⟨rfl, rfl⟩)
  go_ret
  exact ⟨rfl, rfl⟩
theorem sgn62 (w : World) : Calls Tryz.prog 161 #[.int .i32 62] w fun e w' => e = .returned (.bool false) ∧ w = w' := by
  go_enter Tryz.func161, Tryz.ntmps161
  go_wp2_with (go_at_call 197; go_must (refine (idx197 _ 62 (-1) (by decide)).mono ?_); rintro e w' ⟨rfl, rfl⟩)
  go_ret
  exact ⟨rfl, rfl⟩
theorem sgn63 (w : World) : Calls Tryz.prog 161 #[.int .i32 63] w fun e w' => e = .returned (.bool false) ∧ w = w' := by
  go_enter Tryz.func161, Tryz.ntmps161
  go_wp2_with (go_at_call 197; go_must (refine (idx197 _ 63 (-1) (by decide)).mono ?_); rintro e w' ⟨rfl, rfl⟩)
  go_ret
  exact ⟨rfl, rfl⟩
theorem sgn64 (w : World) : Calls Tryz.prog 161 #[.int .i32 64] w fun e w' => e = .returned (.bool false) ∧ w = w' := by
  go_enter Tryz.func161, Tryz.ntmps161
  go_wp2_with (go_at_call 197; go_must (refine (idx197 _ 64 (-1) (by decide)).mono ?_); rintro e w' ⟨rfl, rfl⟩)
  go_ret
  exact ⟨rfl, rfl⟩
theorem sgn65 (w : World) : Calls Tryz.prog 161 #[.int .i32 65] w fun e w' => e = .returned (.bool true) ∧ w = w' := by
  go_enter Tryz.func161, Tryz.ntmps161
  go_wp2
  go_ret
  exact ⟨rfl, rfl⟩
theorem sgn66 (w : World) : Calls Tryz.prog 161 #[.int .i32 66] w fun e w' => e = .returned (.bool true) ∧ w = w' := by
  go_enter Tryz.func161, Tryz.ntmps161
  go_wp2
  go_ret
  exact ⟨rfl, rfl⟩
theorem sgn67 (w : World) : Calls Tryz.prog 161 #[.int .i32 67] w fun e w' => e = .returned (.bool true) ∧ w = w' := by
  go_enter Tryz.func161, Tryz.ntmps161
  go_wp2
  go_ret
  exact ⟨rfl, rfl⟩
theorem sgn68 (w : World) : Calls Tryz.prog 161 #[.int .i32 68] w fun e w' => e = .returned (.bool true) ∧ w = w' := by
  go_enter Tryz.func161, Tryz.ntmps161
  go_wp2
  go_ret
  exact ⟨rfl, rfl⟩
theorem sgn69 (w : World) : Calls Tryz.prog 161 #[.int .i32 69] w fun e w' => e = .returned (.bool true) ∧ w = w' := by
  go_enter Tryz.func161, Tryz.ntmps161
  go_wp2
  go_ret
  exact ⟨rfl, rfl⟩
theorem sgn70 (w : World) : Calls Tryz.prog 161 #[.int .i32 70] w fun e w' => e = .returned (.bool true) ∧ w = w' := by
  go_enter Tryz.func161, Tryz.ntmps161
  go_wp2
  go_ret
  exact ⟨rfl, rfl⟩
theorem sgn71 (w : World) : Calls Tryz.prog 161 #[.int .i32 71] w fun e w' => e = .returned (.bool true) ∧ w = w' := by
  go_enter Tryz.func161, Tryz.ntmps161
  go_wp2
  go_ret
  exact ⟨rfl, rfl⟩
theorem sgn72 (w : World) : Calls Tryz.prog 161 #[.int .i32 72] w fun e w' => e = .returned (.bool true) ∧ w = w' := by
  go_enter Tryz.func161, Tryz.ntmps161
  go_wp2
  go_ret
  exact ⟨rfl, rfl⟩
theorem sgn73 (w : World) : Calls Tryz.prog 161 #[.int .i32 73] w fun e w' => e = .returned (.bool true) ∧ w = w' := by
  go_enter Tryz.func161, Tryz.ntmps161
  go_wp2
  go_ret
  exact ⟨rfl, rfl⟩
theorem sgn74 (w : World) : Calls Tryz.prog 161 #[.int .i32 74] w fun e w' => e = .returned (.bool true) ∧ w = w' := by
  go_enter Tryz.func161, Tryz.ntmps161
  go_wp2
  go_ret
  exact ⟨rfl, rfl⟩
theorem sgn75 (w : World) : Calls Tryz.prog 161 #[.int .i32 75] w fun e w' => e = .returned (.bool true) ∧ w = w' := by
  go_enter Tryz.func161, Tryz.ntmps161
  go_wp2
  go_ret
  exact ⟨rfl, rfl⟩
theorem sgn76 (w : World) : Calls Tryz.prog 161 #[.int .i32 76] w fun e w' => e = .returned (.bool true) ∧ w = w' := by
  go_enter Tryz.func161, Tryz.ntmps161
  go_wp2
  go_ret
  exact ⟨rfl, rfl⟩
theorem sgn77 (w : World) : Calls Tryz.prog 161 #[.int .i32 77] w fun e w' => e = .returned (.bool true) ∧ w = w' := by
  go_enter Tryz.func161, Tryz.ntmps161
  go_wp2
  go_ret
  exact ⟨rfl, rfl⟩
theorem sgn78 (w : World) : Calls Tryz.prog 161 #[.int .i32 78] w fun e w' => e = .returned (.bool true) ∧ w = w' := by
  go_enter Tryz.func161, Tryz.ntmps161
  go_wp2
  go_ret
  exact ⟨rfl, rfl⟩
theorem sgn79 (w : World) : Calls Tryz.prog 161 #[.int .i32 79] w fun e w' => e = .returned (.bool true) ∧ w = w' := by
  go_enter Tryz.func161, Tryz.ntmps161
  go_wp2
  go_ret
  exact ⟨rfl, rfl⟩
theorem sgn80 (w : World) : Calls Tryz.prog 161 #[.int .i32 80] w fun e w' => e = .returned (.bool true) ∧ w = w' := by
  go_enter Tryz.func161, Tryz.ntmps161
  go_wp2
  go_ret
  exact ⟨rfl, rfl⟩
theorem sgn81 (w : World) : Calls Tryz.prog 161 #[.int .i32 81] w fun e w' => e = .returned (.bool true) ∧ w = w' := by
  go_enter Tryz.func161, Tryz.ntmps161
  go_wp2
  go_ret
  exact ⟨rfl, rfl⟩
theorem sgn82 (w : World) : Calls Tryz.prog 161 #[.int .i32 82] w fun e w' => e = .returned (.bool true) ∧ w = w' := by
  go_enter Tryz.func161, Tryz.ntmps161
  go_wp2
  go_ret
  exact ⟨rfl, rfl⟩
theorem sgn83 (w : World) : Calls Tryz.prog 161 #[.int .i32 83] w fun e w' => e = .returned (.bool true) ∧ w = w' := by
  go_enter Tryz.func161, Tryz.ntmps161
  go_wp2
  go_ret
  exact ⟨rfl, rfl⟩
theorem sgn84 (w : World) : Calls Tryz.prog 161 #[.int .i32 84] w fun e w' => e = .returned (.bool true) ∧ w = w' := by
  go_enter Tryz.func161, Tryz.ntmps161
  go_wp2
  go_ret
  exact ⟨rfl, rfl⟩
theorem sgn85 (w : World) : Calls Tryz.prog 161 #[.int .i32 85] w fun e w' => e = .returned (.bool true) ∧ w = w' := by
  go_enter Tryz.func161, Tryz.ntmps161
  go_wp2
  go_ret
  exact ⟨rfl, rfl⟩
theorem sgn86 (w : World) : Calls Tryz.prog 161 #[.int .i32 86] w fun e w' => e = .returned (.bool true) ∧ w = w' := by
  go_enter Tryz.func161, Tryz.ntmps161
  go_wp2
  go_ret
  exact ⟨rfl, rfl⟩
theorem sgn87 (w : World) : Calls Tryz.prog 161 #[.int .i32 87] w fun e w' => e = .returned (.bool true) ∧ w = w' := by
  go_enter Tryz.func161, Tryz.ntmps161
  go_wp2
  go_ret
  exact ⟨rfl, rfl⟩
theorem sgn88 (w : World) : Calls Tryz.prog 161 #[.int .i32 88] w fun e w' => e = .returned (.bool true) ∧ w = w' := by
  go_enter Tryz.func161, Tryz.ntmps161
  go_wp2
  go_ret
  exact ⟨rfl, rfl⟩
theorem sgn89 (w : World) : Calls Tryz.prog 161 #[.int .i32 89] w fun e w' => e = .returned (.bool true) ∧ w = w' := by
  go_enter Tryz.func161, Tryz.ntmps161
  go_wp2
  go_ret
  exact ⟨rfl, rfl⟩
theorem sgn90 (w : World) : Calls Tryz.prog 161 #[.int .i32 90] w fun e w' => e = .returned (.bool true) ∧ w = w' := by
  go_enter Tryz.func161, Tryz.ntmps161
  go_wp2
  go_ret
  exact ⟨rfl, rfl⟩
theorem sgn91 (w : World) : Calls Tryz.prog 161 #[.int .i32 91] w fun e w' => e = .returned (.bool false) ∧ w = w' := by
  go_enter Tryz.func161, Tryz.ntmps161
  go_wp2_with (go_at_call 197; go_must (refine (idx197 _ 91 (-1) (by decide)).mono ?_); rintro e w' ⟨rfl, rfl⟩)
  go_ret
  exact ⟨rfl, rfl⟩
theorem sgn92 (w : World) : Calls Tryz.prog 161 #[.int .i32 92] w fun e w' => e = .returned (.bool false) ∧ w = w' := by
  go_enter Tryz.func161, Tryz.ntmps161
  go_wp2_with (go_at_call 197; go_must (refine (idx197 _ 92 (-1) (by decide)).mono ?_); rintro e w' ⟨rfl, rfl⟩)
  go_ret
  exact ⟨rfl, rfl⟩
theorem sgn93 (w : World) : Calls Tryz.prog 161 #[.int .i32 93] w fun e w' => e = .returned (.bool false) ∧ w = w' := by
  go_enter Tryz.func161, Tryz.ntmps161
  go_wp2_with (go_at_call 197; go_must (refine (idx197 _ 93 (-1) (by decide)).mono ?_); rintro e w' ⟨rfl, rfl⟩)
  go_ret
  exact ⟨rfl, rfl⟩
theorem sgn94 (w : World) : Calls Tryz.prog 161 #[.int .i32 94] w fun e w' => e = .returned (.bool false) ∧ w = w' := by
  go_enter Tryz.func161, Tryz.ntmps161
  go_wp2_with (go_at_call 197; go_must (refine (idx197 _ 94 (-1) (by decide)).mono ?_); rintro e w' ⟨rfl, rfl⟩)
  go_ret
  exact ⟨rfl, rfl⟩
theorem sgn95 (w : World) : Calls Tryz.prog 161 #[.int .i32 95] w fun e w' => e = .returned (.bool true) ∧ w = w' := by
  go_enter Tryz.func161, Tryz.ntmps161
  go_wp2_with (go_at_call 197; go_must (refine (idx197 _ 95 (1) (by decide)).mono ?_); rintro e w' ⟨rfl, rfl⟩)
  go_ret
  exact ⟨rfl, rfl⟩
theorem sgn96 (w : World) : Calls Tryz.prog 161 #[.int .i32 96] w fun e w' => e = .returned (.bool false) ∧ w = w' := by
  go_enter Tryz.func161, Tryz.ntmps161
  go_wp2_with (go_at_call 197; go_must (refine (idx197 _ 96 (-1) (by decide)).mono ?_); rintro e w' ⟨rfl, rfl⟩)
  go_ret
  exact ⟨rfl, rfl⟩
theorem sgn97 (w : World) : Calls Tryz.prog 161 #[.int .i32 97] w fun e w' => e = .returned (.bool true) ∧ w = w' := by
  go_enter Tryz.func161, Tryz.ntmps161
  go_wp2
  go_ret
  exact ⟨rfl, rfl⟩
theorem sgn98 (w : World) : Calls Tryz.prog 161 #[.int .i32 98] w fun e w' => e = .returned (.bool true) ∧ w = w' := by
  go_enter Tryz.func161, Tryz.ntmps161
  go_wp2
  go_ret
  exact ⟨rfl, rfl⟩
theorem sgn99 (w : World) : Calls Tryz.prog 161 #[.int .i32 99] w fun e w' => e = .returned (.bool true) ∧ w = w' := by
  go_enter Tryz.func161, Tryz.ntmps161
  go_wp2
  go_ret
  exact ⟨rfl, rfl⟩
theorem sgn100 (w : World) : Calls Tryz.prog 161 #[.int .i32 100] w fun e w' => e = .returned (.bool true) ∧ w = w' := by
  go_enter Tryz.func161, Tryz.ntmps161
  go_wp2
  go_ret
  exact ⟨rfl, rfl⟩
theorem sgn101 (w : World) : Calls Tryz.prog 161 #[.int .i32 101] w fun e w' => e = .returned (.bool true) ∧ w = w' := by
  go_enter Tryz.func161, Tryz.ntmps161
  go_wp2
  go_ret
  exact ⟨rfl, rfl⟩
theorem sgn102 (w : World) : Calls Tryz.prog 161 #[.int .i32 102] w fun e w' => e = .returned (.bool true) ∧ w = w' := by
  go_enter Tryz.func161, Tryz.ntmps161
  go_wp2
  go_ret
  exact ⟨rfl, rfl⟩
theorem sgn103 (w : World) : Calls Tryz.prog 161 #[.int .i32 103] w fun e w' => e = .returned (.bool true) ∧ w = w' := by
  go_enter Tryz.func161, Tryz.ntmps161
  go_wp2
  go_ret
  exact ⟨rfl, rfl⟩
theorem sgn104 (w : World) : Calls Tryz.prog 161 #[.int .i32 104] w fun e w' => e = .returned (.bool true) ∧ w = w' := by
  go_enter Tryz.func161, Tryz.ntmps161
  go_wp2
  go_ret
  exact ⟨rfl, rfl⟩
theorem sgn105 (w : World) : Calls Tryz.prog 161 #[.int .i32 105] w fun e w' => e = .returned (.bool true) ∧ w = w' := by
  go_enter Tryz.func161, Tryz.ntmps161
  go_wp2
  go_ret
  exact ⟨rfl, rfl⟩
theorem sgn106 (w : World) : Calls Tryz.prog 161 #[.int .i32 106] w fun e w' => e = .returned (.bool true) ∧ w = w' := by
  go_enter Tryz.func161, Tryz.ntmps161
  go_wp2
  go_ret
  exact ⟨rfl, rfl⟩
theorem sgn107 (w : World) : Calls Tryz.prog 161 #[.int .i32 107] w fun e w' => e = .returned (.bool true) ∧ w = w' := by
  go_enter Tryz.func161, Tryz.ntmps161
  go_wp2
  go_ret
  exact ⟨rfl, rfl⟩
theorem sgn108 (w : World) : Calls Tryz.prog 161 #[.int .i32 108] w fun e w' => e = .returned (.bool true) ∧ w = w' := by
  go_enter Tryz.func161, Tryz.ntmps161
  go_wp2
  go_ret
  exact ⟨rfl, rfl⟩
theorem sgn109 (w : World) : Calls Tryz.prog 161 #[.int .i32 109] w fun e w' => e = .returned (.bool true) ∧ w = w' := by
  go_enter Tryz.func161, Tryz.ntmps161
  go_wp2
  go_ret
  exact ⟨rfl, rfl⟩
theorem sgn110 (w : World) : Calls Tryz.prog 161 #[.int .i32 110] w fun e w' => e = .returned (.bool true) ∧ w = w' := by
  go_enter Tryz.func161, Tryz.ntmps161
  go_wp2
  go_ret
  exact ⟨rfl, rfl⟩
theorem sgn111 (w : World) : Calls Tryz.prog 161 #[.int .i32 111] w fun e w' => e = .returned (.bool true) ∧ w = w' := by
  go_enter Tryz.func161, Tryz.ntmps161
  go_wp2
  go_ret
  exact ⟨rfl, rfl⟩
theorem sgn112 (w : World) : Calls Tryz.prog 161 #[.int .i32 112] w fun e w' => e = .returned (.bool true) ∧ w = w' := by
  go_enter Tryz.func161, Tryz.ntmps161
  go_wp2
  go_ret
  exact ⟨rfl, rfl⟩
theorem sgn113 (w : World) : Calls Tryz.prog 161 #[.int .i32 113] w fun e w' => e = .returned (.bool true) ∧ w = w' := by
  go_enter Tryz.func161, Tryz.ntmps161
  go_wp2
  go_ret
  exact ⟨rfl, rfl⟩
theorem sgn114 (w : World) : Calls Tryz.prog 161 #[.int .i32 114] w fun e w' => e = .returned (.bool true) ∧ w = w' := by
  go_enter Tryz.func161, Tryz.ntmps161
  go_wp2
  go_ret
  exact ⟨rfl, rfl⟩
theorem sgn115 (w : World) : Calls Tryz.prog 161 #[.int .i32 115] w fun e w' => e = .returned (.bool true) ∧ w = w' := by
  go_enter Tryz.func161, Tryz.ntmps161
  go_wp2
  go_ret
  exact ⟨rfl, rfl⟩
theorem sgn116 (w : World) : Calls Tryz.prog 161 #[.int .i32 116] w fun e w' => e = .returned (.bool true) ∧ w = w' := by
  go_enter Tryz.func161, Tryz.ntmps161
  go_wp2
  go_ret
  exact ⟨rfl, rfl⟩
theorem sgn117 (w : World) : Calls Tryz.prog 161 #[.int .i32 117] w fun e w' => e = .returned (.bool true) ∧ w = w' := by
  go_enter Tryz.func161, Tryz.ntmps161
  go_wp2
  go_ret
  exact ⟨rfl, rfl⟩
theorem sgn118 (w : World) : Calls Tryz.prog 161 #[.int .i32 118] w fun e w' => e = .returned (.bool true) ∧ w = w' := by
  go_enter Tryz.func161, Tryz.ntmps161
  go_wp2
  go_ret
  exact ⟨rfl, rfl⟩
theorem sgn119 (w : World) : Calls Tryz.prog 161 #[.int .i32 119] w fun e w' => e = .returned (.bool true) ∧ w = w' := by
  go_enter Tryz.func161, Tryz.ntmps161
  go_wp2
  go_ret
  exact ⟨rfl, rfl⟩
theorem sgn120 (w : World) : Calls Tryz.prog 161 #[.int .i32 120] w fun e w' => e = .returned (.bool true) ∧ w = w' := by
  go_enter Tryz.func161, Tryz.ntmps161
  go_wp2
  go_ret
  exact ⟨rfl, rfl⟩
theorem sgn121 (w : World) : Calls Tryz.prog 161 #[.int .i32 121] w fun e w' => e = .returned (.bool true) ∧ w = w' := by
  go_enter Tryz.func161, Tryz.ntmps161
  go_wp2
  go_ret
  exact ⟨rfl, rfl⟩
theorem sgn122 (w : World) : Calls Tryz.prog 161 #[.int .i32 122] w fun e w' => e = .returned (.bool true) ∧ w = w' := by
  go_enter Tryz.func161, Tryz.ntmps161
  go_wp2
  go_ret
  exact ⟨rfl, rfl⟩
theorem sgn123 (w : World) : Calls Tryz.prog 161 #[.int .i32 123] w fun e w' => e = .returned (.bool false) ∧ w = w' := by
  go_enter Tryz.func161, Tryz.ntmps161
  go_wp2_with (go_at_call 197; go_must (refine (idx197 _ 123 (-1) (by decide)).mono ?_); rintro e w' ⟨rfl, rfl⟩)
  go_ret
  exact ⟨rfl, rfl⟩
theorem sgn124 (w : World) : Calls Tryz.prog 161 #[.int .i32 124] w fun e w' => e = .returned (.bool false) ∧ w = w' := by
  go_enter Tryz.func161, Tryz.ntmps161
  go_wp2_with (go_at_call 197; go_must (refine (idx197 _ 124 (-1) (by decide)).mono ?_); rintro e w' ⟨rfl, rfl⟩)
  go_ret
  exact ⟨rfl, rfl⟩
theorem sgn125 (w : World) : Calls Tryz.prog 161 #[.int .i32 125] w fun e w' => e = .returned (.bool false) ∧ w = w' := by
  go_enter Tryz.func161, Tryz.ntmps161
  go_wp2_with (go_at_call 197; go_must (refine (idx197 _ 125 (-1) (by decide)).mono ?_); rintro e w' ⟨rfl, rfl⟩)
  go_ret
  exact ⟨rfl, rfl⟩
theorem sgn126 (w : World) : Calls Tryz.prog 161 #[.int .i32 126] w fun e w' => e = .returned (.bool false) ∧ w = w' := by
  go_enter Tryz.func161, Tryz.ntmps161
  go_wp2_with (go_at_call 197; go_must (refine (idx197 _ 126 (-1) (by decide)).mono ?_); rintro e w' ⟨rfl, rfl⟩)
  go_ret
  exact ⟨rfl, rfl⟩
theorem sgn127 (w : World) : Calls Tryz.prog 161 #[.int .i32 127] w fun e w' => e = .returned (.bool false) ∧ w = w' := by
  go_enter Tryz.func161, Tryz.ntmps161
  go_wp2_with (go_at_call 197; go_must (refine (idx197 _ 127 (-1) (by decide)).mono ?_); rintro e w' ⟨rfl, rfl⟩)
  go_ret
  exact ⟨rfl, rfl⟩
theorem sgn_high (w : World) (n : Nat) (h : 128 ≤ n) (h2 : n ≤ 2147483647) : Calls Tryz.prog 161 #[.int .i32 n] w fun e w' => e = .returned (.bool false) ∧ w = w' := by
  have h' : ¬ (n : Int) < 128 := by omega
  go_enter Tryz.func161, Tryz.ntmps161
  go_wp2
  go_ret
  exact ⟨rfl, rfl⟩
theorem signP_high {n : Nat} (h : 128 ≤ n) : signP n = false := by
  unfold signP
  simp
  omega
theorem signAny161 (w : World) (n : Nat) (h : n ≤ 2147483647) : Calls Tryz.prog 161 #[.int .i32 n] w fun e w' => e = .returned (.bool (signP n)) ∧ w = w' := by
  by_cases hn : 128 ≤ n
  · rw [signP_high hn]; exact sgn_high w n hn h
  · match n, hn with
    | 0, _ => exact sgn0 w
    | 1, _ => exact sgn1 w
    | 2, _ => exact sgn2 w
    | 3, _ => exact sgn3 w
    | 4, _ => exact sgn4 w
    | 5, _ => exact sgn5 w
    | 6, _ => exact sgn6 w
    | 7, _ => exact sgn7 w
    | 8, _ => exact sgn8 w
    | 9, _ => exact sgn9 w
    | 10, _ => exact sgn10 w
    | 11, _ => exact sgn11 w
    | 12, _ => exact sgn12 w
    | 13, _ => exact sgn13 w
    | 14, _ => exact sgn14 w
    | 15, _ => exact sgn15 w
    | 16, _ => exact sgn16 w
    | 17, _ => exact sgn17 w
    | 18, _ => exact sgn18 w
    | 19, _ => exact sgn19 w
    | 20, _ => exact sgn20 w
    | 21, _ => exact sgn21 w
    | 22, _ => exact sgn22 w
    | 23, _ => exact sgn23 w
    | 24, _ => exact sgn24 w
    | 25, _ => exact sgn25 w
    | 26, _ => exact sgn26 w
    | 27, _ => exact sgn27 w
    | 28, _ => exact sgn28 w
    | 29, _ => exact sgn29 w
    | 30, _ => exact sgn30 w
    | 31, _ => exact sgn31 w
    | 32, _ => exact sgn32 w
    | 33, _ => exact sgn33 w
    | 34, _ => exact sgn34 w
    | 35, _ => exact sgn35 w
    | 36, _ => exact sgn36 w
    | 37, _ => exact sgn37 w
    | 38, _ => exact sgn38 w
    | 39, _ => exact sgn39 w
    | 40, _ => exact sgn40 w
    | 41, _ => exact sgn41 w
    | 42, _ => exact sgn42 w
    | 43, _ => exact sgn43 w
    | 44, _ => exact sgn44 w
    | 45, _ => exact sgn45 w
    | 46, _ => exact sgn46 w
    | 47, _ => exact sgn47 w
    | 48, _ => exact sgn48 w
    | 49, _ => exact sgn49 w
    | 50, _ => exact sgn50 w
    | 51, _ => exact sgn51 w
    | 52, _ => exact sgn52 w
    | 53, _ => exact sgn53 w
    | 54, _ => exact sgn54 w
    | 55, _ => exact sgn55 w
    | 56, _ => exact sgn56 w
    | 57, _ => exact sgn57 w
    | 58, _ => exact sgn58 w
    | 59, _ => exact sgn59 w
    | 60, _ => exact sgn60 w
    | 61, _ => exact sgn61 w
    | 62, _ => exact sgn62 w
    | 63, _ => exact sgn63 w
    | 64, _ => exact sgn64 w
    | 65, _ => exact sgn65 w
    | 66, _ => exact sgn66 w
    | 67, _ => exact sgn67 w
    | 68, _ => exact sgn68 w
    | 69, _ => exact sgn69 w
    | 70, _ => exact sgn70 w
    | 71, _ => exact sgn71 w
    | 72, _ => exact sgn72 w
    | 73, _ => exact sgn73 w
    | 74, _ => exact sgn74 w
    | 75, _ => exact sgn75 w
    | 76, _ => exact sgn76 w
    | 77, _ => exact sgn77 w
    | 78, _ => exact sgn78 w
    | 79, _ => exact sgn79 w
    | 80, _ => exact sgn80 w
    | 81, _ => exact sgn81 w
    | 82, _ => exact sgn82 w
    | 83, _ => exact sgn83 w
    | 84, _ => exact sgn84 w
    | 85, _ => exact sgn85 w
    | 86, _ => exact sgn86 w
    | 87, _ => exact sgn87 w
    | 88, _ => exact sgn88 w
    | 89, _ => exact sgn89 w
    | 90, _ => exact sgn90 w
    | 91, _ => exact sgn91 w
    | 92, _ => exact sgn92 w
    | 93, _ => exact sgn93 w
    | 94, _ => exact sgn94 w
    | 95, _ => exact sgn95 w
    | 96, _ => exact sgn96 w
    | 97, _ => exact sgn97 w
    | 98, _ => exact sgn98 w
    | 99, _ => exact sgn99 w
    | 100, _ => exact sgn100 w
    | 101, _ => exact sgn101 w
    | 102, _ => exact sgn102 w
    | 103, _ => exact sgn103 w
    | 104, _ => exact sgn104 w
    | 105, _ => exact sgn105 w
    | 106, _ => exact sgn106 w
    | 107, _ => exact sgn107 w
    | 108, _ => exact sgn108 w
    | 109, _ => exact sgn109 w
    | 110, _ => exact sgn110 w
    | 111, _ => exact sgn111 w
    | 112, _ => exact sgn112 w
    | 113, _ => exact sgn113 w
    | 114, _ => exact sgn114 w
    | 115, _ => exact sgn115 w
    | 116, _ => exact sgn116 w
    | 117, _ => exact sgn117 w
    | 118, _ => exact sgn118 w
    | 119, _ => exact sgn119 w
    | 120, _ => exact sgn120 w
    | 121, _ => exact sgn121 w
    | 122, _ => exact sgn122 w
    | 123, _ => exact sgn123 w
    | 124, _ => exact sgn124 w
    | 125, _ => exact sgn125 w
    | 126, _ => exact sgn126 w
    | 127, _ => exact sgn127 w
    | n + 128, hn => exact absurd (Nat.le_add_left 128 n) hn
end Go.Proofs.YtddmbdigdnmfgaaGreatDoor

/- base.Name at every text. -/
namespace Go.Proofs.YtddmbdigdnmfgaaGreatDoor
open Go.RowKit
set_option maxHeartbeats 400000
set_option maxRecDepth 100000

def NameP (s : ByteArray) : Prop := (∀ k (h : k < s.size), signP s[k].toNat = true) ∧ s.size ≤ 24 ∧ ∃ h : 0 < s.size, s[0] ≠ 46
open Classical in
/-- May a text stand as a name? -/
noncomputable def nameP (s : ByteArray) : Bool := decide (NameP s)
theorem nameP_yes {s : ByteArray} (h : NameP s) : nameP s = true := by simp [nameP, h]
theorem nameP_no {s : ByteArray} (h : ¬ NameP s) : nameP s = false := by simp [nameP, h]
theorem nameP_iff {s : ByteArray} : nameP s = true ↔ NameP s := by simp [nameP]
theorem nameAny110 (w : World) (s : ByteArray) :
    Calls Tryz.prog 110 #[.string s] w fun e w' => e = .returned (.bool (nameP s)) ∧ Keep All w w' := by
  go_enter Tryz.func110, Tryz.ntmps110
  go_upto_block 0 with (fail)
  go_cut [] (fun w' => Keep All w w' ∧ ∀ k (h : k < s.size), signP s[k].toNat = true)
  case first =>
    go_wp2
    go_loopw [] (fun wr => ∃ p, p ≤ s.size ∧ wr = w.iter s p ∧ ∀ k (h : k < s.size), k < p → signP s[k].toNat = true) (fun wr => s.size - wr.iterPos w.heap.size)
    case atStart => exact ⟨0, by omega, rfl, fun k h hk => absurd hk (by omega)⟩
    case round =>
      obtain ⟨p, hp, rfl, hall⟩ := hrel
      have HA := Fact.mk hall
      clear hall
      by_cases hlt : p < s.size
      · by_cases hasc : s[p].toNat < 128
        · have hnx : ∀ ty, (Instr.next (.pointer (some ⟨w.heap.size, 0, none⟩)) true ty).run Tryz.prog (w.iter s p) = _ := fun ty => run_next_ascii w s p ty hlt hasc
          obtain ⟨q, hq⟩ : ∃ q, q = signP s[p].toNat := ⟨_, rfl⟩
          have HC : Fact (∀ w, Calls Tryz.prog 161 #[.int .i32 s[p].toNat] w fun e w' => e = .returned (.bool q) ∧ w = w') := ⟨fun w => hq ▸ signAny161 w s[p].toNat (by omega)⟩
          have HQ := Fact.mk hq
          clear hq
          cases q with
          | true =>
            go_wp2_with (go_at_call 161; go_must (refine (HC.out _).mono ?_); rintro e w1 ⟨rfl, rfl⟩)
            go_roundw
            case rel =>
              refine ⟨p + 1, by omega, rfl, fun k h hk => ?_⟩
              by_cases hkp : k = p
              · subst hkp; exact HQ.out.symm
              · exact HA.out k h (by omega)
            case measure => simp; omega
          | false =>
            have HN : Fact (nameP s = false) := ⟨nameP_no fun h => by have := h.1 p hlt; rw [← HQ.out] at this; cases this⟩
            go_wp2_with (go_at_call 161; go_must (refine (HC.out _).mono ?_); rintro e w1 ⟨rfl, rfl⟩)
            go_ret
            exact ⟨by rw [HN.out]; rfl, iter_keep _ _ _⟩
        · have hd := decode_high s p hlt (by omega)
          have hle := decode_le s p
          obtain ⟨r, hr⟩ : ∃ r, r = (Utf8.decode s p).1 := ⟨_, rfl⟩
          obtain ⟨m, hm⟩ : ∃ m, m = (Utf8.decode s p).2 := ⟨_, rfl⟩
          have hnx : ∀ ty, (Instr.next (.pointer (some ⟨w.heap.size, 0, none⟩)) true ty).run Tryz.prog (w.iter s p) = .ok (.tuple #[.bool true, .int .i64 p, .int .i32 r]) (w.iter s (p + m)) := fun ty => by rw [hr, hm]; exact run_next_any w s p ty hlt
          rw [← hr] at hd hle
          have HC : Fact (∀ w, Calls Tryz.prog 161 #[.int .i32 r] w fun e w' => e = .returned (.bool false) ∧ w = w') := ⟨fun w => sgn_high w r hd.1 hle⟩
          have HN : Fact (nameP s = false) := ⟨nameP_no fun h => by have := h.1 p hlt; rw [signP_high (by omega)] at this; cases this⟩
          clear hr hm hd hle
          go_wp2_with (go_at_call 161; go_must (refine (HC.out _).mono ?_); rintro e w1 ⟨rfl, rfl⟩)
          go_ret
          exact ⟨by rw [HN.out]; rfl, iter_keep _ _ _⟩
      · have hnx : ∀ ty, (Instr.next (.pointer (some ⟨w.heap.size, 0, none⟩)) true ty).run Tryz.prog (w.iter s p) = _ := fun ty => run_next_end w s p ty hlt
        go_wp2
        go_meet
        case rel => exact ⟨iter_keep _ _ _, fun k h => HA.out k h (by omega)⟩
  case rest =>
    obtain ⟨hk, hall⟩ := hcut
    have H := Fact.mk hk
    have HA := Fact.mk hall
    clear hk hall
    by_cases hpos : 0 < s.size
    · have hne : s.toList ≠ [] := toList_ne hpos
      by_cases h24 : (s.size : Int) ≤ 24
      · by_cases h46 : s[0] = 46
        · have h46' : ((s[0].toNat : Int) != 46) = false := by rw [h46]; rfl
          have HN : Fact (nameP s = false) := ⟨nameP_no fun h => by obtain ⟨_, _, _, h3⟩ := h; exact h3 h46⟩
          clear h46
          go_wp2
          go_ret
          exact ⟨by rw [HN.out]; simp, H.out⟩
        · have h46' : ((s[0].toNat : Int) != 46) = true := by
            rw [bne_iff_ne]
            intro h
            have h2 : s[0].toNat = 46 := by omega
            exact h46 (UInt8.toNat_inj.1 h2)
          have HN : Fact (nameP s = true) := ⟨nameP_yes ⟨HA.out, by omega, hpos, h46⟩⟩
          clear h46
          go_wp2
          go_ret
          refine ⟨?_, H.out⟩
          rw [HN.out]
          simpa using hne
      · have HN : Fact (nameP s = false) := ⟨nameP_no fun h => by have := h.2.1; omega⟩
        go_wp2
        go_ret
        exact ⟨by rw [HN.out]; simp, H.out⟩
    · have hs0 : s = ⟨#[]⟩ := by
        obtain ⟨d⟩ := s
        congr
        exact Array.eq_empty_of_size_eq_zero (by have : d.size = (ByteArray.mk d).size := rfl; omega)
      have HN : Fact (nameP s = false) := ⟨nameP_no fun h => by obtain ⟨h3, _⟩ := h.2.2; omega⟩
      subst hs0
      go_wp2
      go_ret
      exact ⟨by rw [HN.out]; rfl, H.out⟩
end Go.Proofs.YtddmbdigdnmfgaaGreatDoor

/- tree.named at any kids. -/
namespace Go.Proofs.YtddmbdigdnmfgaaGreatDoor
open Go.RowKit
set_option maxHeartbeats 800000
set_option maxRecDepth 100000

/-- The kids' names: each a name, in order. -/
def NamedP (l : PKids) : Prop := ∀ k (h : k < l.length), NameP l[k].1 ∧ (0 < k → Op.bytesLess (l[k - 1]'(by omega)).1.toList l[k].1.toList = true)
open Classical in
noncomputable def namedP (l : PKids) : Bool := decide (NamedP l)
theorem named179 (w : World) (G : Nat → Prop) (x : PNode) (A B : Option Addr) (n c m d : Nat) (h : RepN w G x (.slice A n c) (.slice B m d)) :
    Calls Tryz.prog 179 #[.slice B m d] w fun e w' => e = .returned (.bool (namedP x.kids)) ∧ Keep All w w' := by
  obtain ⟨rfl, rfl, -, -, hmd, hd, -, hat⟩ := h.open
  have HAT := Fact.mk hat
  have hd' : x.kids.length ≤ 9223372036854775807 := by unfold maxLen at hd; omega
  clear h hat hd
  go_enter Tryz.func179, Tryz.ntmps179
  go_wp2
  go_loopg [7] x.kids.length (fun g i w' => ∃ k, k + g = x.kids.length ∧ i = .int .i64 k ∧ Keep All w w' ∧ ∀ j (h : j < x.kids.length), j < k → NameP x.kids[j].1 ∧ (0 < j → Op.bytesLess (x.kids[j - 1]'(by omega)).1.toList x.kids[j].1.toList = true))
  case atStart => exact ⟨0, by omega, rfl, Keep.refl _ _, fun j h hk => absurd hk (by omega)⟩
  case round =>
    obtain ⟨k, hk, rfl, hkp, hall⟩ := hrel
    have HK := Fact.mk hk
    have HKP := Fact.mk hkp
    have HALL := Fact.mk hall
    clear hk hkp hall
    by_cases hlt : k < x.kids.length
    · obtain ⟨g, off, vb, vk, rfl, hg, c0, c1, c2, c3, hrep⟩ := HAT.out k hlt
      obtain ⟨A1, n1, B1, m1, rfl, rfl⟩ := hrep.forms
      have d0 := HKP.out.cell (p := ⟨g, off + k * 4, none⟩) trivial c0
      have d1 := HKP.out.cell (p := ⟨g, off + k * 4 + 1, none⟩) trivial c1
      have d2 := HKP.out.cell (p := ⟨g, off + k * 4 + 2, none⟩) trivial c2
      have d3 := HKP.out.cell (p := ⟨g, off + k * 4 + 3, none⟩) trivial c3
      have hgl : g < wr.heap.size := World.block_lt_of_cell? wr _ d0
      clear hrep hg c0 c1 c2 c3
      obtain ⟨s, hs⟩ : ∃ s, s = x.kids[k].1 := ⟨_, rfl⟩
      obtain ⟨q, hq⟩ : ∃ q, q = nameP s := ⟨_, rfl⟩
      have HNM : Fact (∀ w, Calls Tryz.prog 110 #[.string s] w fun e w' => e = .returned (.bool q) ∧ Keep All w w') := ⟨fun w => hq ▸ nameAny110 w s⟩
      rw [← hs] at d0
      have HS := Fact.mk hs
      have HQ := Fact.mk hq
      obtain ⟨wb, hwb⟩ : ∃ X, X = wr.alloc (.cells #[.string s, .int .i64 x.kids[k].2.kind, .slice A1 x.kids[k].2.bytes.length n1, .slice B1 x.kids[k].2.kids.length m1] 71) := ⟨_, rfl⟩
      have hbk : Blk wb wr.heap.size [.string s, .int .i64 x.kids[k].2.kind, .slice A1 x.kids[k].2.bytes.length n1, .slice B1 x.kids[k].2.kids.length m1] 71 := hwb ▸ Blk.new wr _ 71
      have HKB := Fact.mk (HKP.out.trans (hwb ▸ (Keep.refl All wr).alloc _ : Keep All wr wb))
      have HBK := Fact.mk hbk
      have HWB := Fact.mk hwb
      clear hwb hbk hs hq
      go_upto_region 4 with (fail)
      rw [← HWB.out]
      have e0 := fun p => kept_cell (HBK.out.cell 0 _ rfl) p
      clear d0 d1 d2 d3
      cases q with
      | false =>
        have HN : Fact (namedP x.kids = false) := ⟨by
          simp only [namedP, decide_eq_false_iff_not]
          intro h
          have := nameP_yes (h k hlt).1
          rw [← HS.out, ← HQ.out] at this
          cases this⟩
        refine wp_region_kept (by kernel_rfl) (by kernel_rfl) ?_
        repeat (go_big_quiet_step ((go_at_call 110; exact kept_call (HNM.out _))))
        refine wpQuiet_nil ?_
        intro _ hw'
        obtain ⟨⟨wq, hq⟩, hw''⟩ := hw'
        subst hw''
        have KQ := Fact.mk (HKB.out.trans hq)
        clear hq e0
        go_wp2
        go_ret
        exact ⟨by rw [HN.out]; rfl, KQ.out⟩
      | true =>
        have HNK : Fact (NameP x.kids[k].1) := ⟨nameP_iff.1 (by rw [← HS.out]; exact HQ.out.symm)⟩
        rcases Nat.eq_zero_or_pos k with h0 | hpos
        · have hkz : ¬ (0 : Int) < k := by omega
          have hkz2 : ¬ 0 < k := by omega
          have H0 := Fact.mk h0
          clear h0
          refine wp_region_kept (by kernel_rfl) (by kernel_rfl) ?_
          repeat (go_big_quiet_step ((go_at_call 110; exact kept_call (HNM.out _))))
          refine wpQuiet_nil ?_
          intro _ hw'
          obtain ⟨⟨wq, hq⟩, hw''⟩ := hw'
          subst hw''
          have KQ := Fact.mk (HKB.out.trans hq)
          clear hq e0
          go_wp2
          go_roundg (gk - 1)
          case measure => have := HK.out; omega
          case rel =>
            refine ⟨k + 1, by have := HK.out; omega, by go_num, KQ.out, fun j h hj => ?_⟩
            have hjk : j = k := by have := H0.out; omega
            subst hjk
            exact ⟨HNK.out, fun h0 => by have := H0.out; omega⟩
        · obtain ⟨j, rfl⟩ : ∃ j, k = j + 1 := ⟨k - 1, by omega⟩
          obtain ⟨g', off', vb', vk', eg, -, c0, -⟩ := HAT.out j (by omega)
          simp only [Option.some.injEq, Addr.mk.injEq, and_true] at eg
          obtain ⟨rfl, rfl⟩ := eg
          obtain ⟨pn, hpn⟩ : ∃ p, p = (x.kids[j]'(by omega)).1 := ⟨_, rfl⟩
          rw [← hpn] at c0
          have f0 := fun p => kept_cell (HKB.out.cell (p := ⟨g, off + j * 4, none⟩) trivial c0) p
          have HPN := Fact.mk hpn
          have hjn : (j : Int) < x.kids.length := by omega
          have hj0 : (0 : Int) < (j : Int) + 1 := by omega
          clear hpn c0 hpos
          cases hz : Op.bytesLess pn.toList s.toList with
          | true =>
            have HZ := Fact.mk hz
            refine wp_region_kept (by kernel_rfl) (by kernel_rfl) ?_
            repeat (go_big_quiet_step ((go_at_call 110; exact kept_call (HNM.out _))))
            refine wpQuiet_nil ?_
            intro _ hw'
            obtain ⟨⟨wq, hq⟩, hw''⟩ := hw'
            subst hw''
            have KQ := Fact.mk (HKB.out.trans hq)
            clear hq e0 f0
            go_wp2
            go_roundg (gk - 1)
            case measure => have := HK.out; omega
            case rel =>
              refine ⟨j + 1 + 1, by have := HK.out; omega, by go_num, KQ.out, fun i h hi => ?_⟩
              by_cases hik : i = j + 1
              · subst hik
                exact ⟨HNK.out, fun _ => by simp only [Nat.add_sub_cancel]; rw [← HPN.out, ← HS.out]; exact HZ.out⟩
              · exact HALL.out i h (by omega)
          | false =>
            have HN : Fact (namedP x.kids = false) := ⟨by
              simp only [namedP, decide_eq_false_iff_not]
              intro h
              have := (h (j + 1) hlt).2 (by omega)
              simp only [Nat.add_sub_cancel] at this
              rw [← HPN.out, ← HS.out, hz] at this
              cases this⟩
            refine wp_region_kept (by kernel_rfl) (by kernel_rfl) ?_
            repeat (go_big_quiet_step ((go_at_call 110; exact kept_call (HNM.out _))))
            refine wpQuiet_nil ?_
            intro _ hw'
            obtain ⟨⟨wq, hq⟩, hw''⟩ := hw'
            subst hw''
            have KQ := Fact.mk (HKB.out.trans hq)
            clear hq e0 f0
            go_wp2
            go_ret
            exact ⟨by rw [HN.out]; rfl, KQ.out⟩
    · have HN : Fact (namedP x.kids = true) := ⟨by
        simp only [namedP, decide_eq_true_eq]
        exact fun j h => HALL.out j h (by have := HK.out; omega)⟩
      go_wp2
      go_ret
      exact ⟨by rw [HN.out]; rfl, HKP.out⟩
end Go.Proofs.YtddmbdigdnmfgaaGreatDoor
