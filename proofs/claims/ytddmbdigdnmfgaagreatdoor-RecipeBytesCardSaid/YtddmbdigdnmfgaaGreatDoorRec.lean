import Derived.Test.YtddmbdigdnmfgaaGreatDoorTPut3
namespace Go.Proofs.YtddmbdigdnmfgaaGreatDoor
open Go.RowKit
set_option maxHeartbeats 400000
set_option maxRecDepth 100000

theorem must111 (w : World) : Calls Tryz.prog 111 #[.bool true] w fun e w' => e = .returned (.tuple #[]) ∧ w = w' := by
  go_enter Tryz.func111, Tryz.ntmps111
  go_wp2
  go_end0
  exact ⟨rfl, rfl⟩
/-- A builder's block: what is used, the fuel, the pile, the operations, where it stands, and the rest. -/
def BlkB (w : World) (p : Nat) (used fuel : Nat) (pv ov : Value) (at_ : Nat) (rest : List Value) : Prop := Blk w p ([.int .i64 used, .int .i64 fuel, pv, ov, .int .i64 at_] ++ rest) 143
theorem spend112 (w : World) (p used fuel n at_ : Nat) (pv ov : Value) (rest : List Value) (h : BlkB w p used fuel pv ov at_ rest) (hs : Small (used + n)) (hle : used + n ≤ fuel) :
    Calls Tryz.prog 112 #[.pointer (some ⟨p, 0, none⟩), .int .i64 n] w fun e w' => e = .returned (.tuple #[]) ∧ BlkB w' p (used + n) fuel pv ov at_ rest ∧ Keep (fun i => i ≠ p) w w' := by
  have H := Fact.mk h
  have c0 := Blk.cell h 0 _ rfl
  have c1 := Blk.cell h 1 _ rfl
  have f0 := Blk.free h 0
  have hsm := hs.le
  clear h hs
  have hle' : ¬ (fuel : Int) < (used : Int) + n := by omega
  go_enter Tryz.func112, Tryz.ntmps112
  go_wp2_with fail
  obtain ⟨W1, hW1⟩ : ∃ W, W = w.setCell ⟨p, 0, none⟩ (.int .i64 ((used : Int) + n)) := ⟨_, rfl⟩
  rw [← hW1]
  have H1 : Fact (BlkB W1 p (used + n) fuel pv ov at_ rest) := ⟨hW1 ▸ Blk.set H.out 0 _⟩
  have K1 : Fact (Keep (fun i => i ≠ p) w W1) := ⟨hW1 ▸ (Keep.refl _ w).setCell (p := ⟨p, 0, none⟩) (.inr fun h => h rfl) _⟩
  clear hW1 c0 c1 f0 H
  have c0 : W1.cell? ⟨p, 0, none⟩ = some (.int .i64 ((used : Int) + n)) := Blk.cell H1.out 0 _ rfl
  have c1 := Blk.cell H1.out 1 _ rfl
  have f0 := Blk.free H1.out 0
  go_quiet (fail)
  go_wp2
  go_end0
  exact ⟨rfl, Blk.drewN H1.out _, K1.out.drewN _⟩
def outOfFuel : Ending := .panicked [{ v := .iface 28 (.int .i64 11), recovered := false }]
/-- What comes when the fuel is out: all that there was is used. -/
theorem spend112_out (w : World) (p used fuel n at_ : Nat) (pv ov : Value) (rest : List Value) (h : BlkB w p used fuel pv ov at_ rest) (hs : Small (used + n)) (hgt : fuel < used + n) :
    Calls Tryz.prog 112 #[.pointer (some ⟨p, 0, none⟩), .int .i64 n] w fun e w' => e = outOfFuel ∧ BlkB w' p fuel fuel pv ov at_ rest ∧ Keep (fun i => i ≠ p) w w' := by
  have H := Fact.mk h
  have c0 := Blk.cell h 0 _ rfl
  have c1 := Blk.cell h 1 _ rfl
  have f0 := Blk.free h 0
  have hsm := hs.le
  clear h hs
  have hle' : (fuel : Int) < (used : Int) + n := by omega
  go_enter Tryz.func112, Tryz.ntmps112
  go_wp2_with fail
  obtain ⟨W1, hW1⟩ : ∃ W, W = w.setCell ⟨p, 0, none⟩ (.int .i64 ((used : Int) + n)) := ⟨_, rfl⟩
  rw [← hW1]
  have H1 : Fact (BlkB W1 p (used + n) fuel pv ov at_ rest) := ⟨hW1 ▸ Blk.set H.out 0 _⟩
  have K1 : Fact (Keep (fun i => i ≠ p) w W1) := ⟨hW1 ▸ (Keep.refl _ w).setCell (p := ⟨p, 0, none⟩) (.inr fun h => h rfl) _⟩
  clear hW1 c0 c1 f0 H
  have c0 : W1.cell? ⟨p, 0, none⟩ = some (.int .i64 ((used : Int) + n)) := Blk.cell H1.out 0 _ rfl
  have c1 := Blk.cell H1.out 1 _ rfl
  have f0 := Blk.free H1.out 0
  go_quiet (fail)
  go_wp2
  refine ⟨rfl, rfl, Blk.set (Blk.drewN H1.out nq) 0 _, (K1.out.drewN _).setCell (p := ⟨p, 0, none⟩) (.inr fun h => h rfl) _⟩
end Go.Proofs.YtddmbdigdnmfgaaGreatDoor
