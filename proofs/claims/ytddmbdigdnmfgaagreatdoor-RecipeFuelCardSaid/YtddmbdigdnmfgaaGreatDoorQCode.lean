/- Walks of this seat, packed. -/
import Derived.Test.YtddmbdigdnmfgaaGreatDoorChecked
import Derived.Test.YtddmbdigdnmfgaaGreatDoorQBase
namespace Go.Proofs.YtddmbdigdnmfgaaGreatDoor
open Go.RowKit
set_option maxHeartbeats 400000

theorem T23 : SlTy Tryz.prog 23 5 1 1 := by
  obtain ⟨i, hi, h0, h1, h2⟩ := info_parts (P := Tryz.prog) (e := 5) (z := .int .u8 0) (size := 1) (bytes := 1) (by kernel_rfl)
  exact ⟨Tryz.underlying23, by decide, i, _, hi, h0, h1, h2, rfl⟩

/-- What a call that copies bytes leaves. -/
def Cloned (w : World) (l : List UInt8) (e : Ending) (w' : World) : Prop := ∃ A c, e = .returned (.slice A l.length c) ∧ By w' (fun i => w.heap.size ≤ i) (.slice A l.length c) l ∧ Keep All w w'
theorem Cloned.of {w w' : World} {l : List UInt8} {v : Value} (h : By w' (fun i => w.heap.size ≤ i) v l) (k : Keep All w w') : Cloned w l (.returned v) w' := by
  obtain ⟨A, c, rfl, -⟩ := h.open
  exact ⟨A, c, rfl, h, k⟩

/-- .. and owns what it hands out. -/
def ClonedO (w : World) (l : List UInt8) (e : Ending) (w' : World) : Prop := ∃ A c, e = .returned (.slice A l.length c) ∧ w'.ownsRow w.heap.size 5 1 (.slice A l.length c) l.length (l.map u8v) ∧ Keep All w w'
theorem ClonedO.of {w w' : World} {l : List UInt8} {n : Nat} {v : Value} (h : w'.ownsRow w.heap.size 5 1 v n (l.map u8v)) (k : Keep All w w') : ClonedO w l (.returned v) w' := by
  have hn : l.length = n := by have := h.1; simpa using this
  subst hn
  obtain ⟨A, c, rfl⟩ := own_form h
  exact ⟨A, c, rfl, h, k⟩
theorem ClonedO.plain {w w' : World} {l : List UInt8} {e : Ending} (h : ClonedO w l e w') : Cloned w l e w' := by
  obtain ⟨A, c, rfl, h1, h2⟩ := h
  exact ⟨A, c, rfl, By.of_own h1, h2⟩
theorem clone72o (w : World) (G : Nat → Prop) (v : Value) (l : List UInt8) (h : By w G v l) (hl : Small l.length) :
    Calls Tryz.prog 72 #[v] w (ClonedO w l) := by
  obtain ⟨A, c, rfl, hn, hc, hA, hat⟩ := h.open
  have H := Fact.mk h
  have HC := Fact.mk (show l.length ≤ maxLen by omega)
  clear h hc hat
  cases A with
  | none =>
    obtain rfl := hA rfl
    have : l = [] := List.eq_nil_of_length_eq_zero (by omega)
    subst this
    have heq := fun w => Lib.run_eql_slice_nil (P := Tryz.prog) w 23 5 none 0 0 0 0 Tryz.underlying23
    go_enter Tryz.func72, Tryz.ntmps72
    go_wp2
    go_ret
    exact ClonedO.of (n := 0) (World.ownsRow_nil _ _ _ _) (Keep.refl _ _)
  | some ad =>
    have heq := fun w => Lib.run_eql_slice_nil (P := Tryz.prog) w 23 5 (some ad) l.length c 0 0 Tryz.underlying23
    have hk : Keep All w (w.alloc (.cells #[] 5)) := (Keep.refl _ _).alloc _
    have hown : (w.alloc (.cells #[] 5)).ownsRow w.heap.size 5 1 (.slice (some ⟨w.heap.size, 0, none⟩) 0 0) 0 [] := World.ownsRow_made w #[] 0 (Nat.le_refl _) (Nat.zero_le _) rfl
    have Hown := Fact.mk hown
    have HF := Fact.mk (Fits.of (n := 0) (m := l.length) (by simpa using hl) 1 (by decide))
    have Hk := Fact.mk hk
    clear hown hk
    go_enter Tryz.func72, Tryz.ntmps72
    go_wp2_with (at_builtin; go_must (refine wpList_ap rfl _ _ 23 5 1 1 w.heap.size 0 l.length Hown.out (Sl.keep H.out Hk.out.all) rfl T23 rfl rfl HF.out (alloc_le (Nat.le_refl _)) ?_); intro v' w1 ho hg hb; have HO := Fact.mk ho; have HG := Fact.mk hg; clear ho hg hb)
    go_ret
    exact ClonedO.of (n := 0 + l.length) (by simpa using HO.out) (Hk.out.grown HG.out (by simp [Value.ownBlock]))
theorem clone47o (w : World) (G : Nat → Prop) (v : Value) (l : List UInt8) (h : By w G v l) (hl : Small l.length) :
    Calls Tryz.prog 47 #[v] w (ClonedO w l) := by
  obtain ⟨A, c, rfl, hn, hc, hA, hat⟩ := h.open
  have H := Fact.mk h
  have HC := Fact.mk (show l.length ≤ maxLen by omega)
  clear h hc hat
  cases A with
  | none =>
    obtain rfl := hA rfl
    have : l = [] := List.eq_nil_of_length_eq_zero (by omega)
    subst this
    have heq := fun w => Lib.run_eql_slice_nil (P := Tryz.prog) w 23 5 none 0 0 0 0 Tryz.underlying23
    go_enter Tryz.func47, Tryz.ntmps47
    go_wp2
    go_ret
    exact ClonedO.of (n := 0) (World.ownsRow_nil _ _ _ _) (Keep.refl _ _)
  | some ad =>
    have heq := fun w => Lib.run_eql_slice_nil (P := Tryz.prog) w 23 5 (some ad) l.length c 0 0 Tryz.underlying23
    have hk : Keep All w (w.alloc (.cells #[] 5)) := (Keep.refl _ _).alloc _
    have hown : (w.alloc (.cells #[] 5)).ownsRow w.heap.size 5 1 (.slice (some ⟨w.heap.size, 0, none⟩) 0 0) 0 [] := World.ownsRow_made w #[] 0 (Nat.le_refl _) (Nat.zero_le _) rfl
    have Hown := Fact.mk hown
    have HF := Fact.mk (Fits.of (n := 0) (m := l.length) (by simpa using hl) 1 (by decide))
    have Hk := Fact.mk hk
    clear hown hk
    go_enter Tryz.func47, Tryz.ntmps47
    go_wp2_with (at_builtin; go_must (refine wpList_ap rfl _ _ 23 5 1 1 w.heap.size 0 l.length Hown.out (Sl.keep H.out Hk.out.all) rfl T23 rfl rfl HF.out (alloc_le (Nat.le_refl _)) ?_); intro v' w1 ho hg hb; have HO := Fact.mk ho; have HG := Fact.mk hg; clear ho hg hb)
    go_ret
    exact ClonedO.of (n := 0 + l.length) (by simpa using HO.out) (Hk.out.grown HG.out (by simp [Value.ownBlock]))
theorem clone72 (w : World) (G : Nat → Prop) (v : Value) (l : List UInt8) (h : By w G v l) (hl : Small l.length) : Calls Tryz.prog 72 #[v] w (Cloned w l) := (clone72o w G v l h hl).mono fun _ _ h => h.plain
theorem clone47 (w : World) (G : Nat → Prop) (v : Value) (l : List UInt8) (h : By w G v l) (hl : Small l.length) : Calls Tryz.prog 47 #[v] w (Cloned w l) := (clone47o w G v l h hl).mono fun _ _ h => h.plain
end Go.Proofs.YtddmbdigdnmfgaaGreatDoor
