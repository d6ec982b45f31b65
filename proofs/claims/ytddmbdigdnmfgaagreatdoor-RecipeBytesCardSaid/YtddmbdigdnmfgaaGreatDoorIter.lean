import Derived.RangeFuncNested
import Derived.RangeFuncBound
import Derived.RangeFuncCalls
import Derived.RangeFuncLeaves
import Derived.Shelf.Abstract
import Derived.Shelf.RegionOpen
import Derived.WalkKit
import Derived.OwnWalkIn
import Derived.TacticsInMore
import Derived.LoopNIn
import Derived.LoopIn
import Derived.Test.YtddmbdigdnmfgaaGreatDoorTree4
namespace Go.Proofs.YtddmbdigdnmfgaaGreatDoor
open Go.RowKit Go.Shelf
set_option maxHeartbeats 400000
set_option maxRecDepth 100000
attribute [local go_sem] Oper.semAt_some

theorem room_none {F : Fence} (hd : F.depth = none) (k : Nat) : F.room k := fun d h => by rw [hd] at h; cases h
theorem round_any {F : Fence} (hd : F.depth = none) {m m' : Nat} {P : Program} {l : Nat} {f : FuncId} {tmps : Array Value} {assign body : Code} {w : World} {R : Ending → World → Prop}
    (h : RoundIn F m P l f tmps assign body w R) : RoundIn F m' P l f tmps assign body w R := ⟨h.1, fun c cs _ => h.2 c cs (room_none hd _)⟩
theorem yield_any {F : Fence} (hd : F.depth = none) {m : Nat} (m' : Nat) {P : Program} {l : Nat} {args : Array Value} {W : World} {R : Ending → World → Prop} (h : YieldAt F m P l args W R) : YieldAt F m' P l args W R := by
  obtain ⟨fn, tmps, assign, body, hy, hR⟩ := h
  exact ⟨fn, tmps, assign, body, hy, round_any hd hR⟩

/-- Every block of cells but Bs stands. -/
structure KeepC (Bs : Nat) (W W' : World) : Prop where
  size : W.heap.size ≤ W'.heap.size
  same : ∀ (i : Nat) (o : Obj), i ≠ Bs → W.heap[i]? = some o → o.isCells = true → W'.heap[i]? = some o
theorem KeepC.refl (Bs : Nat) (W : World) : KeepC Bs W W := ⟨Nat.le_refl _, fun _ _ _ h _ => h⟩
theorem KeepC.trans {Bs : Nat} {A B C : World} (h : KeepC Bs A B) (k : KeepC Bs B C) : KeepC Bs A C := ⟨Nat.le_trans h.size k.size, fun i o hi ho hc => k.same i o hi (h.same i o hi ho hc) hc⟩
theorem KeepC.alloc {Bs : Nat} {A W : World} (h : KeepC Bs A W) (o : Obj) : KeepC Bs A (W.alloc o) :=
  h.trans ⟨by simp, fun i o' _ ho _ => (Below.heap_alloc W o i (Array.getElem?_eq_some_iff.1 ho).1).trans ho⟩
theorem KeepC.setCell {Bs : Nat} {A W : World} (h : KeepC Bs A W) (v : Value) : KeepC Bs A (W.setCell ⟨Bs, 0, none⟩ v) :=
  h.trans ⟨by simp [World.setCell], fun i o' hi ho _ => (Below.heap_setCell W ⟨Bs, 0, none⟩ v i hi).trans ho⟩
theorem KeepC.putObj (Bs : Nat) (W : World) (l : Nat) (o o' : Obj) (hl : W.heap[l]? = some o) (ho : o.isCells = false) : KeepC Bs W (W.putObj l o') :=
  ⟨by simp, fun i p hi hp hc => by
    have : i ≠ l := fun e => by subst e; rw [hl] at hp; cases hp; rw [ho] at hc; cases hc
    exact (World.putObj_heap_other this).trans hp⟩
theorem Blk.keepC {Bs : Nat} {W W' : World} {b : Nat} {c : List Value} {T : TypeId} (h : Blk W b c T) (k : KeepC Bs W W') (hb : b ≠ Bs) : Blk W' b c T := k.same b _ hb h rfl

theorem KeepC.cell {Bs : Nat} {W W' : World} (k : KeepC Bs W W') {p : Addr} {v : Value} (hp : p.block ≠ Bs) (h : W.cell? p = some v) : W'.cell? p = some v := by
  obtain ⟨o, ho, hc⟩ := cells_of_cell h
  exact (World.cell?_of_block (w := W) ((k.same _ _ hp ho hc).trans ho.symm)).trans h
theorem KidAt.keepC {Bs : Nat} {w w' : World} {kb off m c : Nat} {s : ByteArray} {k : Int} {A : Option Addr} (h : KidAt w kb off s k A m c) (hk : KeepC Bs w w') (hg : kb ≠ Bs) : KidAt w' kb off s k A m c :=
  ⟨hk.cell (p := ⟨kb, off, none⟩) hg h.name, hk.cell (p := ⟨kb, off + 1, none⟩) hg h.kind, hk.cell (p := ⟨kb, off + 2, none⟩) hg h.bytes, hk.cell (p := ⟨kb, off + 3, none⟩) hg h.kids⟩

/-- What a walk over a tree hands over: a path, a node's cells. -/
structure XN where
  s : ByteArray
  k : Int
  A : Option Addr
  m : Nat
  c : Nat
  B : Option Addr
  q : Nat
  cq : Nat
def XN.node (x : XN) : Value := .agg #[.int .i64 x.k, .slice x.A x.m x.c, .slice x.B x.q x.cq]

theorem step234_leaf (F : Fence) (hd : F.depth = none) (h234 : F.fn 234) (hro : F.round = none) (l n₀ Bs N : Nat) (J Jx : List XN → World → Prop) (hJ : AbidesFrom n₀ J)
    (hY : ∀ m pre x W, J pre W → pre.length < N → YieldAt F m Tryz.prog l #[.string x.s, .agg #[.int .i64 x.k, .slice x.A x.m x.c, .slice x.B x.q x.cq]] W fun e W' =>
      (e = .returned (.bool true) ∧ J (pre ++ [x]) W' ∧ KeepC Bs W W') ∨ (e = .returned (.bool false) ∧ Jx (pre ++ [x]) W'))
    (n : Nat) (pre : List XN) (s : ByteArray) (k : Int) (A : Option Addr) (m c : Nat) (W : World) (hJ0 : J pre W) (hN : pre.length < N) (hBs : Bs < W.heap.size) :
    CallsIn F n Tryz.prog 234 #[.string s, .agg #[.int .i64 k, .slice A m c, .slice none 0 0], .func (.yield l) #[] #[]] W fun e W' =>
      (e = .returned (.bool true) ∧ J (pre ++ [⟨s, k, A, m, c, none, 0, 0⟩]) W' ∧ KeepC Bs W W') ∨ (e = .returned (.bool false) ∧ Jx (pre ++ [⟨s, k, A, m, c, none, 0, 0⟩]) W') := by
  have hdd : ∀ k : Nat, (F.depth.isSome = true → 1 ≤ k) := fun k h => by rw [hd] at h; cases h
  have hJ1 := hJ pre W (W.alloc (.cells #[.int .i64 k, .slice A m c, .slice none 0 0] 58)) none hJ0 (World.grownBy_alloc W _ none) (fun r e => by cases e)
  obtain ⟨fn, tmps, assign, body, hy, hR⟩ := hY (n - 1) pre ⟨s, k, A, m, c, none, 0, 0⟩ _ hJ1 hN
  have B0 := Blk.new W [.int .i64 k, .slice A m c, .slice none 0 0] 58
  have hB := Fact.mk B0
  have hBs' : W.heap.size ≠ Bs := by omega
  refine callsIn_of_wp Tryz.func234 rfl h234 ?_ hro
  simp only [Tryz.ntmps234, List.size_toArray, List.length_cons, List.length_nil, Nat.reduceAdd, Nat.reduceSub, Array.replicate_succ, Array.replicate_zero, List.push_toArray, List.append_toArray, List.nil_append, List.cons_append]
  clear B0 hY hJ
  have hR1 := hR.mono (R' := fun e W2 => (e = .returned (.bool true) ∧ W2.cell? ⟨W.heap.size, 2, none⟩ = some (.slice none 0 0) ∧ Fact (J (pre ++ [⟨s, k, A, m, c, none, 0, 0⟩]) W2 ∧ KeepC Bs W W2)) ∨ (e = .returned (.bool false) ∧ Fact (Jx (pre ++ [⟨s, k, A, m, c, none, 0, 0⟩]) W2)))
    (fun e W2 h => h.elim (fun ⟨he, hj, hk⟩ => .inl ⟨he, (hB.out.keepC hk hBs').cell 2 _ rfl, ⟨hj, ((KeepC.refl _ _).alloc _).trans hk⟩⟩) (fun ⟨he, hx⟩ => .inr ⟨he, ⟨hx⟩⟩))
  clear hR hJ0 hJ1
  gi_wp2_with (first
    | ((try refine ⟨hdd _, ?_⟩); refine hR1.mono ?_; clear hR1; rintro e W2 (⟨rfl, c2, hj⟩ | ⟨rfl, hx⟩)))
  · refine wpIn_loop_rounds 1 ?_
    rw [roundsIn_succ]
    gi_wp2
    go_ret
    exact .inl ⟨rfl, hj.out.1, hj.out.2⟩
  · go_ret
    exact .inr ⟨rfl, hx.out⟩

/-- The same at a directory of one leaf. -/
theorem step234_dir (F : Fence) (hd : F.depth = none) (h234 : F.fn 234) (hro : F.round = none) (l n₀ Bs N : Nat) (J Jx : List XN → World → Prop) (hJ : AbidesFrom n₀ J)
    (hY : ∀ m pre x W, J pre W → pre.length < N → YieldAt F m Tryz.prog l #[.string x.s, .agg #[.int .i64 x.k, .slice x.A x.m x.c, .slice x.B x.q x.cq]] W fun e W' =>
      (e = .returned (.bool true) ∧ J (pre ++ [x]) W' ∧ KeepC Bs W W') ∨ (e = .returned (.bool false) ∧ Jx (pre ++ [x]) W'))
    (n : Nat) (pre : List XN) (k0 : Int) (A0 : Option Addr) (m0 c0 kb off cc : Nat) (s : ByteArray) (k : Int) (A : Option Addr) (m c : Nat) (W : World) (hJ0 : J pre W) (hN : pre.length + 1 < N) (hBs : Bs < W.heap.size)
    (hkid : KidAt W kb off s k A m c) (hkb : kb ≠ Bs) :
    CallsIn F n Tryz.prog 234 #[.string ⟨#[]⟩, .agg #[.int .i64 k0, .slice A0 m0 c0, .slice (some ⟨kb, off, none⟩) 1 cc], .func (.yield l) #[] #[]] W fun e W' =>
      (e = .returned (.bool true) ∧ (∃ ys, J ys W') ∧ KeepC Bs W W') ∨ (e = .returned (.bool false) ∧ ∃ ys, Jx ys W') := by
  have hdd : ∀ k : Nat, (F.depth.isSome = true → 1 ≤ k) := fun k h => by rw [hd] at h; cases h
  have hJ1 := hJ pre W (W.alloc (.cells #[.int .i64 k0, .slice A0 m0 c0, .slice (some ⟨kb, off, none⟩) 1 cc] 58)) none hJ0 (World.grownBy_alloc W _ none) (fun r e => by cases e)
  obtain ⟨fn, tmps, assign, body, hy, hR⟩ := hY (n - 1) pre ⟨⟨#[]⟩, k0, A0, m0, c0, some ⟨kb, off, none⟩, 1, cc⟩ _ hJ1 (by omega)
  have B0 := Blk.new W [.int .i64 k0, .slice A0 m0 c0, .slice (some ⟨kb, off, none⟩) 1 cc] 58
  have hB := Fact.mk B0
  have hBs' : W.heap.size ≠ Bs := by omega
  have HKID := Fact.mk hkid
  have hR1 := hR.mono (R' := fun e W2 => (e = .returned (.bool true) ∧ W2.cell? ⟨W.heap.size, 2, none⟩ = some (.slice (some ⟨kb, off, none⟩) 1 cc) ∧ KidAt W2 kb off s k A m c ∧ Bs < W2.heap.size ∧ Fact (J (pre ++ [⟨⟨#[]⟩, k0, A0, m0, c0, some ⟨kb, off, none⟩, 1, cc⟩]) W2 ∧ KeepC Bs W W2)) ∨ (e = .returned (.bool false) ∧ Fact (Jx (pre ++ [⟨⟨#[]⟩, k0, A0, m0, c0, some ⟨kb, off, none⟩, 1, cc⟩]) W2)))
    (fun e W2 h => h.elim (fun ⟨he, hj, hk⟩ => .inl ⟨he, (hB.out.keepC hk hBs').cell 2 _ rfl, HKID.out.keepC (((KeepC.refl _ _).alloc _).trans hk) hkb, Nat.lt_of_lt_of_le hBs (((KeepC.refl _ _).alloc _).trans hk).size, ⟨hj, ((KeepC.refl _ _).alloc _).trans hk⟩⟩) (fun ⟨he, hx⟩ => .inr ⟨he, ⟨hx⟩⟩))
  have HJ := Fact.mk hJ
  have HY := Fact.mk hY
  refine callsIn_of_wp Tryz.func234 rfl h234 ?_ hro
  simp only [Tryz.ntmps234, List.size_toArray, List.length_cons, List.length_nil, Nat.reduceAdd, Nat.reduceSub, Array.replicate_succ, Array.replicate_zero, List.push_toArray, List.append_toArray, List.nil_append, List.cons_append]
  clear B0 hY hJ hR hJ0 hJ1 hkid
  gi_wp2_with (first
    | ((try refine ⟨hdd _, ?_⟩); refine hR1.mono ?_; clear hR1; rintro e W2 (⟨rfl, c2, hk2, hB2, hj⟩ | ⟨rfl, hx⟩)))
  · have q0 := hk2.name
    have q1 := hk2.kind
    have q2 := hk2.bytes
    have q3 := hk2.kids
    clear hk2
    have hJ3 := HJ.out _ W2 (W2.alloc (.cells #[.string s, .int .i64 k, .slice A m c, .slice none 0 0] 71)) none hj.out.1 (World.grownBy_alloc W2 _ none) (fun r e => by cases e)
    have hs := Fact.mk (step234_leaf F hd h234 hro l n₀ Bs N J Jx HJ.out HY.out (n - 1) _ s k A m c _ hJ3 (by simp; omega) (by simp; omega))
    clear hJ3
    refine wpIn_loop_rounds 2 ?_
    rw [roundsIn_succ]
    gi_wp2_with (first
      | ((try refine ⟨hdd _, ?_⟩); gi_at_call 234; refine hs.out.mono ?_; clear hs; rintro e W3 (⟨rfl, hj3, hk3⟩ | ⟨rfl, hx3⟩)))
    · rw [roundsIn_succ]
      gi_wp2
      go_ret
      exact .inl ⟨rfl, ⟨_, hj3⟩, (hj.out.2.alloc _).trans hk3⟩
    · go_ret
      exact .inr ⟨rfl, _, hx3⟩
  · go_ret
    exact .inr ⟨rfl, _, hx.out⟩
end Go.Proofs.YtddmbdigdnmfgaaGreatDoor
