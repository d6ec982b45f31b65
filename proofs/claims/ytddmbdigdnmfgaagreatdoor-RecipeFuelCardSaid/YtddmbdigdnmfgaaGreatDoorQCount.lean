/- Walks of this seat, packed. -/
import Derived.RangeFuncNested
import Derived.RangeFuncBound
import Derived.RangeFuncCalls
import Derived.RangeFuncLeaves
import Derived.Shelf.Abstract
import Derived.Shelf.RegionOpen
import Derived.WalkKit
import Derived.OwnWalkIn
import Derived.TacticsInMore
import Derived.LoopNIn
import Derived.LoopIn
import Derived.Test.YtddmbdigdnmfgaaGreatDoorQTree4
namespace Go.Proofs.YtddmbdigdnmfgaaGreatDoor
open Go.RowKit Go.Shelf
set_option maxHeartbeats 400000
set_option maxRecDepth 100000
attribute [local go_sem] Oper.semAt_some

theorem room_none {F : Fence} (hd : F.depth = none) (k : Nat) : F.room k := fun d h => by rw [hd] at h; cases h
theorem round_any {F : Fence} (hd : F.depth = none) {m m' : Nat} {P : Program} {l : Nat} {f : FuncId} {tmps : Array Value} {assign body : Code} {w : World} {R : Ending → World → Prop}
    (h : RoundIn F m P l f tmps assign body w R) : RoundIn F m' P l f tmps assign body w R := ⟨h.1, fun c cs _ => h.2 c cs (room_none hd _)⟩
theorem yield_any {F : Fence} (hd : F.depth = none) {m : Nat} (m' : Nat) {P : Program} {l : Nat} {args : Array Value} {W : World} {R : Ending → World → Prop} (h : YieldAt F m P l args W R) : YieldAt F m' P l args W R := by
  obtain ⟨fn, tmps, assign, body, hy, hR⟩ := h
  exact ⟨fn, tmps, assign, body, hy, round_any hd hR⟩

/-- Every block of cells but Bs stands. -/
structure KeepC (Bs : Nat) (W W' : World) : Prop where
  size : W.heap.size ≤ W'.heap.size
  same : ∀ (i : Nat) (o : Obj), i ≠ Bs → W.heap[i]? = some o → o.isCells = true → W'.heap[i]? = some o
theorem KeepC.refl (Bs : Nat) (W : World) : KeepC Bs W W := ⟨Nat.le_refl _, fun _ _ _ h _ => h⟩
theorem KeepC.trans {Bs : Nat} {A B C : World} (h : KeepC Bs A B) (k : KeepC Bs B C) : KeepC Bs A C := ⟨Nat.le_trans h.size k.size, fun i o hi ho hc => k.same i o hi (h.same i o hi ho hc) hc⟩
theorem KeepC.alloc {Bs : Nat} {A W : World} (h : KeepC Bs A W) (o : Obj) : KeepC Bs A (W.alloc o) :=
  h.trans ⟨by simp, fun i o' _ ho _ => (Below.heap_alloc W o i (Array.getElem?_eq_some_iff.1 ho).1).trans ho⟩
theorem KeepC.setCell {Bs : Nat} {A W : World} (h : KeepC Bs A W) (v : Value) : KeepC Bs A (W.setCell ⟨Bs, 0, none⟩ v) :=
  h.trans ⟨by simp [World.setCell], fun i o' hi ho _ => (Below.heap_setCell W ⟨Bs, 0, none⟩ v i hi).trans ho⟩
theorem KeepC.putObj (Bs : Nat) (W : World) (l : Nat) (o o' : Obj) (hl : W.heap[l]? = some o) (ho : o.isCells = false) : KeepC Bs W (W.putObj l o') :=
  ⟨by simp, fun i p hi hp hc => by
    have : i ≠ l := fun e => by subst e; rw [hl] at hp; cases hp; rw [ho] at hc; cases hc
    exact (World.putObj_heap_other this).trans hp⟩
theorem Blk.keepC {Bs : Nat} {W W' : World} {b : Nat} {c : List Value} {T : TypeId} (h : Blk W b c T) (k : KeepC Bs W W') (hb : b ≠ Bs) : Blk W' b c T := k.same b _ hb h rfl

theorem KeepC.cell {Bs : Nat} {W W' : World} (k : KeepC Bs W W') {p : Addr} {v : Value} (hp : p.block ≠ Bs) (h : W.cell? p = some v) : W'.cell? p = some v := by
  obtain ⟨o, ho, hc⟩ := cells_of_cell h
  exact (World.cell?_of_block (w := W) ((k.same _ _ hp ho hc).trans ho.symm)).trans h
theorem KidAt.keepC {Bs : Nat} {w w' : World} {kb off m c : Nat} {s : ByteArray} {k : Int} {A : Option Addr} (h : KidAt w kb off s k A m c) (hk : KeepC Bs w w') (hg : kb ≠ Bs) : KidAt w' kb off s k A m c :=
  ⟨hk.cell (p := ⟨kb, off, none⟩) hg h.name, hk.cell (p := ⟨kb, off + 1, none⟩) hg h.kind, hk.cell (p := ⟨kb, off + 2, none⟩) hg h.bytes, hk.cell (p := ⟨kb, off + 3, none⟩) hg h.kids⟩

/-- What a walk over a tree hands over: a path, a node's cells. -/
structure XN where
  s : ByteArray
  k : Int
  A : Option Addr
  m : Nat
  c : Nat
  B : Option Addr
  q : Nat
  cq : Nat
def XN.node (x : XN) : Value := .agg #[.int .i64 x.k, .slice x.A x.m x.c, .slice x.B x.q x.cq]

theorem step234_leaf (F : Fence) (hd : F.depth = none) (h234 : F.fn 234) (hro : F.round = none) (l n₀ Bs N : Nat) (J Jx : List XN → World → Prop) (hJ : AbidesFrom n₀ J)
    (hY : ∀ m pre x W, J pre W → pre.length < N → YieldAt F m Tryz.prog l #[.string x.s, .agg #[.int .i64 x.k, .slice x.A x.m x.c, .slice x.B x.q x.cq]] W fun e W' =>
      (e = .returned (.bool true) ∧ J (pre ++ [x]) W' ∧ KeepC Bs W W') ∨ (e = .returned (.bool false) ∧ Jx (pre ++ [x]) W'))
    (n : Nat) (pre : List XN) (s : ByteArray) (k : Int) (A : Option Addr) (m c : Nat) (W : World) (hJ0 : J pre W) (hN : pre.length < N) (hBs : Bs < W.heap.size) :
    CallsIn F n Tryz.prog 234 #[.string s, .agg #[.int .i64 k, .slice A m c, .slice none 0 0], .func (.yield l) #[] #[]] W fun e W' =>
      (e = .returned (.bool true) ∧ J (pre ++ [⟨s, k, A, m, c, none, 0, 0⟩]) W' ∧ KeepC Bs W W') ∨ (e = .returned (.bool false) ∧ Jx (pre ++ [⟨s, k, A, m, c, none, 0, 0⟩]) W') := by
  have hdd : ∀ k : Nat, (F.depth.isSome = true → 1 ≤ k) := fun k h => by rw [hd] at h; cases h
  have hJ1 := hJ pre W (W.alloc (.cells #[.int .i64 k, .slice A m c, .slice none 0 0] 58)) none hJ0 (World.grownBy_alloc W _ none) (fun r e => by cases e)
  obtain ⟨fn, tmps, assign, body, hy, hR⟩ := hY (n - 1) pre ⟨s, k, A, m, c, none, 0, 0⟩ _ hJ1 hN
  have B0 := Blk.new W [.int .i64 k, .slice A m c, .slice none 0 0] 58
  have hB := Fact.mk B0
  have hBs' : W.heap.size ≠ Bs := by omega
  refine callsIn_of_wp Tryz.func234 rfl h234 ?_ hro
  simp only [Tryz.ntmps234, List.size_toArray, List.length_cons, List.length_nil, Nat.reduceAdd, Nat.reduceSub, Array.replicate_succ, Array.replicate_zero, List.push_toArray, List.append_toArray, List.nil_append, List.cons_append]
  clear B0 hY hJ
  have hR1 := hR.mono (R' := fun e W2 => (e = .returned (.bool true) ∧ W2.cell? ⟨W.heap.size, 2, none⟩ = some (.slice none 0 0) ∧ Fact (J (pre ++ [⟨s, k, A, m, c, none, 0, 0⟩]) W2 ∧ KeepC Bs W W2)) ∨ (e = .returned (.bool false) ∧ Fact (Jx (pre ++ [⟨s, k, A, m, c, none, 0, 0⟩]) W2)))
    (fun e W2 h => h.elim (fun ⟨he, hj, hk⟩ => .inl ⟨he, (hB.out.keepC hk hBs').cell 2 _ rfl, ⟨hj, ((KeepC.refl _ _).alloc _).trans hk⟩⟩) (fun ⟨he, hx⟩ => .inr ⟨he, ⟨hx⟩⟩))
  clear hR hJ0 hJ1
  gi_wp2_with (first
    | ((try refine ⟨hdd _, ?_⟩); refine hR1.mono ?_; clear hR1; rintro e W2 (⟨rfl, c2, hj⟩ | ⟨rfl, hx⟩)))
  · refine wpIn_loop_rounds 1 ?_
    rw [roundsIn_succ]
    gi_wp2
    go_ret
    exact .inl ⟨rfl, hj.out.1, hj.out.2⟩
  · go_ret
    exact .inr ⟨rfl, hx.out⟩

/-- The same at a directory of one leaf. -/
theorem step234_dir (F : Fence) (hd : F.depth = none) (h234 : F.fn 234) (hro : F.round = none) (l n₀ Bs N : Nat) (J Jx : List XN → World → Prop) (hJ : AbidesFrom n₀ J)
    (hY : ∀ m pre x W, J pre W → pre.length < N → YieldAt F m Tryz.prog l #[.string x.s, .agg #[.int .i64 x.k, .slice x.A x.m x.c, .slice x.B x.q x.cq]] W fun e W' =>
      (e = .returned (.bool true) ∧ J (pre ++ [x]) W' ∧ KeepC Bs W W') ∨ (e = .returned (.bool false) ∧ Jx (pre ++ [x]) W'))
    (n : Nat) (pre : List XN) (k0 : Int) (A0 : Option Addr) (m0 c0 kb off cc : Nat) (s : ByteArray) (k : Int) (A : Option Addr) (m c : Nat) (W : World) (hJ0 : J pre W) (hN : pre.length + 1 < N) (hBs : Bs < W.heap.size)
    (hkid : KidAt W kb off s k A m c) (hkb : kb ≠ Bs) :
    CallsIn F n Tryz.prog 234 #[.string ⟨#[]⟩, .agg #[.int .i64 k0, .slice A0 m0 c0, .slice (some ⟨kb, off, none⟩) 1 cc], .func (.yield l) #[] #[]] W fun e W' =>
      (e = .returned (.bool true) ∧ (∃ ys, J ys W') ∧ KeepC Bs W W') ∨ (e = .returned (.bool false) ∧ ∃ ys, Jx ys W') := by
  have hdd : ∀ k : Nat, (F.depth.isSome = true → 1 ≤ k) := fun k h => by rw [hd] at h; cases h
  have hJ1 := hJ pre W (W.alloc (.cells #[.int .i64 k0, .slice A0 m0 c0, .slice (some ⟨kb, off, none⟩) 1 cc] 58)) none hJ0 (World.grownBy_alloc W _ none) (fun r e => by cases e)
  obtain ⟨fn, tmps, assign, body, hy, hR⟩ := hY (n - 1) pre ⟨⟨#[]⟩, k0, A0, m0, c0, some ⟨kb, off, none⟩, 1, cc⟩ _ hJ1 (by omega)
  have B0 := Blk.new W [.int .i64 k0, .slice A0 m0 c0, .slice (some ⟨kb, off, none⟩) 1 cc] 58
  have hB := Fact.mk B0
  have hBs' : W.heap.size ≠ Bs := by omega
  have HKID := Fact.mk hkid
  have hR1 := hR.mono (R' := fun e W2 => (e = .returned (.bool true) ∧ W2.cell? ⟨W.heap.size, 2, none⟩ = some (.slice (some ⟨kb, off, none⟩) 1 cc) ∧ KidAt W2 kb off s k A m c ∧ Bs < W2.heap.size ∧ Fact (J (pre ++ [⟨⟨#[]⟩, k0, A0, m0, c0, some ⟨kb, off, none⟩, 1, cc⟩]) W2 ∧ KeepC Bs W W2)) ∨ (e = .returned (.bool false) ∧ Fact (Jx (pre ++ [⟨⟨#[]⟩, k0, A0, m0, c0, some ⟨kb, off, none⟩, 1, cc⟩]) W2)))
    (fun e W2 h => h.elim (fun ⟨he, hj, hk⟩ => .inl ⟨he, (hB.out.keepC hk hBs').cell 2 _ rfl, HKID.out.keepC (((KeepC.refl _ _).alloc _).trans hk) hkb, Nat.lt_of_lt_of_le hBs (((KeepC.refl _ _).alloc _).trans hk).size, ⟨hj, ((KeepC.refl _ _).alloc _).trans hk⟩⟩) (fun ⟨he, hx⟩ => .inr ⟨he, ⟨hx⟩⟩))
  have HJ := Fact.mk hJ
  have HY := Fact.mk hY
  refine callsIn_of_wp Tryz.func234 rfl h234 ?_ hro
  simp only [Tryz.ntmps234, List.size_toArray, List.length_cons, List.length_nil, Nat.reduceAdd, Nat.reduceSub, Array.replicate_succ, Array.replicate_zero, List.push_toArray, List.append_toArray, List.nil_append, List.cons_append]
  clear B0 hY hJ hR hJ0 hJ1 hkid
  gi_wp2_with (first
    | ((try refine ⟨hdd _, ?_⟩); refine hR1.mono ?_; clear hR1; rintro e W2 (⟨rfl, c2, hk2, hB2, hj⟩ | ⟨rfl, hx⟩)))
  · have q0 := hk2.name
    have q1 := hk2.kind
    have q2 := hk2.bytes
    have q3 := hk2.kids
    clear hk2
    have hJ3 := HJ.out _ W2 (W2.alloc (.cells #[.string s, .int .i64 k, .slice A m c, .slice none 0 0] 71)) none hj.out.1 (World.grownBy_alloc W2 _ none) (fun r e => by cases e)
    have hs := Fact.mk (step234_leaf F hd h234 hro l n₀ Bs N J Jx HJ.out HY.out (n - 1) _ s k A m c _ hJ3 (by simp; omega) (by simp; omega))
    clear hJ3
    refine wpIn_loop_rounds 2 ?_
    rw [roundsIn_succ]
    gi_wp2_with (first
      | ((try refine ⟨hdd _, ?_⟩); gi_at_call 234; refine hs.out.mono ?_; clear hs; rintro e W3 (⟨rfl, hj3, hk3⟩ | ⟨rfl, hx3⟩)))
    · rw [roundsIn_succ]
      gi_wp2
      go_ret
      exact .inl ⟨rfl, ⟨_, hj3⟩, (hj.out.2.alloc _).trans hk3⟩
    · go_ret
      exact .inr ⟨rfl, _, hx3⟩
  · go_ret
    exact .inr ⟨rfl, _, hx.out⟩
end Go.Proofs.YtddmbdigdnmfgaaGreatDoor

namespace Go.Proofs.YtddmbdigdnmfgaaGreatDoor
open Go.RowKit Go.Shelf
set_option maxHeartbeats 400000
set_option maxRecDepth 100000

/-- A node's three cells as one value. -/
def nodeV (x : XN) : Value := .agg #[.int .i64 x.k, .slice x.A x.m x.c, .slice x.B x.q x.cq]
/-- The node x is right, with so many nodes, so deep: wherever the cells of w stand. -/
def RightN (w : World) (x : XN) (cnt deep : Nat) : Prop :=
  ∀ (w' : World) (lb bm : Nat), Keep All w w' → w.heap.size ≤ lb → Looker w' lb bm 0 0 →
    Calls Tryz.prog 119 #[.pointer (some ⟨lb, 0, none⟩), .agg #[.int .i64 x.k, .slice x.A x.m x.c, .slice x.B x.q x.cq], .int .i64 (1 : Nat)] w'
      fun e w'' => e = .returned (.bool true) ∧ Looker w'' lb bm cnt deep ∧ Keep (fun i => i ≠ lb) w' w''
theorem RightN.keep {w w' : World} {x : XN} {cnt deep : Nat} (h : RightN w x cnt deep) (k : Keep All w w') : RightN w' x cnt deep :=
  fun w1 lb bm hk hl hL => h w1 lb bm (k.trans hk) (Nat.le_trans k.size hl) hL
theorem rightN_leaf (w : World) (s : ByteArray) (k : Int) (lo hi : Nat) (kd : Bool) (A : Option Addr) (m c : Nat) (hk : KindIs k lo hi kd) (hlo : lo ≤ m) (hhi : m ≤ hi) : RightN w ⟨s, k, A, m, c, none, 0, 0⟩ 1 1 :=
  fun w' lb bm _ _ hL => right119_leaf w' lb bm 0 0 1 k lo hi kd A m c hL (by decide) (by decide) (by decide) hk hlo hhi
theorem rightN_dir (w : World) (s0 : ByteArray) (A0 : Option Addr) (c0 kb off cc : Nat) (s : ByteArray) (k : Int) (lo hi : Nat) (kd : Bool) (A : Option Addr) (m c : Nat) (hkid : KidAt w kb off s k A m c) (hs : NameOk s) (hk : KindIs k lo hi kd) (hlo : lo ≤ m) (hhi : m ≤ hi) :
    RightN w ⟨s0, 4, A0, 0, c0, some ⟨kb, off, none⟩, 1, cc⟩ 2 2 :=
  fun w' lb bm hK hl hL => right119_dir w' lb bm 0 0 1 A0 c0 kb off cc s k lo hi kd A m c hL (by decide) (by decide) (by decide) (hkid.keep hK trivial) hs
    (by have : kb < w.heap.size := World.block_lt_of_cell? w ⟨kb, off, none⟩ hkid.name
        omega) hk hlo hhi

theorem looker_new (w1 : World) (bm lb : Nat) (h1 : bm = w1.heap.size) (h2 : lb = w1.heap.size + 1) : Looker ((w1.alloc (.map kindMap 4)).alloc (.cells #[.map (some bm), .int .i64 0, .int .i64 0] 195)) lb bm 0 0 := by
  subst h1 h2
  refine ⟨?_, ?_, by omega⟩
  · have := Blk.new (w1.alloc (.map kindMap 4)) [.map (some w1.heap.size), .int .i64 0, .int .i64 0] 195
    rwa [World.size_alloc] at this
  · exact (Below.heap_alloc _ _ _ (by simp)).trans (MapKept.heap_alloc w1 _).1
theorem looked67 (w : World) (x : XN) (cnt deep : Nat) (h : RightN w x cnt deep) :
    Calls Tryz.prog 67 #[.agg #[.int .i64 x.k, .slice x.A x.m x.c, .slice x.B x.q x.cq]] w
      fun e w' => ∃ lb bm, e = .returned (.tuple #[.pointer (some ⟨lb, 0, none⟩), .bool true]) ∧ w.heap.size ≤ lb ∧ Looker w' lb bm cnt deep ∧ Keep All w w' := by
  have H := Fact.mk h
  clear h
  go_enter Tryz.func67, Tryz.ntmps67
  go_wp2_with (first
    | (go_at_call 118; go_must (refine (kinds118 _).mono ?_); rintro e w1 ⟨rfl, rfl⟩)
    | (go_at_call 119; go_must (refine (H.out _ (w.heap.size + 1 + 1 + 1) (w.heap.size + 1 + 1) (((((Keep.refl _ w).alloc _).alloc _).alloc _).alloc _) (by omega) (looker_new _ _ _ (by simp) (by simp))).mono ?_); rintro e w2 ⟨rfl, h2, hk2⟩; have H2 := Fact.mk h2; have K2 := Fact.mk hk2; clear h2 hk2))
  go_ret2
  refine ⟨_, _, rfl, by omega, H2.out, (((((Keep.refl All w).alloc _).alloc _).alloc _).alloc _).then_ K2.out fun i hi _ => ?_⟩
  show i ≠ _
  omega
theorem right29 (w : World) (x : XN) (cnt deep : Nat) (h : RightN w x cnt deep) :
    Calls Tryz.prog 29 #[.agg #[.int .i64 x.k, .slice x.A x.m x.c, .slice x.B x.q x.cq]] w fun e w' => e = .returned (.bool true) ∧ Keep All w w' := by
  have H := Fact.mk h
  clear h
  go_enter Tryz.func29, Tryz.ntmps29
  go_wp2_with (first
    | (go_at_call 67; go_must (refine (looked67 _ _ _ _ (H.out.keep ((Keep.refl _ w).alloc _))).mono ?_); rintro e w1 ⟨lb, bm, rfl, hlb, hL, hk⟩; have K1 := Fact.mk (((Keep.refl _ w).alloc _).trans hk); clear hL hk))
  go_ret
  exact ⟨rfl, K1.out⟩
end Go.Proofs.YtddmbdigdnmfgaaGreatDoor

namespace Go.Proofs.YtddmbdigdnmfgaaGreatDoor
open Go.RowKit Go.Shelf
set_option maxHeartbeats 1000000
set_option maxRecDepth 100000
attribute [local go_sem] Oper.semAt_some

/-- A walk over the node x goes through, whatever the loop's body, so that the body keeps all cells but Bs's. -/
def StepOk (w : World) (x : XN) : Prop :=
  ∀ (F : Fence) (_ : F.depth = none) (_ : F.fn 234) (_ : F.round = none) (l n₀ Bs N : Nat) (J Jx : List XN → World → Prop) (_ : AbidesFrom n₀ J)
    (_ : ∀ m pre x W, J pre W → pre.length < N → YieldAt F m Tryz.prog l #[.string x.s, .agg #[.int .i64 x.k, .slice x.A x.m x.c, .slice x.B x.q x.cq]] W fun e W' =>
      (e = .returned (.bool true) ∧ J (pre ++ [x]) W' ∧ KeepC Bs W W') ∨ (e = .returned (.bool false) ∧ Jx (pre ++ [x]) W'))
    (n : Nat) (pre : List XN) (W : World) (_ : J pre W) (_ : pre.length + 1 < N) (_ : Bs < W.heap.size) (_ : w.heap.size ≤ Bs) (_ : Below w.heap.size w W),
    CallsIn F n Tryz.prog 234 #[.string ⟨#[]⟩, .agg #[.int .i64 x.k, .slice x.A x.m x.c, .slice x.B x.q x.cq], .func (.yield l) #[] #[]] W fun e W' =>
      (e = .returned (.bool true) ∧ (∃ ys, J ys W') ∧ KeepC Bs W W') ∨ (e = .returned (.bool false) ∧ ∃ ys, Jx ys W')
theorem StepOk.keep {w w' : World} {x : XN} (h : StepOk w x) (k : Keep All w w') : StepOk w' x :=
  fun F hd h234 hro l n₀ Bs N J Jx hJ hY n pre W h0 hN hBs hl hb => h F hd h234 hro l n₀ Bs N J Jx hJ hY n pre W h0 hN hBs (Nat.le_trans k.size hl) (k.below.trans (hb.mono k.size))
theorem stepOk_leaf (w : World) (s : ByteArray) (k : Int) (A : Option Addr) (m c : Nat) : StepOk w ⟨s, k, A, m, c, none, 0, 0⟩ :=
  fun F hd h234 hro l n₀ Bs N J Jx hJ hY n pre W h0 hN hBs hl hb => (step234_leaf F hd h234 hro l n₀ Bs N J Jx hJ hY n pre ⟨#[]⟩ k A m c W h0 (by omega) hBs).mono
    fun e W' h => h.elim (fun ⟨he, hj, hk⟩ => .inl ⟨he, ⟨_, hj⟩, hk⟩) (fun ⟨he, hx⟩ => .inr ⟨he, _, hx⟩)
theorem stepOk_dir (w : World) (s0 : ByteArray) (k0 : Int) (A0 : Option Addr) (m0 c0 kb off cc : Nat) (s : ByteArray) (k : Int) (A : Option Addr) (m c : Nat) (hkid : KidAt w kb off s k A m c) : StepOk w ⟨s0, k0, A0, m0, c0, some ⟨kb, off, none⟩, 1, cc⟩ :=
  fun F hd h234 hro l n₀ Bs N J Jx hJ hY n pre W h0 hN hBs hl hb => by
    have hlt : kb < w.heap.size := World.block_lt_of_cell? w ⟨kb, off, none⟩ hkid.name
    exact step234_dir F hd h234 hro l n₀ Bs N J Jx hJ hY n pre k0 A0 m0 c0 kb off cc s k A m c W h0 hN hBs
      (hkid.keep (G := fun i => i < w.heap.size) ⟨hb.os, hb.tape, hb.output, hb.size, fun i hi _ => hb.block i hi⟩ hlt) (by omega)

/-- The iterator: its box holds x. -/
theorem iter233 (F : Fence) (hd : F.depth = none) (h233 : F.fn 233) (h234 : F.fn 234) (hro : F.round = none) (n : Nat) (w0 w : World) (x : XN) (Bt Bs : Nat) (hstep : StepOk w0 x) (hBt : Blk w Bt [.int .i64 x.k, .slice x.A x.m x.c, .slice x.B x.q x.cq] 58)
    (hBs : Bs < w.heap.size) (h0 : w0.heap.size ≤ Bs) (hb : Below w0.heap.size w0 w) :
    SeqStopsK F n Tryz.prog 233 #[.pointer (some ⟨Bt, 0, none⟩)] (fun x : XN => #[.string x.s, .agg #[.int .i64 x.k, .slice x.A x.m x.c, .slice x.B x.q x.cq]]) (KeepC Bs) (fun _ => True) (fun _ => True) 3 w := fun l J Jx W hW hJ hJx hY hJ0 => by
  have hdd : ∀ k : Nat, (F.depth.isSome = true → 1 ≤ k) := fun k h => by rw [hd] at h; cases h
  have B1 : Blk W Bt [.int .i64 x.k, .slice x.A x.m x.c, .slice x.B x.q x.cq] 58 := (hW.block Bt hBt.lt).trans hBt
  have t0 := B1.cell 0 _ rfl
  have t1 := B1.cell 1 _ rfl
  have t2 := B1.cell 2 _ rfl
  have hp := Fact.mk (hstep F hd h234 hro l W.heap.size Bs 3 J Jx hJ (fun m pre x W1 hj hl => yield_any hd m (hY pre x W1 hj hl)) (n - 1) [] W hJ0 (by simp) (Nat.lt_of_lt_of_le hBs hW.size) h0 (hb.trans (hW.mono hb.size)))
  clear hstep hBt hb hJ hJx hY hJ0 B1 hW
  show CallsIn F n Tryz.prog 233 #[.func (.yield l) #[] #[], .pointer (some ⟨Bt, 0, none⟩)] W _
  refine callsIn_of_wp Tryz.func233 rfl h233 ?_ hro
  simp only [Tryz.ntmps233, List.size_toArray, List.length_cons, List.length_nil, Nat.reduceAdd, Nat.reduceSub, Array.replicate_succ, Array.replicate_zero, List.push_toArray, List.append_toArray, List.nil_append, List.cons_append]
  gi_wp2_with ((try refine ⟨hdd _, ?_⟩); gi_at_call 234; refine hp.out.mono ?_; clear hp; rintro e W1 (⟨rfl, ⟨ys, hj⟩, _⟩ | ⟨rfl, ys, hx⟩))
  · go_end0
    exact ⟨⟨_, rfl⟩, .inl ⟨ys, trivial, hj⟩⟩
  · go_end0
    exact ⟨⟨_, rfl⟩, .inr ⟨ys, trivial, hx⟩⟩

theorem walk212 (w : World) (x : XN) : Calls Tryz.prog 212 #[.agg #[.int .i64 x.k, .slice x.A x.m x.c, .slice x.B x.q x.cq]] w
    fun e w' => e = .returned (.func (.func 233) #[] #[.pointer (some ⟨w.heap.size, 0, none⟩)]) ∧ w' = w.alloc (.cells #[.int .i64 x.k, .slice x.A x.m x.c, .slice x.B x.q x.cq] 58) := by
  go_enter Tryz.func212, Tryz.ntmps212
  go_wp2
  go_ret
  exact ⟨rfl, rfl⟩

theorem blk_own {β : Type} (B b : Nat) (c : List Value) (T : TypeId) : OwnFrom B (fun (_ : β) W => Blk W b c T) := fun _ W W' row hs hg hr =>
  Blk.grown hs hg fun e => by
    obtain ⟨_, o, ho, hc⟩ := hr b e
    have hs' : W.heap[b]? = some (.cells c.toArray T (0, 0)) := hs
    rw [hs'] at ho
    cases ho
    simp [Obj.isCells] at hc
theorem count204 (w : World) (x : XN) (cnt deep : Nat) (hR : RightN w x cnt deep) (hS : StepOk w x) :
    Calls Tryz.prog 204 #[.agg #[.int .i64 x.k, .slice x.A x.m x.c, .slice x.B x.q x.cq]] w
      fun e w' => (∃ b : Int, e = .returned (.tuple #[.int .i64 cnt, .int .i64 deep, .int .i64 b])) ∧ Keep All w w' := by
  have HR := Fact.mk hR
  have HS := Fact.mk hS
  clear hR hS
  refine (callsIn_wide (n := 9)).1 ?_
  refine callsIn_of_wp_marks Tryz.func204 rfl trivial ?_ rfl
  simp only [Tryz.ntmps204, List.size_toArray, List.length_cons, List.length_nil, Nat.reduceAdd, Nat.reduceSub, Array.replicate_succ, Array.replicate_zero, List.push_toArray, List.append_toArray, List.nil_append, List.cons_append]
  gi_wp2_with (first
    | (refine ⟨trivial, ?_⟩; gi_at_call 67; refine (callsIn_wide.2 (looked67 _ x cnt deep (HR.out.keep (((Keep.refl _ w).alloc _).alloc _)))).mono ?_; rintro e w1 ⟨lb, bm, rfl, hlb, hL, hk⟩; have HL := Fact.mk hL; have K := Fact.mk hk; have HLB := Fact.mk hlb; have t0 := hk.cell (p := ⟨w.heap.size, 0, none⟩) trivial (v := .int .i64 x.k) (by simp); have t1 := hk.cell (p := ⟨w.heap.size, 1, none⟩) trivial (v := .slice x.A x.m x.c) (by simp); have t2 := hk.cell (p := ⟨w.heap.size, 2, none⟩) trivial (v := .slice x.B x.q x.cq) (by simp); clear hL hk hlb)
    | (refine ⟨trivial, ?_⟩; gi_at_call 212; refine (callsIn_wide.2 (walk212 _ x)).mono ?_; rintro e w2 ⟨rfl, rfl⟩))
  have hs1 := HLB.out
  simp only [World.size_alloc] at hs1
  have hKw := K.out.below
  simp only [World.size_alloc] at hKw
  have hB0 : Below w.heap.size w w1 := (((Below.refl _ w).alloc (Nat.le_refl _) _).alloc (by simp) _).trans (hKw.mono (by omega))
  have b4 : Blk w1 (w.heap.size + 1) [.int .i64 0] 3 := (by
    have := Blk.new (w.alloc (.cells #[.int .i64 x.k, .slice x.A x.m x.c, .slice x.B x.q x.cq] 58)) [.int .i64 0] 3
    rw [World.size_alloc] at this
    exact this.keep K.out trivial)
  obtain ⟨W0, hW0⟩ : ∃ W0, w1.alloc (.cells #[.int .i64 x.k, .slice x.A x.m x.c, .slice x.B x.q x.cq] 58) = W0 := ⟨_, rfl⟩
  have bT : Blk W0 w1.heap.size [.int .i64 x.k, .slice x.A x.m x.c, .slice x.B x.q x.cq] 58 := hW0 ▸ Blk.new w1 [.int .i64 x.k, .slice x.A x.m x.c, .slice x.B x.q x.cq] 58
  have hBW : Below w.heap.size w W0 := hW0 ▸ hB0.alloc hB0.size _
  have bL : Blk W0 lb [.map (some bm), .int .i64 cnt, .int .i64 deep] 195 := hW0 ▸ HL.out.blk.alloc _
  have b4' : Blk W0 (w.heap.size + 1) [.int .i64 0] 3 := hW0 ▸ b4.alloc _
  have hsz : w1.heap.size < W0.heap.size := bT.lt
  have hsz2 : w.heap.size + 1 < w1.heap.size := b4.lt
  rw [hW0]
  clear hW0 t0 t1 t2
  refine wpIn_rangeFunc_ownH rfl (by decide) (gf := 233) (lb := #[.pointer (some ⟨w1.heap.size, 0, none⟩)]) rfl trivial (enters_of Tryz.func233 (by kernel_rfl) rfl)
    (iter233 Fence.wide rfl trivial trivial rfl 8 w W0 x w1.heap.size (w.heap.size + 1) HS.out bT (by omega) (by omega) hBW)
    KeepC.trans (fun W l o o' _ hl ho _ => KeepC.putObj _ W l o o' hl ho) (Below.refl _ _) (fun _ => rfl)
    (fun pre W => ((∃ v : Int, Blk W (w.heap.size + 1) [.int .i64 v] 3) ∧ Blk W lb [.map (some bm), .int .i64 cnt, .int .i64 deep] 195) ∧ Below w.heap.size w W)
    (fun _ _ _ => False)
    (OwnFrom.and (OwnFrom.and (fun s A B row hs hg hr => by obtain ⟨v, hv⟩ := hs; exact ⟨v, blk_own _ _ _ _ s A B row hv hg hr⟩) (blk_own _ _ _ _)) (ownFrom_below (Nat.le_refl _) (by omega)))
    (fun _ _ _ _ _ hs _ _ => hs)
    ⟨⟨⟨0, b4'⟩, bL⟩, hBW⟩
    (fun y a' W => ∃ Bx, w.heap.size + 1 < Bx ∧ Blk W Bx [.int .i64 y.k, .slice y.A y.m y.c, .slice y.B y.q y.cq] 58 ∧ a' = { tmps := #[.agg #[.int .i64 x.k, .slice x.A x.m x.c, .slice x.B x.q x.cq], .pointer (some ⟨w.heap.size, 0, none⟩), .int .i64 0, .int .i64 0, .pointer (some ⟨w.heap.size + 1, 0, none⟩), .pointer (some ⟨lb, 0, none⟩), .bool true, undef, .pointer (some ⟨Bx, 0, none⟩), .tuple #[.pointer (some ⟨lb, 0, none⟩), .bool true], .agg #[.int .i64 x.k, .slice x.A x.m x.c, .slice x.B x.q x.cq], .tuple #[.pointer (some ⟨lb, 0, none⟩), .bool true], .pointer (some ⟨lb, 0, none⟩), .bool true, .bool true, .bool false, .agg #[.int .i64 x.k, .slice x.A x.m x.c, .slice x.B x.q x.cq], .func (.func 233) #[] #[.pointer (some ⟨w1.heap.size, 0, none⟩)], .string y.s, .agg #[.int .i64 y.k, .slice y.A y.m y.c, .slice y.B y.q y.cq], undef, undef, undef, undef, undef, undef, undef, undef, undef, undef, undef, undef, undef, undef], defers := [] })
    (fun y a' _ X Y row hs hg hr => by obtain ⟨Bx, h1, h2, h3⟩ := hs; exact ⟨Bx, h1, blk_own _ _ _ _ () X Y row h2 hg hr, h3⟩)
    ?assign ?body ?done ?stop
  case assign =>
    rintro l pre y W K1 ⟨⟨⟨v, bS⟩, bL1⟩, hB1⟩ hK
    gi_wp2
    exact hK _ _ ((KeepsOthers.alloc _ _).from _) ((KeepC.refl _ W).alloc _) ⟨⟨⟨v, bS.alloc _⟩, bL1.alloc _⟩, hB1.alloc hB1.size _⟩ ⟨W.heap.size, bS.lt, Blk.new W [.int .i64 y.k, .slice y.A y.m y.c, .slice y.B y.q y.cq] 58, rfl⟩
  case body =>
    rintro l pre y a' W hl ⟨r, hr⟩ ⟨⟨⟨v, bS⟩, bL1⟩, hB1⟩ ⟨Bx, hBx, bX, rfl⟩ hlt
    have cS := bS.cell 0 _ rfl
    have fS := bS.free 0
    have cX := bX.cell 1 _ rfl
    gi_wp2
    exact ⟨(KeepsOthers.setCell _ _ _).from _, (KeepC.refl _ W).setCell _, ⟨⟨_, bS.set 0 _⟩, bL1.other ⟨w.heap.size + 1, 0, none⟩ (by show lb ≠ w.heap.size + 1; omega) _⟩, hB1.setCell (p := ⟨w.heap.size + 1, 0, none⟩) (by simp) _⟩
  case done =>
    rintro D ys W hD _ ⟨⟨⟨v, bS⟩, bL1⟩, hB1⟩ hK
    have cS := bS.cell 0 _ rfl
    have fS := bS.free 0
    have cL1 := bL1.cell 1 _ rfl
    have cL2 := bL1.cell 2 _ rfl
    gi_wp2
    gi_region
    gi_wp2
    have hK2 : ((W.setCell ⟨w.heap.size + 1, 0, none⟩ (.int .i64 v)).drew).heap[D]? = some (.deferred (some [])) := (KeepsOthers.setCell _ _ _).same D _ hK rfl
    have bS2 : Blk ((W.setCell ⟨w.heap.size + 1, 0, none⟩ (.int .i64 v)).drew) (w.heap.size + 1) [.int .i64 v] 3 := (bS.set 0 (.int .i64 v)).drew
    have hB2 : Below w.heap.size w ((W.setCell ⟨w.heap.size + 1, 0, none⟩ (.int .i64 v)).drew) := (hB1.setCell (p := ⟨w.heap.size + 1, 0, none⟩) (by simp) (.int .i64 v)).drew
    obtain ⟨W3, hW3⟩ : ∃ W3, (W.setCell ⟨w.heap.size + 1, 0, none⟩ (.int .i64 v)).drew = W3 := ⟨_, rfl⟩
    rw [hW3] at hK2 bS2 hB2 ⊢
    clear hW3
    have hp4 : Blk (W3.putObj D (.deferred none)) (w.heap.size + 1) [.int .i64 v] 3 := bS2.grown (grownBy_putObj' _ _ _) (fun e => by
      cases e
      have hb' : W3.heap[w.heap.size + 1]? = some (.cells [Value.int .i64 v].toArray 3 (0, 0)) := bS2
      rw [hb'] at hK2; cases hK2)
    have hB3 : Below w.heap.size w (W3.putObj D (.deferred none)) := hB2.trans (belowK_b (w := w) (Nat.le_refl _) W3 D _ _ (by omega) hK2 rfl rfl)
    refine ⟨by simp, .inl ⟨_, _, rfl, run_takeDeferred hK2, ?_⟩⟩
    obtain ⟨W4, hW4⟩ : ∃ W4, W3.putObj D (.deferred none) = W4 := ⟨_, rfl⟩
    rw [hW4] at hp4 hB3 ⊢
    have c4 := hp4.cell 0 _ rfl
    refine ⟨.tuple #[.int .i64 cnt, .int .i64 deep, .int .i64 v], ?_, ⟨v, rfl⟩, Keep.of_below hB3⟩
    simp [results, Tryz.f204]
    go_simp
  case stop =>
    rintro D c pre W _ _ h _
    exact h.elim
end Go.Proofs.YtddmbdigdnmfgaaGreatDoor
