import Derived.Test.YtddmbdigdnmfgaaGreatDoorIter
namespace Go.Proofs.YtddmbdigdnmfgaaGreatDoor
open Go.RowKit Go.Shelf
set_option maxHeartbeats 400000
set_option maxRecDepth 100000

/-- A node's three cells as one value. -/
def nodeV (x : XN) : Value := .agg #[.int .i64 x.k, .slice x.A x.m x.c, .slice x.B x.q x.cq]
/-- The node x is right, with so many nodes, so deep: wherever the cells of w stand. -/
def RightN (w : World) (x : XN) (cnt deep : Nat) : Prop :=
  ∀ (w' : World) (lb bm : Nat), Keep All w w' → w.heap.size ≤ lb → Looker w' lb bm 0 0 →
    Calls Tryz.prog 119 #[.pointer (some ⟨lb, 0, none⟩), .agg #[.int .i64 x.k, .slice x.A x.m x.c, .slice x.B x.q x.cq], .int .i64 (1 : Nat)] w'
      fun e w'' => e = .returned (.bool true) ∧ Looker w'' lb bm cnt deep ∧ Keep (fun i => i ≠ lb) w' w''
theorem RightN.keep {w w' : World} {x : XN} {cnt deep : Nat} (h : RightN w x cnt deep) (k : Keep All w w') : RightN w' x cnt deep :=
  fun w1 lb bm hk hl hL => h w1 lb bm (k.trans hk) (Nat.le_trans k.size hl) hL
theorem rightN_leaf (w : World) (s : ByteArray) (k : Int) (lo hi : Nat) (kd : Bool) (A : Option Addr) (m c : Nat) (hk : KindIs k lo hi kd) (hlo : lo ≤ m) (hhi : m ≤ hi) : RightN w ⟨s, k, A, m, c, none, 0, 0⟩ 1 1 :=
  fun w' lb bm _ _ hL => right119_leaf w' lb bm 0 0 1 k lo hi kd A m c hL (by decide) (by decide) (by decide) hk hlo hhi
theorem rightN_dir (w : World) (s0 : ByteArray) (A0 : Option Addr) (c0 kb off cc : Nat) (s : ByteArray) (k : Int) (lo hi : Nat) (kd : Bool) (A : Option Addr) (m c : Nat) (hkid : KidAt w kb off s k A m c) (hs : NameOk s) (hk : KindIs k lo hi kd) (hlo : lo ≤ m) (hhi : m ≤ hi) :
    RightN w ⟨s0, 4, A0, 0, c0, some ⟨kb, off, none⟩, 1, cc⟩ 2 2 :=
  fun w' lb bm hK hl hL => right119_dir w' lb bm 0 0 1 A0 c0 kb off cc s k lo hi kd A m c hL (by decide) (by decide) (by decide) (hkid.keep hK trivial) hs
    (by have : kb < w.heap.size := World.block_lt_of_cell? w ⟨kb, off, none⟩ hkid.name
        omega) hk hlo hhi

theorem looker_new (w1 : World) (bm lb : Nat) (h1 : bm = w1.heap.size) (h2 : lb = w1.heap.size + 1) : Looker ((w1.alloc (.map kindMap 4)).alloc (.cells #[.map (some bm), .int .i64 0, .int .i64 0] 195)) lb bm 0 0 := by
  subst h1 h2
  refine ⟨?_, ?_, by omega⟩
  · have := Blk.new (w1.alloc (.map kindMap 4)) [.map (some w1.heap.size), .int .i64 0, .int .i64 0] 195
    rwa [World.size_alloc] at this
  · exact (Below.heap_alloc _ _ _ (by simp)).trans (MapKept.heap_alloc w1 _).1
theorem looked67 (w : World) (x : XN) (cnt deep : Nat) (h : RightN w x cnt deep) :
    Calls Tryz.prog 67 #[.agg #[.int .i64 x.k, .slice x.A x.m x.c, .slice x.B x.q x.cq]] w
      fun e w' => ∃ lb bm, e = .returned (.tuple #[.pointer (some ⟨lb, 0, none⟩), .bool true]) ∧ w.heap.size ≤ lb ∧ Looker w' lb bm cnt deep ∧ Keep All w w' := by
  have H := Fact.mk h
  clear h
  go_enter Tryz.func67, Tryz.ntmps67
  go_wp2_with (first
    | (go_at_call 118; go_must (refine (kinds118 _).mono ?_); rintro e w1 ⟨rfl, rfl⟩)
    | (go_at_call 119; go_must (refine (H.out _ (w.heap.size + 1 + 1 + 1) (w.heap.size + 1 + 1) (((((Keep.refl _ w).alloc _).alloc _).alloc _).alloc _) (by omega) (looker_new _ _ _ (by simp) (by simp))).mono ?_); rintro e w2 ⟨rfl, h2, hk2⟩; have H2 := Fact.mk h2; have K2 := Fact.mk hk2; clear h2 hk2))
  go_ret2
  refine ⟨_, _, rfl, by omega, H2.out, (((((Keep.refl All w).alloc _).alloc _).alloc _).alloc _).then_ K2.out fun i hi _ => ?_⟩
  show i ≠ _
  omega
theorem right29 (w : World) (x : XN) (cnt deep : Nat) (h : RightN w x cnt deep) :
    Calls Tryz.prog 29 #[.agg #[.int .i64 x.k, .slice x.A x.m x.c, .slice x.B x.q x.cq]] w fun e w' => e = .returned (.bool true) ∧ Keep All w w' := by
  have H := Fact.mk h
  clear h
  go_enter Tryz.func29, Tryz.ntmps29
  go_wp2_with (first
    | (go_at_call 67; go_must (refine (looked67 _ _ _ _ (H.out.keep ((Keep.refl _ w).alloc _))).mono ?_); rintro e w1 ⟨lb, bm, rfl, hlb, hL, hk⟩; have K1 := Fact.mk (((Keep.refl _ w).alloc _).trans hk); clear hL hk))
  go_ret
  exact ⟨rfl, K1.out⟩
end Go.Proofs.YtddmbdigdnmfgaaGreatDoor
