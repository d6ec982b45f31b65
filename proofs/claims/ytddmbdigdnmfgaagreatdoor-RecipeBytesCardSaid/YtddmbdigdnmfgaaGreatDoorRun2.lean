import Derived.Test.YtddmbdigdnmfgaaGreatDoorRun
namespace Go.Proofs.YtddmbdigdnmfgaaGreatDoor
open Go.RowKit
set_option maxHeartbeats 1000000
set_option maxRecDepth 100000

theorem run27_out (w : World) (G : Nat → Prop) (A : Option Addr) (c : Nat) (bb : List UInt8) (h : By w G (.slice A bb.length c) bb) (hl : bb.length ≤ 1000) (hops : getOps bb = .ok awakeOps) :
    Calls Tryz.prog 27 #[.slice A bb.length c, .agg ownCells.toArray, .slice none 0 0, .int .i64 6] w (RunOut w) := by
  have H := Fact.mk h
  have HO := Fact.mk hops
  clear h hops
  have hmf : ∀ (fn : Fn) (first cap : Array Value) (w : World), (Instr.makeFunc fn first cap).run Tryz.prog w = .ok (.func fn first cap) w := fun _ _ _ _ => rfl
  obtain ⟨oc, hoc⟩ : ∃ c, c = ownCells.toArray := ⟨_, rfl⟩
  rw [← hoc]
  go_enter_defers Tryz.func27, Tryz.ntmps27
  go_upto_region 1 with (fail)
  obtain ⟨W0, hW⟩ : ∃ X, X = ((((w.alloc (.cells ownCells.toArray 50)).alloc (.cells #[.int .i64 0, .slice none 0 0, .slice none 0 0] 58)).alloc (.cells #[.int .i64 0] 3)).alloc (.cells #[.int .i64 0] 28)) := ⟨_, rfl⟩
  rw [← hW]
  have KW : Fact (Keep All w W0) := ⟨hW ▸ ((((Keep.refl All w).alloc _).alloc _).alloc _).alloc _⟩
  have B5 : Fact (Blk W0 w.heap.size ownCells 50) := ⟨hW ▸ (((Blk.new w ownCells 50).alloc _).alloc _).alloc _⟩
  have B8 : Fact (Blk W0 (w.heap.size + 1) [.int .i64 0, .slice none 0 0, .slice none 0 0] 58) := ⟨by
    have := ((Blk.new (w.alloc (.cells ownCells.toArray 50)) [.int .i64 0, .slice none 0 0, .slice none 0 0] 58).alloc (.cells #[.int .i64 0] 3)).alloc (.cells #[.int .i64 0] 28)
    rw [World.size_alloc] at this
    rw [hW]; exact this⟩
  have B9 : Fact (Blk W0 (w.heap.size + 1 + 1) [.int .i64 0] 3) := ⟨by
    have := (Blk.new ((w.alloc (.cells ownCells.toArray 50)).alloc (.cells #[.int .i64 0, .slice none 0 0, .slice none 0 0] 58)) [.int .i64 0] 3).alloc (.cells #[.int .i64 0] 28)
    rw [World.size_alloc, World.size_alloc] at this
    rw [hW]; exact this⟩
  have B10 : Fact (Blk W0 (w.heap.size + 1 + 1 + 1) [.int .i64 0] 28) := ⟨by
    have := Blk.new (((w.alloc (.cells ownCells.toArray 50)).alloc (.cells #[.int .i64 0, .slice none 0 0, .slice none 0 0] 58)).alloc (.cells #[.int .i64 0] 3)) [.int .i64 0] 28
    rw [World.size_alloc, World.size_alloc, World.size_alloc] at this
    rw [hW]; exact this⟩
  clear hW
  have hbd : ∀ (w : World) (A : Option Addr) (n c bm : Nat), (Instr.build 143 #[(0, .agg #[.int .i64 0, .int .i64 6, .slice none 0 0]), (1, .slice A n c), (3, .agg ownCells.toArray), (4, .map (some bm))]).run Tryz.prog w = .ok (.agg (builderCells 6 (.slice A n c) bm).toArray) w := fun w A n c bm => build143 w 6 A n c bm
  have hmax : max (6 : Int) 0 = 6 := by decide
  go_upto_region 7 with (first
    | (go_at_call 13; go_must (refine (get13 _ G _ bb (H.out.keep KW.out.all) hl).mono ?_); rintro e W1 ⟨hg, hk⟩; rw [HO.out] at hg; obtain ⟨oA, oc2, he, hops⟩ := hg; subst he; have HOPS := Fact.mk hops; have KW1 := Fact.mk (KW.out.trans hk); have KW1S := Fact.mk hk.size; have C5 := Fact.mk (B5.out.keep hk trivial); have C8 := Fact.mk (B8.out.keep hk trivial); have C9 := Fact.mk (B9.out.keep hk trivial); have c10 := B10.out.keep hk trivial; have C10 := Fact.mk c10; have r10 := c10.cell 0 _ rfl; have f10 := c10.free 0; clear hk hops c10)
    | (refine wpList_load_mid rfl 50 (.tmp 5) rfl w.heap.size 0 ?hx ownCells _ ?hc Tryz.underlying50 ?hd ?hi ?hrest
       case hx => go_must (rfl)
       case hc => go_must (exact Blk.range (C5.out.other ⟨w.heap.size + 1 + 1 + 1, 0, none⟩ (by show w.heap.size ≠ w.heap.size + 1 + 1 + 1; omega) _))
       case hd => go_must (rfl)
       case hi => go_must (kernel_rfl))
    | (go_at_call 63; go_must (refine (had63 _).mono ?_); rintro e W2 ⟨⟨bm, rfl⟩, hk⟩; have hk0 := ((Keep.refl (fun i => i ≠ w.heap.size + 1 + 1 + 1) W1).setCell (p := ⟨w.heap.size + 1 + 1 + 1, 0, none⟩) (.inr fun h => h rfl) (.int .i64 0)).trans hk.all; have K12 := Fact.mk hk0; have D5 := Fact.mk (C5.out.keep hk0 (by show w.heap.size ≠ w.heap.size + 1 + 1 + 1; omega)); have D8 := Fact.mk (C8.out.keep hk0 (by show w.heap.size + 1 ≠ w.heap.size + 1 + 1 + 1; omega)); have D9 := Fact.mk (C9.out.keep hk0 (by show w.heap.size + 1 + 1 ≠ w.heap.size + 1 + 1 + 1; omega)); have D10 := Fact.mk ((C10.out.set 0 (.int .i64 0)).keep hk trivial); clear hk hk0))
  go_upto_region 8 with (first
    | (refine wpList_load_mid rfl 50 (.tmp 5) rfl w.heap.size 0 ?gx ownCells _ ?gc Tryz.underlying50 ?gd ?gi ?grest
       case gx => go_must (rfl)
       case gc => go_must (exact Blk.range D5.out)
       case gd => go_must (rfl)
       case gi => go_must (kernel_rfl))
    | (refine wpList_build rfl 143 _ rfl (.agg (builderCells 6 (.slice oA awakeOps.length oc2) bm).toArray) ?br ?brest
       case br => go_must (simp only [List.map_toArray, List.map_cons, List.map_nil]; exact hbd W2 oA awakeOps.length oc2 bm)
       generalize hBC : builderCells 6 (.slice oA awakeOps.length oc2) bm = BC))
  obtain ⟨X, hX⟩ : ∃ X, X = (W2.alloc (.cells BC.toArray 143)).alloc (.cells #[.pointer (some ⟨W2.heap.size, 0, none⟩)] 137) := ⟨_, rfl⟩
  rw [← hX]
  have KX : Fact (Keep All W2 X) := ⟨hX ▸ ((Keep.refl All W2).alloc _).alloc _⟩
  have BX : Fact (Blk X W2.heap.size BC 143) := ⟨hX ▸ (Blk.new W2 BC 143).alloc _⟩
  have B14 : Fact (Blk X (W2.heap.size + 1) [.pointer (some ⟨W2.heap.size, 0, none⟩)] 137) := ⟨by
    have := Blk.new (W2.alloc (.cells BC.toArray 143)) [.pointer (some ⟨W2.heap.size, 0, none⟩)] 137
    rw [World.size_alloc] at this
    rw [hX]; exact this⟩
  have s10 : w.heap.size + 1 + 1 + 1 < W0.heap.size := B10.out.lt
  have HXO : OpsR X (fun i => i < X.heap.size ∧ i ≠ W2.heap.size) (.slice oA awakeOps.length oc2) awakeOps :=
    ((((HOPS.out.mono (H := fun i => i ≠ w.heap.size + 1 + 1 + 1) fun i _ h => by omega).keep K12.out).mono (H := fun i => i < W2.heap.size) fun i h _ => h).keep KX.out.all).mono fun i h1 h2 => ⟨h1, by omega⟩
  obtain ⟨ob, off, oc3, T0, d0, T1, d1, T2, d2, hv, hoc3, o0, o1, o2⟩ := ops_at HXO
  injection hv with hv1 _ hv3
  subst hv1 hv3
  have HB : Fact (BlkB X W2.heap.size 0 6 (.slice none 0 0) (.slice (some ⟨ob, off, none⟩) 3 oc2) 0 (ownCells ++ [.map (some bm)])) := ⟨by
    have := BX.out
    rw [← hBC] at this
    exact this⟩
  have O0 := Fact.mk o0
  have O1 := Fact.mk o1
  have O2 := Fact.mk o2
  have s2 : W0.heap.size ≤ W2.heap.size := Nat.le_trans (KW1S.out) K12.out.size
  have E8 := Fact.mk (D8.out.keep KX.out trivial)
  have E9 := Fact.mk (D9.out.keep KX.out trivial)
  have E10 := Fact.mk (D10.out.keep KX.out trivial)
  have q14 := B14.out.cell 0 _ rfl
  have KEND : Fact (Keep (fun i => i < w.heap.size) w X) := ⟨((KW1.out.mono fun _ _ => trivial).trans (K12.out.mono fun i h => by show i ≠ _; omega)).trans KX.out.all⟩
  clear o0 o1 o2 HXO hX hBC BX D5 D8 D9 D10 C5 C8 C9 C10 B5 B8 B9 B10 HOPS KW KW1 KW1S K12 KX H HO hbd hmax hoc
  go_wp2_with (go_at_call 65; go_must (refine (build65_out X W2.heap.size ob off oc2 (ownCells ++ [.map (some bm)]) T0 T1 T2 d0 d1 d2 HB.out hoc3 O0.out O1.out O2.out).mono ?_); rintro e W5 ⟨he, pv, hb5, hk5⟩; unfold outOfFuel at he; subst he; dsimp only; have HB5 := Fact.mk hb5; have hx1 : W2.heap.size + 1 < X.heap.size := B14.out.lt; have e8 := E8.out.keep hk5 ⟨by omega, by omega⟩; have e9 := E9.out.keep hk5 ⟨by omega, by omega⟩; have e10 := E10.out.keep hk5 ⟨by omega, by omega⟩; have e14 := B14.out.keep hk5 ⟨by omega, by omega⟩; have F8 := Fact.mk e8; have F9 := Fact.mk e9; have F10 := Fact.mk e10; have F14 := Fact.mk e14; have K5 := Fact.mk (KEND.out.then_ hk5 fun i h1 h2 => ⟨by omega, by omega⟩); clear hb5 e8 e9 e10 e14 hk5)
  have s3 : w.heap.size + 1 + 1 + 1 < W2.heap.size := by omega
  have z14 := F14.out.cell 0 _ rfl
  have zb : W5.cell? ⟨W2.heap.size, 0, none⟩ = some (.int .i64 (6 : Nat)) := Blk.cell HB5.out 0 _ rfl
  refine leaves_cons (f := 64) (args := #[.pointer (some ⟨W2.heap.size + 1, 0, none⟩), .pointer (some ⟨w.heap.size + 1 + 1, 0, none⟩), .pointer (some ⟨w.heap.size + 1 + 1 + 1, 0, none⟩), .pointer (some ⟨w.heap.size + 1, 0, none⟩)]) (by simp) (by simp [go_sem]) ?_
  refine (rec64_panic W5 W2.heap.size 6 (W2.heap.size + 1) (w.heap.size + 1 + 1) (w.heap.size + 1 + 1 + 1) (w.heap.size + 1) 0 0 _ _ _ [] z14 zb (F9.out.cell 0 _ rfl) (F9.out.free 0) (F10.out.cell 0 _ rfl) (F10.out.free 0) F8.out (by omega) (by omega) (by omega)).mono ?_
  rintro e u w'' ⟨rfl, rfl, rfl⟩
  have n1 : w.heap.size + 1 ≠ w.heap.size + 1 + 1 := by omega
  have n2 : w.heap.size + 1 ≠ w.heap.size + 1 + 1 + 1 := by omega
  have n3 : w.heap.size + 1 + 1 ≠ w.heap.size + 1 + 1 + 1 := by omega
  have k9 := (((Keep.refl (fun i => i < w.heap.size) W5).setCell (p := ⟨w.heap.size + 1 + 1, 0, none⟩) (.inr fun h => by simp only at h; omega) (.int .i64 6)).setCell (p := ⟨w.heap.size + 1 + 1 + 1, 0, none⟩) (.inr fun h => by simp only at h; omega) (.int .i64 11)).set3 (w.heap.size + 1) (.inr fun h => by omega) (.int .i64 0) (.slice none 0 0) (.slice none 0 0)
  refine ⟨_, results_27 _ _ (w.heap.size + 1) (w.heap.size + 1 + 1) (w.heap.size + 1 + 1 + 1) _ _ _ _ _ rfl rfl rfl (((F8.out.other _ n1 _).other _ n2 _).set3 _ _ _) (((F9.out.set 0 (.int .i64 6)).other _ n3 _).other3 _ n1.symm _ _ _) (((F10.out.other _ n3.symm _).set 0 (.int .i64 11)).other3 _ n2.symm _ _ _), ?_⟩
  exact ⟨rfl, ((Keep.refl All w).then_ K5.out fun i hi _ => hi).then_ k9 fun i hi _ => hi⟩
end Go.Proofs.YtddmbdigdnmfgaaGreatDoor
