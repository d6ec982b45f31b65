/- Walks of this seat, packed. -/
import Derived.Test.YtddmbdigdnmfgaaGreatDoorQHad
import Derived.Recover
import Derived.Defers
namespace Go.Proofs.YtddmbdigdnmfgaaGreatDoor
open Go.RowKit
set_option maxHeartbeats 1000000
set_option maxRecDepth 100000

theorem rec64_idle (w : World) (p used b14 b9 b10 b8 : Nat) (x : Int) (h14 : w.cell? ⟨b14, 0, none⟩ = some (.pointer (some ⟨p, 0, none⟩))) (h0 : w.cell? ⟨p, 0, none⟩ = some (.int .i64 used)) (h9 : w.cell? ⟨b9, 0, none⟩ = some (.int .i64 x)) (f9 : w.frozen? ⟨b9, 0, none⟩ = false) :
    CallsD Tryz.prog 64 #[.pointer (some ⟨b14, 0, none⟩), .pointer (some ⟨b9, 0, none⟩), .pointer (some ⟨b10, 0, none⟩), .pointer (some ⟨b8, 0, none⟩)] .returning w fun e u w' =>
      e = .returned (.tuple #[]) ∧ u = .returning ∧ w' = w.setCell ⟨b9, 0, none⟩ (.int .i64 used) := by
  refine callsD_of_wpS Tryz.func64 rfl fun c₀ cs hu => ?_
  simp only [Tryz.ntmps64, List.size_toArray, List.length_cons, List.length_nil, Nat.reduceAdd, Nat.reduceSub, Array.replicate_succ, Array.replicate_zero, List.push_toArray, List.append_toArray, List.nil_append, List.cons_append]
  apply wpS_seq
  refine wpS_of_wp ?_
  go_wp2
  simp only [Exit.thenS]
  apply wpS_seq
  apply wpS_region
  simp [wpOpsS, go_sem, recoverD, hu, Exit.thenS]
  refine wpS_of_wp ?_
  go_wp2
  cases c₀
  simp_all [bodyPostS, results, Tryz.results64]
theorem rec64_panic (w : World) (p used b14 b9 b10 b8 : Nat) (x y : Int) (d0 d1 d2 : Value) (older : List PanicEntry) (h14 : w.cell? ⟨b14, 0, none⟩ = some (.pointer (some ⟨p, 0, none⟩))) (h0 : w.cell? ⟨p, 0, none⟩ = some (.int .i64 used)) (h9 : w.cell? ⟨b9, 0, none⟩ = some (.int .i64 x)) (f9 : w.frozen? ⟨b9, 0, none⟩ = false)
    (h10 : w.cell? ⟨b10, 0, none⟩ = some (.int .i64 y)) (f10 : w.frozen? ⟨b10, 0, none⟩ = false) (h8 : Blk w b8 [d0, d1, d2] 58) (h910 : b9 ≠ b10) (h98 : b9 ≠ b8) (h108 : b10 ≠ b8) :
    CallsD Tryz.prog 64 #[.pointer (some ⟨b14, 0, none⟩), .pointer (some ⟨b9, 0, none⟩), .pointer (some ⟨b10, 0, none⟩), .pointer (some ⟨b8, 0, none⟩)] (.panicking ({ v := .iface 28 (.int .i64 11), recovered := false } :: older)) w fun e u w' =>
      e = .returned (.tuple #[]) ∧ u = .panicking ({ v := .iface 28 (.int .i64 11), recovered := true } :: older) ∧ w' = set3 ((w.setCell ⟨b9, 0, none⟩ (.int .i64 used)).setCell ⟨b10, 0, none⟩ (.int .i64 11)) b8 (.int .i64 0) (.slice none 0 0) (.slice none 0 0) := by
  have e0 := h8.cell 0 _ rfl
  have e1 := h8.cell 1 _ rfl
  have e2 := h8.cell 2 _ rfl
  have z0 := h8.free 0
  have z1 := h8.free 1
  have z2 := h8.free 2
  clear h8
  have hta : ∀ w, (Instr.typeAssert (.iface 28 (.int .i64 11)) 20 28 true).run Tryz.prog w = .ok (.tuple #[.int .i64 11, .bool true]) w := fun _ => by kernel_rfl
  refine callsD_of_wpS Tryz.func64 rfl fun c₀ cs hu => ?_
  simp only [Tryz.ntmps64, List.size_toArray, List.length_cons, List.length_nil, Nat.reduceAdd, Nat.reduceSub, Array.replicate_succ, Array.replicate_zero, List.push_toArray, List.append_toArray, List.nil_append, List.cons_append]
  apply wpS_seq
  refine wpS_of_wp ?_
  go_wp2
  simp only [Exit.thenS]
  apply wpS_seq
  apply wpS_region
  simp [wpOpsS, go_sem, recoverD, hu, Exit.thenS]
  refine wpS_of_wp ?_
  go_wp2

  cases c₀
  simp_all [bodyPostS, results, Tryz.results64, set3]
end Go.Proofs.YtddmbdigdnmfgaaGreatDoor

namespace Go.Proofs.YtddmbdigdnmfgaaGreatDoor
open Go.RowKit
set_option maxHeartbeats 1000000
set_option maxRecDepth 100000

def awakeOps : List POp := [⟨4, 0, 0, []⟩, ⟨1, 0, 0, [97, 98]⟩, ⟨5, 0, 0, [120]⟩]
theorem ops_at {w : World} {G : Nat → Prop} {v : Value} (h : OpsR w G v awakeOps) : ∃ ob off oc T0 d0 T1 d1 T2 d2, v = .slice (some ⟨ob, off, none⟩) 3 oc ∧ 3 ≤ oc ∧ OpAt w G ob (off + 0 * 4) 4 [] T0 d0 ∧ OpAt w G ob (off + 1 * 4) 1 [97, 98] T1 d1 ∧ OpAt w G ob (off + 2 * 4) 5 [120] T2 d2 := by
  obtain ⟨A, c, rfl, hn, hc, hA, hk⟩ := h.open
  obtain ⟨b, off, T0, d0, rfl, hg, hb0, k0, n0, m0, t0⟩ := hk 0 (by decide)
  obtain ⟨b1, off1, T1, d1, e1, hg1, hb1, k1, n1, m1, t1⟩ := hk 1 (by decide)
  obtain ⟨b2, off2, T2, d2, e2, hg2, hb2, k2, n2, m2, t2⟩ := hk 2 (by decide)
  injection e1 with e1
  injection e1 with e1 e1'
  injection e2 with e2
  injection e2 with e2 e2'
  subst e1 e1' e2 e2'
  exact ⟨b, off, c, T0, d0, T1, d1, T2, d2, rfl, hn, ⟨k0, n0, m0, t0, hb0, hg⟩, ⟨k1, n1, m1, t1, hb1, hg⟩, ⟨k2, n2, m2, t2, hb2, hg⟩⟩
end Go.Proofs.YtddmbdigdnmfgaaGreatDoor

namespace Go.Proofs.YtddmbdigdnmfgaaGreatDoor
open Go.RowKit
set_option maxHeartbeats 1000000
set_option maxRecDepth 100000

theorem Blk.range {w : World} {b : Nat} {c : List Value} {T : TypeId} (h : Blk w b c T) : w.rangeAt b 0 c := fun j v hv => by rw [Nat.zero_add]; exact h.cell j v hv
def builderCells (fuel : Nat) (ov : Value) (bm : Nat) : List Value := [.int .i64 (0 : Nat), .int .i64 fuel, .slice none 0 0, ov, .int .i64 (0 : Nat)] ++ (ownCells ++ [.map (some bm)])
theorem build143 (w : World) (fuel : Nat) (A : Option Addr) (n c bm : Nat) : (Instr.build 143 #[(0, .agg #[.int .i64 0, .int .i64 fuel, .slice none 0 0]), (1, .slice A n c), (3, .agg ownCells.toArray), (4, .map (some bm))]).run Tryz.prog w = .ok (.agg (builderCells fuel (.slice A n c) bm).toArray) w := by
  kernel_rfl
theorem wpList_build {P : Program} {ops : Array Oper} {rest : List Oper} {o : Oper} {a : Act} {w : World} {Q : Exit → Act → World → Prop} (hgd : o.guard = none) (t : TypeId) (ps : Array (Nat × Operand)) (ho : o.op = .build t ps) (v : Value)
    (hr : (Instr.build t (ps.map fun (i, x) => (i, a.eval x))).run P w = .ok v w) (h : wpList P ops Q rest (a.put o.dst v) w) : wpList P ops Q (o :: rest) a w :=
  wpList_plain hgd fun _ hK => by
    unfold Oper.wp execOp
    simp only [ho, Sem.run_bind, Sem.run_pure, Result.andThen_ok, hr]
    exact hK _ _ h
theorem results_27 (tmps : Array Value) (w : World) (g8 g9 g10 : Nat) (a b c x y : Value) (h8 : tmps.getD 8 undef = .pointer (some ⟨g8, 0, none⟩)) (h9 : tmps.getD 9 undef = .pointer (some ⟨g9, 0, none⟩)) (h10 : tmps.getD 10 undef = .pointer (some ⟨g10, 0, none⟩))
    (b8 : Blk w g8 [a, b, c] 58) (b9 : Blk w g9 [x] 3) (b10 : Blk w g10 [y] 28) : (results Tryz.f27 tmps).run Tryz.prog w = .ok (.tuple #[.agg #[a, b, c], x, y]) w := by
  have e8 : tmps[8]?.getD undef = .pointer (some ⟨g8, 0, none⟩) := by simpa using h8
  have e9 : tmps[9]?.getD undef = .pointer (some ⟨g9, 0, none⟩) := by simpa using h9
  have e10 : tmps[10]?.getD undef = .pointer (some ⟨g10, 0, none⟩) := by simpa using h10
  have c0 := b8.cell 0 _ rfl
  have c1 := b8.cell 1 _ rfl
  have c2 := b8.cell 2 _ rfl
  have d0 := b9.cell 0 _ rfl
  have d1 := b10.cell 0 _ rfl
  simp [results, Tryz.results27, e8, e9, e10, asAddr, go_sem, c0, c1, c2, d0, d1]
def RunOk (w : World) (e : Ending) (w' : World) : Prop :=
  ∃ A0 c0 kb cc A5 c5, e = .returned (.tuple #[.agg #[.int .i64 4, .slice A0 0 c0, .slice (some ⟨kb, 0, none⟩) 1 cc], .int .i64 7, .int .i64 0]) ∧ KidAt w' kb 0 ⟨#[120]⟩ 1 A5 2 c5 ∧ By w' (fun i => w.heap.size ≤ i) (.slice A5 2 c5) [97, 98] ∧ w.heap.size ≤ kb ∧ Keep All w w'
def RunOut (w : World) (e : Ending) (w' : World) : Prop :=
  e = .returned (.tuple #[.agg #[.int .i64 0, .slice none 0 0, .slice none 0 0], .int .i64 6, .int .i64 11]) ∧ Keep All w w'
theorem run27 (w : World) (G : Nat → Prop) (A : Option Addr) (c : Nat) (bb : List UInt8) (h : By w G (.slice A bb.length c) bb) (hl : bb.length ≤ 1000) (hops : getOps bb = .ok awakeOps) :
    Calls Tryz.prog 27 #[.slice A bb.length c, .agg ownCells.toArray, .slice none 0 0, .int .i64 7] w (RunOk w) := by
  have H := Fact.mk h
  have HO := Fact.mk hops
  clear h hops
  have hmf : ∀ (fn : Fn) (first cap : Array Value) (w : World), (Instr.makeFunc fn first cap).run Tryz.prog w = .ok (.func fn first cap) w := fun _ _ _ _ => rfl
  obtain ⟨oc, hoc⟩ : ∃ c, c = ownCells.toArray := ⟨_, rfl⟩
  rw [← hoc]
  go_enter_defers Tryz.func27, Tryz.ntmps27
  go_upto_region 1 with (fail)
  obtain ⟨W0, hW⟩ : ∃ X, X = ((((w.alloc (.cells ownCells.toArray 50)).alloc (.cells #[.int .i64 0, .slice none 0 0, .slice none 0 0] 58)).alloc (.cells #[.int .i64 0] 3)).alloc (.cells #[.int .i64 0] 28)) := ⟨_, rfl⟩
  rw [← hW]
  have KW : Fact (Keep All w W0) := ⟨hW ▸ ((((Keep.refl All w).alloc _).alloc _).alloc _).alloc _⟩
  have B5 : Fact (Blk W0 w.heap.size ownCells 50) := ⟨hW ▸ (((Blk.new w ownCells 50).alloc _).alloc _).alloc _⟩
  have B8 : Fact (Blk W0 (w.heap.size + 1) [.int .i64 0, .slice none 0 0, .slice none 0 0] 58) := ⟨by
    have := ((Blk.new (w.alloc (.cells ownCells.toArray 50)) [.int .i64 0, .slice none 0 0, .slice none 0 0] 58).alloc (.cells #[.int .i64 0] 3)).alloc (.cells #[.int .i64 0] 28)
    rw [World.size_alloc] at this
    rw [hW]; exact this⟩
  have B9 : Fact (Blk W0 (w.heap.size + 1 + 1) [.int .i64 0] 3) := ⟨by
    have := (Blk.new ((w.alloc (.cells ownCells.toArray 50)).alloc (.cells #[.int .i64 0, .slice none 0 0, .slice none 0 0] 58)) [.int .i64 0] 3).alloc (.cells #[.int .i64 0] 28)
    rw [World.size_alloc, World.size_alloc] at this
    rw [hW]; exact this⟩
  have B10 : Fact (Blk W0 (w.heap.size + 1 + 1 + 1) [.int .i64 0] 28) := ⟨by
    have := Blk.new (((w.alloc (.cells ownCells.toArray 50)).alloc (.cells #[.int .i64 0, .slice none 0 0, .slice none 0 0] 58)).alloc (.cells #[.int .i64 0] 3)) [.int .i64 0] 28
    rw [World.size_alloc, World.size_alloc, World.size_alloc] at this
    rw [hW]; exact this⟩
  clear hW
  have hbd : ∀ (w : World) (A : Option Addr) (n c bm : Nat), (Instr.build 143 #[(0, .agg #[.int .i64 0, .int .i64 7, .slice none 0 0]), (1, .slice A n c), (3, .agg ownCells.toArray), (4, .map (some bm))]).run Tryz.prog w = .ok (.agg (builderCells 7 (.slice A n c) bm).toArray) w := fun w A n c bm => build143 w 7 A n c bm
  have hmax : max (7 : Int) 0 = 7 := by decide
  go_upto_region 7 with (first
    | (go_at_call 13; go_must (refine (get13 _ G _ bb (H.out.keep KW.out.all) hl).mono ?_); rintro e W1 ⟨hg, hk⟩; rw [HO.out] at hg; obtain ⟨oA, oc2, he, hops⟩ := hg; subst he; have HOPS := Fact.mk hops; have KW1 := Fact.mk (KW.out.trans hk); have KW1S := Fact.mk hk.size; have C5 := Fact.mk (B5.out.keep hk trivial); have C8 := Fact.mk (B8.out.keep hk trivial); have C9 := Fact.mk (B9.out.keep hk trivial); have c10 := B10.out.keep hk trivial; have C10 := Fact.mk c10; have r10 := c10.cell 0 _ rfl; have f10 := c10.free 0; clear hk hops c10)
    | (refine wpList_load_mid rfl 50 (.tmp 5) rfl w.heap.size 0 ?hx ownCells _ ?hc Tryz.underlying50 ?hd ?hi ?hrest
       case hx => go_must (rfl)
       case hc => go_must (exact Blk.range (C5.out.other ⟨w.heap.size + 1 + 1 + 1, 0, none⟩ (by show w.heap.size ≠ w.heap.size + 1 + 1 + 1; omega) _))
       case hd => go_must (rfl)
       case hi => go_must (kernel_rfl))
    | (go_at_call 63; go_must (refine (had63 _).mono ?_); rintro e W2 ⟨⟨bm, rfl⟩, hk⟩; have hk0 := ((Keep.refl (fun i => i ≠ w.heap.size + 1 + 1 + 1) W1).setCell (p := ⟨w.heap.size + 1 + 1 + 1, 0, none⟩) (.inr fun h => h rfl) (.int .i64 0)).trans hk.all; have K12 := Fact.mk hk0; have D5 := Fact.mk (C5.out.keep hk0 (by show w.heap.size ≠ w.heap.size + 1 + 1 + 1; omega)); have D8 := Fact.mk (C8.out.keep hk0 (by show w.heap.size + 1 ≠ w.heap.size + 1 + 1 + 1; omega)); have D9 := Fact.mk (C9.out.keep hk0 (by show w.heap.size + 1 + 1 ≠ w.heap.size + 1 + 1 + 1; omega)); have D10 := Fact.mk ((C10.out.set 0 (.int .i64 0)).keep hk trivial); clear hk hk0))
  go_upto_region 8 with (first
    | (refine wpList_load_mid rfl 50 (.tmp 5) rfl w.heap.size 0 ?gx ownCells _ ?gc Tryz.underlying50 ?gd ?gi ?grest
       case gx => go_must (rfl)
       case gc => go_must (exact Blk.range D5.out)
       case gd => go_must (rfl)
       case gi => go_must (kernel_rfl))
    | (refine wpList_build rfl 143 _ rfl (.agg (builderCells 7 (.slice oA awakeOps.length oc2) bm).toArray) ?br ?brest
       case br => go_must (simp only [List.map_toArray, List.map_cons, List.map_nil]; exact hbd W2 oA awakeOps.length oc2 bm)
       generalize hBC : builderCells 7 (.slice oA awakeOps.length oc2) bm = BC))
  obtain ⟨X, hX⟩ : ∃ X, X = (W2.alloc (.cells BC.toArray 143)).alloc (.cells #[.pointer (some ⟨W2.heap.size, 0, none⟩)] 137) := ⟨_, rfl⟩
  rw [← hX]
  have KX : Fact (Keep All W2 X) := ⟨hX ▸ ((Keep.refl All W2).alloc _).alloc _⟩
  have BX : Fact (Blk X W2.heap.size BC 143) := ⟨hX ▸ (Blk.new W2 BC 143).alloc _⟩
  have B14 : Fact (Blk X (W2.heap.size + 1) [.pointer (some ⟨W2.heap.size, 0, none⟩)] 137) := ⟨by
    have := Blk.new (W2.alloc (.cells BC.toArray 143)) [.pointer (some ⟨W2.heap.size, 0, none⟩)] 137
    rw [World.size_alloc] at this
    rw [hX]; exact this⟩
  have s10 : w.heap.size + 1 + 1 + 1 < W0.heap.size := B10.out.lt
  have HXO : OpsR X (fun i => i < X.heap.size ∧ i ≠ W2.heap.size) (.slice oA awakeOps.length oc2) awakeOps :=
    ((((HOPS.out.mono (H := fun i => i ≠ w.heap.size + 1 + 1 + 1) fun i _ h => by omega).keep K12.out).mono (H := fun i => i < W2.heap.size) fun i h _ => h).keep KX.out.all).mono fun i h1 h2 => ⟨h1, by omega⟩
  obtain ⟨ob, off, oc3, T0, d0, T1, d1, T2, d2, hv, hoc3, o0, o1, o2⟩ := ops_at HXO
  injection hv with hv1 _ hv3
  subst hv1 hv3
  have HB : Fact (BlkB X W2.heap.size 0 7 (.slice none 0 0) (.slice (some ⟨ob, off, none⟩) 3 oc2) 0 (ownCells ++ [.map (some bm)])) := ⟨by
    have := BX.out
    rw [← hBC] at this
    exact this⟩
  have O0 := Fact.mk o0
  have O1 := Fact.mk o1
  have O2 := Fact.mk o2
  have s2 : W0.heap.size ≤ W2.heap.size := Nat.le_trans (KW1S.out) K12.out.size
  have E8 := Fact.mk (D8.out.keep KX.out trivial)
  have E9 := Fact.mk (D9.out.keep KX.out trivial)
  have E10 := Fact.mk (D10.out.keep KX.out trivial)
  have q14 := B14.out.cell 0 _ rfl
  have KEND : Fact (Keep (fun i => i < w.heap.size) w X) := ⟨((KW1.out.mono fun _ _ => trivial).trans (K12.out.mono fun i h => by show i ≠ _; omega)).trans KX.out.all⟩
  clear o0 o1 o2 HXO hX hBC BX D5 D8 D9 D10 C5 C8 C9 C10 B5 B8 B9 B10 HOPS KW KW1 KW1S K12 KX H HO hbd hmax hoc
  go_wp2_with (go_at_call 65; go_must (refine (build65_ok X W2.heap.size ob off oc2 (ownCells ++ [.map (some bm)]) T0 T1 T2 d0 d1 d2 HB.out hoc3 O0.out O1.out O2.out).mono ?_); rintro e W5 ⟨A0, c0, kb, cc, A5, c5, pv, rfl, hb5, hkid, hby, hkb, hk5⟩; have HB5 := Fact.mk hb5; have KID := Fact.mk hkid; have BY := Fact.mk hby; have HKB := Fact.mk hkb; have hx1 : W2.heap.size + 1 < X.heap.size := B14.out.lt; have e8 := E8.out.keep hk5 ⟨by omega, by omega⟩; have e9 := E9.out.keep hk5 ⟨by omega, by omega⟩; have e10 := E10.out.keep hk5 ⟨by omega, by omega⟩; have e14 := B14.out.keep hk5 ⟨by omega, by omega⟩; have F8 := Fact.mk e8; have F9 := Fact.mk e9; have F10 := Fact.mk e10; have F14 := Fact.mk e14; have K5 := Fact.mk (KEND.out.then_ hk5 fun i h1 h2 => ⟨by omega, by omega⟩); have r0 := e8.cell 0 _ rfl; have r1 := e8.cell 1 _ rfl; have r2 := e8.cell 2 _ rfl; have g0 := e8.free 0; have g1 := e8.free 1; have g2 := e8.free 2; clear hb5 hkid hby hkb e8 e9 e10 e14 hk5)
  have s3 : w.heap.size + 1 + 1 + 1 < W2.heap.size := by omega
  obtain ⟨Y, hY⟩ : ∃ Y, Y = set3 W5 (w.heap.size + 1) (.int .i64 4) (.slice A0 0 c0) (.slice (some ⟨kb, 0, none⟩) 1 cc) := ⟨_, rfl⟩
  rw [set3] at hY
  rw [← hY]
  rw [← set3] at hY
  have hk6 : Keep (fun i => i ≠ w.heap.size + 1) W5 Y := hY ▸ (Keep.refl _ W5).set3 _ (.inr fun h => h rfl) _ _ _
  have G8 : Fact (Blk Y (w.heap.size + 1) [.int .i64 4, .slice A0 0 c0, .slice (some ⟨kb, 0, none⟩) 1 cc] 58) := ⟨hY ▸ F8.out.set3 _ _ _⟩
  have G9 := Fact.mk (F9.out.keep hk6 (by show w.heap.size + 1 + 1 ≠ w.heap.size + 1; omega))
  have G10 := Fact.mk (F10.out.keep hk6 (by show w.heap.size + 1 + 1 + 1 ≠ w.heap.size + 1; omega))
  have G14 := Fact.mk (F14.out.keep hk6 (by show W2.heap.size + 1 ≠ w.heap.size + 1; omega))
  have GB := Fact.mk (Blk.keep HB5.out hk6 (by show W2.heap.size ≠ w.heap.size + 1; omega))
  have KID6 := Fact.mk (KID.out.keep hk6 (by have := HKB.out; have : W2.heap.size + 1 < X.heap.size := B14.out.lt; show kb ≠ w.heap.size + 1; omega))
  have BY6 := Fact.mk (BY.out.keep (hk6.mono (H := fun i => X.heap.size ≤ i) fun i h => by have : W2.heap.size + 1 < X.heap.size := B14.out.lt; show i ≠ w.heap.size + 1; omega))
  have K6 := Fact.mk (K5.out.trans (hk6.mono fun i h => by show i ≠ _; omega))
  clear hY hk6 r0 r1 r2 g0 g1 g2 F8 F9 F10 F14 HB5 KID BY K5
  have r0 := G8.out.cell 0 _ rfl
  have r1 := G8.out.cell 1 _ rfl
  have r2 := G8.out.cell 2 _ rfl
  have g0 := G8.out.free 0
  have g1 := G8.out.free 1
  have g2 := G8.out.free 2
  have r9 := G9.out.cell 0 _ rfl
  have g9 := G9.out.free 0
  have r10 := G10.out.cell 0 _ rfl
  have g10 := G10.out.free 0
  have r14 := G14.out.cell 0 _ rfl
  have rb : Y.cell? ⟨W2.heap.size, 0, none⟩ = some (.int .i64 7) := Blk.cell GB.out 0 _ rfl
  have n1 : W2.heap.size ≠ w.heap.size + 1 := by omega
  have n2 : W2.heap.size ≠ w.heap.size + 1 + 1 := by omega
  have n3 : W2.heap.size + 1 ≠ w.heap.size + 1 := by omega
  have n4 : W2.heap.size + 1 ≠ w.heap.size + 1 + 1 := by omega
  go_region
  obtain ⟨Z, hZ⟩ : ∃ Z, Z = (((set3 Y (w.heap.size + 1) (.int .i64 4) (.slice A0 0 c0) (.slice (some ⟨kb, 0, none⟩) 1 cc)).setCell ⟨w.heap.size + 1 + 1, 0, none⟩ (.int .i64 7)).setCell ⟨w.heap.size + 1 + 1 + 1, 0, none⟩ (.int .i64 0)).drew := ⟨_, rfl⟩
  rw [set3] at hZ
  rw [← hZ]
  rw [← set3] at hZ
  have hk7 : Keep (fun i => i < w.heap.size + 1 ∨ w.heap.size + 1 + 1 + 1 < i) Y Z := hZ ▸ ((((Keep.refl _ Y).set3 _ (.inr fun h => by omega) _ _ _).setCell (.inr fun h => by simp only at h; omega) _).setCell (.inr fun h => by simp only at h; omega) _).drew
  have Z8 : Fact (Blk Z (w.heap.size + 1) [.int .i64 4, .slice A0 0 c0, .slice (some ⟨kb, 0, none⟩) 1 cc] 58) := ⟨hZ ▸ (((G8.out.set3 _ _ _).other _ (by show w.heap.size + 1 ≠ w.heap.size + 1 + 1; omega) _).other _ (by show w.heap.size + 1 ≠ w.heap.size + 1 + 1 + 1; omega) _).drew⟩
  have Z9 : Fact (Blk Z (w.heap.size + 1 + 1) [.int .i64 7] 3) := ⟨by
    have h1 := G9.out.keep ((Keep.refl (fun i => i ≠ w.heap.size + 1) Y).set3 _ (.inr fun h => h rfl) (.int .i64 4) (.slice A0 0 c0) (.slice (some ⟨kb, 0, none⟩) 1 cc)) (by show w.heap.size + 1 + 1 ≠ w.heap.size + 1; omega)
    exact hZ ▸ ((h1.set 0 (.int .i64 7)).other _ (by show w.heap.size + 1 + 1 ≠ w.heap.size + 1 + 1 + 1; omega) _).drew⟩
  have Z10 : Fact (Blk Z (w.heap.size + 1 + 1 + 1) [.int .i64 0] 28) := ⟨by
    have h1 := G10.out.keep ((Keep.refl (fun i => i ≠ w.heap.size + 1) Y).set3 _ (.inr fun h => h rfl) (.int .i64 4) (.slice A0 0 c0) (.slice (some ⟨kb, 0, none⟩) 1 cc)) (by show w.heap.size + 1 + 1 + 1 ≠ w.heap.size + 1; omega)
    exact hZ ▸ ((h1.other _ (by show w.heap.size + 1 + 1 + 1 ≠ w.heap.size + 1 + 1; omega) _).set 0 (.int .i64 0)).drew⟩
  have z14 : Z.cell? ⟨W2.heap.size + 1, 0, none⟩ = some (.pointer (some ⟨W2.heap.size, 0, none⟩)) := hk7.cell (by right; show w.heap.size + 1 + 1 + 1 < W2.heap.size + 1; omega) r14
  have zb : Z.cell? ⟨W2.heap.size, 0, none⟩ = some (.int .i64 7) := hk7.cell (by right; show w.heap.size + 1 + 1 + 1 < W2.heap.size; omega) rb
  have z9 := Z9.out.cell 0 _ rfl
  have y9 := Z9.out.free 0
  have HK7 := Fact.mk hk7
  clear hZ hk7 r0 r1 r2 g0 g1 g2 r9 g9 r10 g10 r14 rb
  go_wp2
  refine leaves_cons (f := 64) (args := #[.pointer (some ⟨W2.heap.size + 1, 0, none⟩), .pointer (some ⟨w.heap.size + 1 + 1, 0, none⟩), .pointer (some ⟨w.heap.size + 1 + 1 + 1, 0, none⟩), .pointer (some ⟨w.heap.size + 1, 0, none⟩)]) (by simp) (by simp [go_sem]) ?_
  refine (rec64_idle Z W2.heap.size 7 (W2.heap.size + 1) (w.heap.size + 1 + 1) (w.heap.size + 1 + 1 + 1) (w.heap.size + 1) 7 z14 zb z9 y9).mono ?_
  rintro e u w'' ⟨rfl, rfl, rfl⟩
  have k9 := (Keep.refl (fun i => i ≠ w.heap.size + 1 + 1) Z).setCell (p := ⟨w.heap.size + 1 + 1, 0, none⟩) (.inr fun h => h rfl) (.int .i64 7)
  have hkb := HKB.out
  have hx1 : W2.heap.size + 1 < X.heap.size := B14.out.lt
  refine ⟨_, results_27 _ _ (w.heap.size + 1) (w.heap.size + 1 + 1) (w.heap.size + 1 + 1 + 1) _ _ _ _ _ rfl rfl rfl (Z8.out.other _ (by show w.heap.size + 1 ≠ w.heap.size + 1 + 1; omega) _) (Z9.out.set 0 (.int .i64 7)) (Z10.out.other _ (by show w.heap.size + 1 + 1 + 1 ≠ w.heap.size + 1 + 1; omega) _), ?_⟩
  refine ⟨A0, c0, kb, cc, A5, c5, rfl, (KID6.out.keep HK7.out (by right; omega)).keep k9 (by show kb ≠ _; omega), ?_, by omega, ?_⟩
  · exact ((BY6.out.keep (HK7.out.mono fun i h => by right; omega)).keep (k9.mono fun i h => by show i ≠ w.heap.size + 1 + 1; omega)).mono fun i _ h => by omega
  · exact (((Keep.refl All w).then_ K6.out fun i hi _ => hi).then_ HK7.out fun i hi _ => .inl (by omega)).then_ k9 fun i hi _ => by show i ≠ w.heap.size + 1 + 1; omega
end Go.Proofs.YtddmbdigdnmfgaaGreatDoor

namespace Go.Proofs.YtddmbdigdnmfgaaGreatDoor
open Go.RowKit
set_option maxHeartbeats 1000000
set_option maxRecDepth 100000

theorem run27_out (w : World) (G : Nat → Prop) (A : Option Addr) (c : Nat) (bb : List UInt8) (h : By w G (.slice A bb.length c) bb) (hl : bb.length ≤ 1000) (hops : getOps bb = .ok awakeOps) :
    Calls Tryz.prog 27 #[.slice A bb.length c, .agg ownCells.toArray, .slice none 0 0, .int .i64 6] w (RunOut w) := by
  have H := Fact.mk h
  have HO := Fact.mk hops
  clear h hops
  have hmf : ∀ (fn : Fn) (first cap : Array Value) (w : World), (Instr.makeFunc fn first cap).run Tryz.prog w = .ok (.func fn first cap) w := fun _ _ _ _ => rfl
  obtain ⟨oc, hoc⟩ : ∃ c, c = ownCells.toArray := ⟨_, rfl⟩
  rw [← hoc]
  go_enter_defers Tryz.func27, Tryz.ntmps27
  go_upto_region 1 with (fail)
  obtain ⟨W0, hW⟩ : ∃ X, X = ((((w.alloc (.cells ownCells.toArray 50)).alloc (.cells #[.int .i64 0, .slice none 0 0, .slice none 0 0] 58)).alloc (.cells #[.int .i64 0] 3)).alloc (.cells #[.int .i64 0] 28)) := ⟨_, rfl⟩
  rw [← hW]
  have KW : Fact (Keep All w W0) := ⟨hW ▸ ((((Keep.refl All w).alloc _).alloc _).alloc _).alloc _⟩
  have B5 : Fact (Blk W0 w.heap.size ownCells 50) := ⟨hW ▸ (((Blk.new w ownCells 50).alloc _).alloc _).alloc _⟩
  have B8 : Fact (Blk W0 (w.heap.size + 1) [.int .i64 0, .slice none 0 0, .slice none 0 0] 58) := ⟨by
    have := ((Blk.new (w.alloc (.cells ownCells.toArray 50)) [.int .i64 0, .slice none 0 0, .slice none 0 0] 58).alloc (.cells #[.int .i64 0] 3)).alloc (.cells #[.int .i64 0] 28)
    rw [World.size_alloc] at this
    rw [hW]; exact this⟩
  have B9 : Fact (Blk W0 (w.heap.size + 1 + 1) [.int .i64 0] 3) := ⟨by
    have := (Blk.new ((w.alloc (.cells ownCells.toArray 50)).alloc (.cells #[.int .i64 0, .slice none 0 0, .slice none 0 0] 58)) [.int .i64 0] 3).alloc (.cells #[.int .i64 0] 28)
    rw [World.size_alloc, World.size_alloc] at this
    rw [hW]; exact this⟩
  have B10 : Fact (Blk W0 (w.heap.size + 1 + 1 + 1) [.int .i64 0] 28) := ⟨by
    have := Blk.new (((w.alloc (.cells ownCells.toArray 50)).alloc (.cells #[.int .i64 0, .slice none 0 0, .slice none 0 0] 58)).alloc (.cells #[.int .i64 0] 3)) [.int .i64 0] 28
    rw [World.size_alloc, World.size_alloc, World.size_alloc] at this
    rw [hW]; exact this⟩
  clear hW
  have hbd : ∀ (w : World) (A : Option Addr) (n c bm : Nat), (Instr.build 143 #[(0, .agg #[.int .i64 0, .int .i64 6, .slice none 0 0]), (1, .slice A n c), (3, .agg ownCells.toArray), (4, .map (some bm))]).run Tryz.prog w = .ok (.agg (builderCells 6 (.slice A n c) bm).toArray) w := fun w A n c bm => build143 w 6 A n c bm
  have hmax : max (6 : Int) 0 = 6 := by decide
  go_upto_region 7 with (first
    | (go_at_call 13; go_must (refine (get13 _ G _ bb (H.out.keep KW.out.all) hl).mono ?_); rintro e W1 ⟨hg, hk⟩; rw [HO.out] at hg; obtain ⟨oA, oc2, he, hops⟩ := hg; subst he; have HOPS := Fact.mk hops; have KW1 := Fact.mk (KW.out.trans hk); have KW1S := Fact.mk hk.size; have C5 := Fact.mk (B5.out.keep hk trivial); have C8 := Fact.mk (B8.out.keep hk trivial); have C9 := Fact.mk (B9.out.keep hk trivial); have c10 := B10.out.keep hk trivial; have C10 := Fact.mk c10; have r10 := c10.cell 0 _ rfl; have f10 := c10.free 0; clear hk hops c10)
    | (refine wpList_load_mid rfl 50 (.tmp 5) rfl w.heap.size 0 ?hx ownCells _ ?hc Tryz.underlying50 ?hd ?hi ?hrest
       case hx => go_must (rfl)
       case hc => go_must (exact Blk.range (C5.out.other ⟨w.heap.size + 1 + 1 + 1, 0, none⟩ (by show w.heap.size ≠ w.heap.size + 1 + 1 + 1; omega) _))
       case hd => go_must (rfl)
       case hi => go_must (kernel_rfl))
    | (go_at_call 63; go_must (refine (had63 _).mono ?_); rintro e W2 ⟨⟨bm, rfl⟩, hk⟩; have hk0 := ((Keep.refl (fun i => i ≠ w.heap.size + 1 + 1 + 1) W1).setCell (p := ⟨w.heap.size + 1 + 1 + 1, 0, none⟩) (.inr fun h => h rfl) (.int .i64 0)).trans hk.all; have K12 := Fact.mk hk0; have D5 := Fact.mk (C5.out.keep hk0 (by show w.heap.size ≠ w.heap.size + 1 + 1 + 1; omega)); have D8 := Fact.mk (C8.out.keep hk0 (by show w.heap.size + 1 ≠ w.heap.size + 1 + 1 + 1; omega)); have D9 := Fact.mk (C9.out.keep hk0 (by show w.heap.size + 1 + 1 ≠ w.heap.size + 1 + 1 + 1; omega)); have D10 := Fact.mk ((C10.out.set 0 (.int .i64 0)).keep hk trivial); clear hk hk0))
  go_upto_region 8 with (first
    | (refine wpList_load_mid rfl 50 (.tmp 5) rfl w.heap.size 0 ?gx ownCells _ ?gc Tryz.underlying50 ?gd ?gi ?grest
       case gx => go_must (rfl)
       case gc => go_must (exact Blk.range D5.out)
       case gd => go_must (rfl)
       case gi => go_must (kernel_rfl))
    | (refine wpList_build rfl 143 _ rfl (.agg (builderCells 6 (.slice oA awakeOps.length oc2) bm).toArray) ?br ?brest
       case br => go_must (simp only [List.map_toArray, List.map_cons, List.map_nil]; exact hbd W2 oA awakeOps.length oc2 bm)
       generalize hBC : builderCells 6 (.slice oA awakeOps.length oc2) bm = BC))
  obtain ⟨X, hX⟩ : ∃ X, X = (W2.alloc (.cells BC.toArray 143)).alloc (.cells #[.pointer (some ⟨W2.heap.size, 0, none⟩)] 137) := ⟨_, rfl⟩
  rw [← hX]
  have KX : Fact (Keep All W2 X) := ⟨hX ▸ ((Keep.refl All W2).alloc _).alloc _⟩
  have BX : Fact (Blk X W2.heap.size BC 143) := ⟨hX ▸ (Blk.new W2 BC 143).alloc _⟩
  have B14 : Fact (Blk X (W2.heap.size + 1) [.pointer (some ⟨W2.heap.size, 0, none⟩)] 137) := ⟨by
    have := Blk.new (W2.alloc (.cells BC.toArray 143)) [.pointer (some ⟨W2.heap.size, 0, none⟩)] 137
    rw [World.size_alloc] at this
    rw [hX]; exact this⟩
  have s10 : w.heap.size + 1 + 1 + 1 < W0.heap.size := B10.out.lt
  have HXO : OpsR X (fun i => i < X.heap.size ∧ i ≠ W2.heap.size) (.slice oA awakeOps.length oc2) awakeOps :=
    ((((HOPS.out.mono (H := fun i => i ≠ w.heap.size + 1 + 1 + 1) fun i _ h => by omega).keep K12.out).mono (H := fun i => i < W2.heap.size) fun i h _ => h).keep KX.out.all).mono fun i h1 h2 => ⟨h1, by omega⟩
  obtain ⟨ob, off, oc3, T0, d0, T1, d1, T2, d2, hv, hoc3, o0, o1, o2⟩ := ops_at HXO
  injection hv with hv1 _ hv3
  subst hv1 hv3
  have HB : Fact (BlkB X W2.heap.size 0 6 (.slice none 0 0) (.slice (some ⟨ob, off, none⟩) 3 oc2) 0 (ownCells ++ [.map (some bm)])) := ⟨by
    have := BX.out
    rw [← hBC] at this
    exact this⟩
  have O0 := Fact.mk o0
  have O1 := Fact.mk o1
  have O2 := Fact.mk o2
  have s2 : W0.heap.size ≤ W2.heap.size := Nat.le_trans (KW1S.out) K12.out.size
  have E8 := Fact.mk (D8.out.keep KX.out trivial)
  have E9 := Fact.mk (D9.out.keep KX.out trivial)
  have E10 := Fact.mk (D10.out.keep KX.out trivial)
  have q14 := B14.out.cell 0 _ rfl
  have KEND : Fact (Keep (fun i => i < w.heap.size) w X) := ⟨((KW1.out.mono fun _ _ => trivial).trans (K12.out.mono fun i h => by show i ≠ _; omega)).trans KX.out.all⟩
  clear o0 o1 o2 HXO hX hBC BX D5 D8 D9 D10 C5 C8 C9 C10 B5 B8 B9 B10 HOPS KW KW1 KW1S K12 KX H HO hbd hmax hoc
  go_wp2_with (go_at_call 65; go_must (refine (build65_out X W2.heap.size ob off oc2 (ownCells ++ [.map (some bm)]) T0 T1 T2 d0 d1 d2 HB.out hoc3 O0.out O1.out O2.out).mono ?_); rintro e W5 ⟨he, pv, hb5, hk5⟩; unfold outOfFuel at he; subst he; dsimp only; have HB5 := Fact.mk hb5; have hx1 : W2.heap.size + 1 < X.heap.size := B14.out.lt; have e8 := E8.out.keep hk5 ⟨by omega, by omega⟩; have e9 := E9.out.keep hk5 ⟨by omega, by omega⟩; have e10 := E10.out.keep hk5 ⟨by omega, by omega⟩; have e14 := B14.out.keep hk5 ⟨by omega, by omega⟩; have F8 := Fact.mk e8; have F9 := Fact.mk e9; have F10 := Fact.mk e10; have F14 := Fact.mk e14; have K5 := Fact.mk (KEND.out.then_ hk5 fun i h1 h2 => ⟨by omega, by omega⟩); clear hb5 e8 e9 e10 e14 hk5)
  have s3 : w.heap.size + 1 + 1 + 1 < W2.heap.size := by omega
  have z14 := F14.out.cell 0 _ rfl
  have zb : W5.cell? ⟨W2.heap.size, 0, none⟩ = some (.int .i64 (6 : Nat)) := Blk.cell HB5.out 0 _ rfl
  refine leaves_cons (f := 64) (args := #[.pointer (some ⟨W2.heap.size + 1, 0, none⟩), .pointer (some ⟨w.heap.size + 1 + 1, 0, none⟩), .pointer (some ⟨w.heap.size + 1 + 1 + 1, 0, none⟩), .pointer (some ⟨w.heap.size + 1, 0, none⟩)]) (by simp) (by simp [go_sem]) ?_
  refine (rec64_panic W5 W2.heap.size 6 (W2.heap.size + 1) (w.heap.size + 1 + 1) (w.heap.size + 1 + 1 + 1) (w.heap.size + 1) 0 0 _ _ _ [] z14 zb (F9.out.cell 0 _ rfl) (F9.out.free 0) (F10.out.cell 0 _ rfl) (F10.out.free 0) F8.out (by omega) (by omega) (by omega)).mono ?_
  rintro e u w'' ⟨rfl, rfl, rfl⟩
  have n1 : w.heap.size + 1 ≠ w.heap.size + 1 + 1 := by omega
  have n2 : w.heap.size + 1 ≠ w.heap.size + 1 + 1 + 1 := by omega
  have n3 : w.heap.size + 1 + 1 ≠ w.heap.size + 1 + 1 + 1 := by omega
  have k9 := (((Keep.refl (fun i => i < w.heap.size) W5).setCell (p := ⟨w.heap.size + 1 + 1, 0, none⟩) (.inr fun h => by simp only at h; omega) (.int .i64 6)).setCell (p := ⟨w.heap.size + 1 + 1 + 1, 0, none⟩) (.inr fun h => by simp only at h; omega) (.int .i64 11)).set3 (w.heap.size + 1) (.inr fun h => by omega) (.int .i64 0) (.slice none 0 0) (.slice none 0 0)
  refine ⟨_, results_27 _ _ (w.heap.size + 1) (w.heap.size + 1 + 1) (w.heap.size + 1 + 1 + 1) _ _ _ _ _ rfl rfl rfl (((F8.out.other _ n1 _).other _ n2 _).set3 _ _ _) (((F9.out.set 0 (.int .i64 6)).other _ n3 _).other3 _ n1.symm _ _ _) (((F10.out.other _ n3.symm _).set 0 (.int .i64 11)).other3 _ n2.symm _ _ _), ?_⟩
  exact ⟨rfl, ((Keep.refl All w).then_ K5.out fun i hi _ => hi).then_ k9 fun i hi _ => hi⟩
end Go.Proofs.YtddmbdigdnmfgaaGreatDoor
