/- Walks of this seat, packed. -/
import Derived.Test.YtddmbdigdnmfgaaGreatDoorQRec7
import Derived.Test.YtddmbdigdnmfgaaGreatDoorQPass
namespace Go.Proofs.YtddmbdigdnmfgaaGreatDoor
open Go.RowKit
set_option maxHeartbeats 1000000
set_option maxRecDepth 100000

/-- One operation's four cells from ⟨ob, o⟩ on. -/
structure OpAt (w : World) (G : Nat → Prop) (ob o : Nat) (k : Int) (t : List UInt8) (A : Option Addr) (c : Nat) : Prop where
  kind : w.cell? ⟨ob, o, none⟩ = some (.int .i64 k)
  n : w.cell? ⟨ob, o + 1, none⟩ = some (.int .i64 0)
  m : w.cell? ⟨ob, o + 2, none⟩ = some (.int .i64 0)
  text : w.cell? ⟨ob, o + 3, none⟩ = some (.slice A t.length c)
  by_ : By w G (.slice A t.length c) t
  own : G ob
theorem OpAt.keep {w w' : World} {G : Nat → Prop} {ob o c : Nat} {k : Int} {t : List UInt8} {A : Option Addr} (h : OpAt w G ob o k t A c) (hk : Keep G w w') : OpAt w' G ob o k t A c :=
  ⟨hk.cell (p := ⟨ob, o, none⟩) h.own h.kind, hk.cell (p := ⟨ob, o + 1, none⟩) h.own h.n, hk.cell (p := ⟨ob, o + 2, none⟩) h.own h.m, hk.cell (p := ⟨ob, o + 3, none⟩) h.own h.text, h.by_.keep hk, h.own⟩

theorem scope_passes {P : Program} {c rest : Code} {Q : Exit → Act → World → Prop} {a : Act} {w : World} (l n : Nat) (hf : findLabel c l = some rest)
    (first : ∀ J : Act → World → Prop, Fact (∀ a w, Pass P rest l Q n a w → J a w) → c.wp P (Exit.jump l J Q) a w) : (Code.scope c).wp P Q a w := wp_scope_passes l n hf (first _ ⟨fun _ _ h => h⟩)
theorem pass_succ {P : Program} {rest : Code} {Q : Exit → Act → World → Prop} {a : Act} {w : World} {l n : Nat}
    (h : ∀ J : Act → World → Prop, Fact (∀ a w, Pass P rest l Q n a w → J a w) → rest.wp P (Exit.jump l J Q) a w) : Pass P rest l Q (n + 1) a w := h _ ⟨fun _ _ h => h⟩
end Go.Proofs.YtddmbdigdnmfgaaGreatDoor

namespace Go.Proofs.YtddmbdigdnmfgaaGreatDoor
open Go.RowKit
set_option maxHeartbeats 4000000
set_option maxRecDepth 100000

def BuildOut (w : World) (p : Nat) (ov : Value) (rest : List Value) (e : Ending) (w' : World) : Prop := e = outOfFuel ∧ ∃ pv, BlkB w' p 6 6 pv ov 3 rest ∧ Keep (fun i => i < w.heap.size ∧ i ≠ p) w w'

def BuildOk (w : World) (p : Nat) (ov : Value) (rest : List Value) (e : Ending) (w' : World) : Prop :=
  ∃ A0 c0 kb cc A5 c5 pv, e = .returned (.agg #[.int .i64 4, .slice A0 0 c0, .slice (some ⟨kb, 0, none⟩) 1 cc]) ∧ BlkB w' p 7 7 pv ov 3 rest ∧ KidAt w' kb 0 ⟨#[120]⟩ 1 A5 2 c5 ∧ By w' (fun i => w.heap.size ≤ i) (.slice A5 2 c5) [97, 98] ∧ w.heap.size ≤ kb ∧ Keep (fun i => i < w.heap.size ∧ i ≠ p) w w'

theorem build65_ok (w : World) (p ob off oc : Nat) (rest : List Value) (T0 T1 T2 : Option Addr) (d0 d1 d2 : Nat)
    (h : BlkB w p 0 7 (.slice none 0 0) (.slice (some ⟨ob, off, none⟩) 3 oc) 0 rest) (_hoc : 3 ≤ oc)
    (h0 : OpAt w (fun i => i < w.heap.size ∧ i ≠ p) ob (off + 0 * 4) 4 [] T0 d0) (h1 : OpAt w (fun i => i < w.heap.size ∧ i ≠ p) ob (off + 1 * 4) 1 [97, 98] T1 d1) (h2 : OpAt w (fun i => i < w.heap.size ∧ i ≠ p) ob (off + 2 * 4) 5 [120] T2 d2) :
    Calls Tryz.prog 65 #[.pointer (some ⟨p, 0, none⟩)] w (BuildOk w p (.slice (some ⟨ob, off, none⟩) 3 oc) rest) := by
  have H := Fact.mk h
  have P0 := Fact.mk h0
  have P1 := Fact.mk h1
  have P2 := Fact.mk h2
  have hlt := h.lt
  clear h h0 h1 h2
  go_enter Tryz.func65, Tryz.ntmps65
  go_wp2
  refine scope_passes 0 4 rfl fun J hJ => ?_
  go_wp2
  go_step3
  obtain ⟨S0, hW⟩ : ∃ W, W = w.alloc (.cells #[.int .i64 0, .slice none 0 0, .slice none 0 0] 58) := ⟨_, rfl⟩
  rw [← hW]
  have KA : Fact (Keep All w S0) := ⟨hW ▸ (Keep.refl All w).alloc _⟩
  have BS : Fact (Blk S0 w.heap.size [.int .i64 0, .slice none 0 0, .slice none 0 0] 58) := ⟨hW ▸ Blk.new w [.int .i64 0, .slice none 0 0, .slice none 0 0] 58⟩
  have HS0 : Fact (BlkB S0 p 0 7 (.slice none 0 0) (.slice (some ⟨ob, off, none⟩) 3 oc) 0 rest) := ⟨Blk.keep H.out KA.out trivial⟩
  have SS : Fact (w.heap.size + 1 ≤ S0.heap.size) := ⟨BS.out.lt⟩
  have P0S := Fact.mk ((P0.out.keep KA.out.all))
  have P1S := Fact.mk ((P1.out.keep KA.out.all))
  have P2S := Fact.mk ((P2.out.keep KA.out.all))
  have KW := Fact.mk (KA.out.mono (H := fun i => i < w.heap.size ∧ i ≠ p) fun _ _ => trivial)
  clear hW KA P0 P1 P2 H
  have c3 := Blk.cell HS0.out 3 _ rfl
  have c4 : S0.cell? ⟨p, 4, none⟩ = some (.int .i64 0) := Blk.cell HS0.out 4 _ rfl
  go_wp2_with fail
  go_quiet (fail)
  go_wp2_with fail
  obtain ⟨V0, hV⟩ : ∃ V, V = S0.drewN nq := ⟨_, rfl⟩
  rw [← hV]
  have KV : Fact (Keep All S0 V0) := ⟨hV ▸ (Keep.refl _ _).drewN nq⟩
  have HV : Fact (BlkB V0 p 0 7 (.slice none 0 0) (.slice (some ⟨ob, off, none⟩) 3 oc) 0 rest) := ⟨hV ▸ Blk.drewN HS0.out nq⟩
  clear hV c3 c4
  have c3 := Blk.cell HV.out 3 _ rfl
  have c4 : V0.cell? ⟨p, 4, none⟩ = some (.int .i64 0) := Blk.cell HV.out 4 _ rfl
  have PV := Fact.mk (P0S.out.keep KV.out.all)
  have q0 : V0.cell? ⟨ob, off, none⟩ = some (.int .i64 4) := PV.out.kind
  have q1 : V0.cell? ⟨ob, off + 1, none⟩ = some (.int .i64 0) := PV.out.n
  have q2 : V0.cell? ⟨ob, off + 2, none⟩ = some (.int .i64 0) := PV.out.m
  have q3 : V0.cell? ⟨ob, off + 3, none⟩ = some (.slice T0 0 d0) := PV.out.text
  go_region_held3 (fun w' => w'.cell? ⟨p, 3, none⟩ = some (.slice (some ⟨ob, off, none⟩) 3 oc) ∧ w'.cell? ⟨p, 4, none⟩ = some (.int .i64 0) ∧ w'.cell? ⟨ob, off, none⟩ = some (.int .i64 4) ∧ w'.cell? ⟨ob, off + 1, none⟩ = some (.int .i64 0) ∧ w'.cell? ⟨ob, off + 2, none⟩ = some (.int .i64 0) ∧ w'.cell? ⟨ob, off + 3, none⟩ = some (.slice T0 0 d0)) (go_keep) (fail)
  obtain ⟨U0, hU⟩ : ∃ U, U = (V0.alloc (.cells #[.int .i64 4, .int .i64 0, .int .i64 0, .slice T0 0 d0] 25)).drew := ⟨_, rfl⟩
  rw [← hU]
  have KU : Fact (Keep All S0 U0) := ⟨hU ▸ (KV.out.alloc _).drew⟩
  have HU : Fact (BlkB U0 p 0 7 (.slice none 0 0) (.slice (some ⟨ob, off, none⟩) 3 oc) 0 rest) := ⟨hU ▸ (Blk.alloc HV.out _).drew⟩
  have TU : Fact (Blk U0 V0.heap.size [.int .i64 4, .int .i64 0, .int .i64 0, .slice T0 0 d0] 25) := ⟨hU ▸ (Blk.new V0 [.int .i64 4, .int .i64 0, .int .i64 0, .slice T0 0 d0] 25).drew⟩
  have SV : Fact (p < V0.heap.size ∧ S0.heap.size ≤ V0.heap.size) := ⟨Blk.lt HV.out, KV.out.size⟩
  clear hU c3 c4 q0 q1 q2 q3 HV PV KV
  have f4 := Blk.free HU.out 4
  have c4 : U0.cell? ⟨p, 4, none⟩ = some (.int .i64 0) := Blk.cell HU.out 4 _ rfl
  go_wp2_with (first
    | (go_at_call 112; go_must (refine (spend112 _ p 0 7 1 1 _ _ rest (Blk.set HU.out 4 (.int .i64 ((1 : Nat) : Int))) (Small.of (by decide)) (by decide)).mono ?_); rintro e w01 ⟨rfl, h1, hk⟩; have H1 := Fact.mk h1; have K1 := Fact.mk (((Keep.refl (fun i => i ≠ p) U0).setCell (p := ⟨p, 4, none⟩) (.inr fun h => h rfl) (.int .i64 ((1 : Nat) : Int))).trans hk); have t1 := TU.out.keep K1.out (by have := SV.out; show V0.heap.size ≠ p; omega); have TT := Fact.mk t1; have t10 := t1.cell 0 _ rfl; have t11 := t1.cell 1 _ rfl; have t12 := t1.cell 2 _ rfl; have t13 := t1.cell 3 _ rfl; clear h1 hk t1)
    | (go_at_call 116; go_must (refine (own116_4 w01 p 1 7 1 0 (w.heap.size + 1) 0 none _ rest [] 0 0 T0 d0 H1.out (World.ownsRow_nil _ _ _ _) (by have := K1.out.size; have := KU.out.size; have := SS.out; omega) (by omega) (by decide) (Small.of (by decide)) (by decide)).mono ?_); rintro e S1 ⟨rfl, A1, c1, h2, hr2, hm2, hk2⟩; have HS1 := Fact.mk h2; have RS1 := Fact.mk hr2; have K2 := Fact.mk ((((Keep.refl (fun i => i < w.heap.size + 1 ∧ i ≠ p) S0).trans KU.out.all).trans (K1.out.mono fun i h => h.2)).trans (hk2.mono fun i h => ⟨h.2, fun e => by cases e⟩)); clear h2 hr2 hm2 hk2))
  go_step3
  refine ⟨rfl, hJ.out _ _ (pass_succ fun J1 hJ1 => ?_)⟩
  have SSN : Fact (w.heap.size + 1 ≤ S1.heap.size) := ⟨Nat.le_trans SS.out K2.out.size⟩
  have BSN := Fact.mk (BS.out.keep K2.out ⟨by omega, by omega⟩)
  have P1S := Fact.mk (P1S.out.keep (K2.out.mono fun i h => ⟨by omega, h.2⟩))
  have P2S := Fact.mk (P2S.out.keep (K2.out.mono fun i h => ⟨by omega, h.2⟩))
  have KWN := Fact.mk (KW.out.trans (K2.out.mono fun i h => ⟨by omega, h.2⟩))
  clear SS BS P0S KW HS0 KU HU TU SV f4 c4 K1 H1 TT t10 t11 t12 t13 hJ K2
  have SS := SSN
  have BS := BSN
  have KW := KWN
  clear SSN BSN KWN
  have c3 := Blk.cell HS1.out 3 _ rfl
  have c4 : S1.cell? ⟨p, 4, none⟩ = some (.int .i64 1) := Blk.cell HS1.out 4 _ rfl
  go_wp2_with fail
  go_quiet (fail)
  go_wp2_with fail
  obtain ⟨V1, hV⟩ : ∃ V, V = S1.drewN nq := ⟨_, rfl⟩
  rw [← hV]
  have KV : Fact (Keep All S1 V1) := ⟨hV ▸ (Keep.refl _ _).drewN nq⟩
  have HV : Fact (BlkB V1 p 2 7 (.slice A1 1 c1) (.slice (some ⟨ob, off, none⟩) 3 oc) 1 rest) := ⟨hV ▸ Blk.drewN HS1.out nq⟩
  clear hV c3 c4
  have c3 := Blk.cell HV.out 3 _ rfl
  have c4 : V1.cell? ⟨p, 4, none⟩ = some (.int .i64 1) := Blk.cell HV.out 4 _ rfl
  have PV := Fact.mk (P1S.out.keep KV.out.all)
  have q0 : V1.cell? ⟨ob, off + 4, none⟩ = some (.int .i64 1) := PV.out.kind
  have q1 : V1.cell? ⟨ob, off + 5, none⟩ = some (.int .i64 0) := PV.out.n
  have q2 : V1.cell? ⟨ob, off + 6, none⟩ = some (.int .i64 0) := PV.out.m
  have q3 : V1.cell? ⟨ob, off + 7, none⟩ = some (.slice T1 2 d1) := PV.out.text
  go_region_held3 (fun w' => w'.cell? ⟨p, 3, none⟩ = some (.slice (some ⟨ob, off, none⟩) 3 oc) ∧ w'.cell? ⟨p, 4, none⟩ = some (.int .i64 1) ∧ w'.cell? ⟨ob, off + 4, none⟩ = some (.int .i64 1) ∧ w'.cell? ⟨ob, off + 5, none⟩ = some (.int .i64 0) ∧ w'.cell? ⟨ob, off + 6, none⟩ = some (.int .i64 0) ∧ w'.cell? ⟨ob, off + 7, none⟩ = some (.slice T1 2 d1)) (go_keep) (fail)
  obtain ⟨U1, hU⟩ : ∃ U, U = (V1.alloc (.cells #[.int .i64 1, .int .i64 0, .int .i64 0, .slice T1 2 d1] 25)).drew := ⟨_, rfl⟩
  rw [← hU]
  have KU : Fact (Keep All S1 U1) := ⟨hU ▸ (KV.out.alloc _).drew⟩
  have HU : Fact (BlkB U1 p 2 7 (.slice A1 1 c1) (.slice (some ⟨ob, off, none⟩) 3 oc) 1 rest) := ⟨hU ▸ (Blk.alloc HV.out _).drew⟩
  have TU : Fact (Blk U1 V1.heap.size [.int .i64 1, .int .i64 0, .int .i64 0, .slice T1 2 d1] 25) := ⟨hU ▸ (Blk.new V1 [.int .i64 1, .int .i64 0, .int .i64 0, .slice T1 2 d1] 25).drew⟩
  have SV : Fact (p < V1.heap.size ∧ S1.heap.size ≤ V1.heap.size) := ⟨Blk.lt HV.out, KV.out.size⟩
  clear hU c3 c4 q0 q1 q2 q3 HV PV KV
  have f4 := Blk.free HU.out 4
  have c4 : U1.cell? ⟨p, 4, none⟩ = some (.int .i64 1) := Blk.cell HU.out 4 _ rfl
  go_wp2_with (first
    | (go_at_call 112; go_must (refine (spend112 _ p 2 7 1 2 _ _ rest (Blk.set HU.out 4 (.int .i64 ((2 : Nat) : Int))) (Small.of (by decide)) (by decide)).mono ?_); rintro e w11 ⟨rfl, h1, hk⟩; have H1 := Fact.mk h1; have K1 := Fact.mk (((Keep.refl (fun i => i ≠ p) U1).setCell (p := ⟨p, 4, none⟩) (.inr fun h => h rfl) (.int .i64 ((2 : Nat) : Int))).trans hk); have t1 := TU.out.keep K1.out (by have := SV.out; show V1.heap.size ≠ p; omega); have TT := Fact.mk t1; have t10 := t1.cell 0 _ rfl; have t11 := t1.cell 1 _ rfl; have t12 := t1.cell 2 _ rfl; have t13 := t1.cell 3 _ rfl; clear h1 hk t1)
    | (go_at_call 116; go_must (refine (own116_1 w11 (fun i => i < w.heap.size ∧ i ≠ p) p 3 7 2 1 (w.heap.size + 1) c1 A1 _ rest [.int .i64 4, .slice none 0 0, .slice none 0 0] 0 0 [97, 98] T1 d1 H1.out (own_keep RS1.out (G := fun i => i ≠ p) (KU.out.all.trans K1.out) (fun g hg => by have := (RS1.out.lt g hg).1; omega)) (by have := K1.out.size; have := KU.out.size; have := SS.out; omega) (by omega) (by decide) (P1S.out.by_.keep ((KU.out.all.trans K1.out).mono fun i h => h.2)) (Small.of (by decide)) (by decide) (Small.of (by decide)) (by decide)).mono ?_); rintro e S2 ⟨rfl, A2, c2, A3, c3, h2, hr2, hb2, hm2, hk2⟩; have HS2 := Fact.mk h2; have RS2 := Fact.mk hr2; have B2 := Fact.mk hb2; have hpo := (fun g hg => (RS1.out.lt g hg).1 : ∀ g, (Value.slice A1 1 c1).ownBlock = some g → w.heap.size + 1 ≤ g); have K2 := Fact.mk ((((Keep.refl (fun i => i < w.heap.size + 1 ∧ i ≠ p) S1).trans KU.out.all).trans (K1.out.mono fun i h => h.2)).trans (hk2.mono fun i h => ⟨h.2, fun e => by have := hpo i e; omega⟩)); have W11 := Fact.mk (show w.heap.size < w11.heap.size from by have := K1.out.size; have := KU.out.size; have := SS.out; omega); clear h2 hr2 hb2 hm2 hk2 hpo))
  go_step3
  refine ⟨rfl, hJ1.out _ _ (pass_succ fun J2 hJ2 => ?_)⟩
  have SSN : Fact (w.heap.size + 1 ≤ S2.heap.size) := ⟨Nat.le_trans SS.out K2.out.size⟩
  have BSN := Fact.mk (BS.out.keep K2.out ⟨by omega, by omega⟩)
  have P2N := Fact.mk (P2S.out.keep (K2.out.mono fun i h => ⟨by omega, h.2⟩))
  have KWN := Fact.mk (KW.out.trans (K2.out.mono fun i h => ⟨by omega, h.2⟩))
  have B2N := Fact.mk (B2.out.mono (H := fun i => i ≠ p ∧ (Value.slice A2 2 c2).ownBlock ≠ some i) fun i _ h => ⟨by have := W11.out; omega, h.2⟩)
  clear SS BS P1S P2S KW HS1 KU HU TU SV f4 c4 K1 H1 TT t10 t11 t12 t13 hJ1 K2 B2 RS1 W11
  have SS := SSN
  have BS := BSN
  have KW := KWN
  have P2S := P2N
  clear SSN BSN KWN P2N
  obtain ⟨g, gc, hgc⟩ : ∃ g gc, Value.slice A2 2 c2 = .slice (some ⟨g, 0, none⟩) 2 gc := by
    rcases RS2.out.2 with ⟨e, h0⟩ | ⟨g, cap, cur, e, _⟩
    · cases h0
    · exact ⟨g, cap, e⟩
  injection hgc with hg1 _ hg3
  subst hg1 hg3
  have c3 := Blk.cell HS2.out 3 _ rfl
  have c4 : S2.cell? ⟨p, 4, none⟩ = some (.int .i64 2) := Blk.cell HS2.out 4 _ rfl
  go_wp2_with fail
  go_quiet (fail)
  go_wp2_with fail
  obtain ⟨V2, hV⟩ : ∃ V, V = S2.drewN nq := ⟨_, rfl⟩
  rw [← hV]
  have KV : Fact (Keep All S2 V2) := ⟨hV ▸ (Keep.refl _ _).drewN nq⟩
  have HV : Fact (BlkB V2 p 4 7 (.slice (some ⟨g, 0, none⟩) 2 c2) (.slice (some ⟨ob, off, none⟩) 3 oc) 2 rest) := ⟨hV ▸ Blk.drewN HS2.out nq⟩
  clear hV c3 c4
  have c3 := Blk.cell HV.out 3 _ rfl
  have c4 : V2.cell? ⟨p, 4, none⟩ = some (.int .i64 2) := Blk.cell HV.out 4 _ rfl
  have PV := Fact.mk (P2S.out.keep KV.out.all)
  have q0 : V2.cell? ⟨ob, off + 8, none⟩ = some (.int .i64 5) := PV.out.kind
  have q1 : V2.cell? ⟨ob, off + 9, none⟩ = some (.int .i64 0) := PV.out.n
  have q2 : V2.cell? ⟨ob, off + 10, none⟩ = some (.int .i64 0) := PV.out.m
  have q3 : V2.cell? ⟨ob, off + 11, none⟩ = some (.slice T2 1 d2) := PV.out.text
  go_region_held3 (fun w' => w'.cell? ⟨p, 3, none⟩ = some (.slice (some ⟨ob, off, none⟩) 3 oc) ∧ w'.cell? ⟨p, 4, none⟩ = some (.int .i64 2) ∧ w'.cell? ⟨ob, off + 8, none⟩ = some (.int .i64 5) ∧ w'.cell? ⟨ob, off + 9, none⟩ = some (.int .i64 0) ∧ w'.cell? ⟨ob, off + 10, none⟩ = some (.int .i64 0) ∧ w'.cell? ⟨ob, off + 11, none⟩ = some (.slice T2 1 d2)) (go_keep) (fail)
  obtain ⟨U2, hU⟩ : ∃ U, U = (V2.alloc (.cells #[.int .i64 5, .int .i64 0, .int .i64 0, .slice T2 1 d2] 25)).drew := ⟨_, rfl⟩
  rw [← hU]
  have KU : Fact (Keep All S2 U2) := ⟨hU ▸ (KV.out.alloc _).drew⟩
  have HU : Fact (BlkB U2 p 4 7 (.slice (some ⟨g, 0, none⟩) 2 c2) (.slice (some ⟨ob, off, none⟩) 3 oc) 2 rest) := ⟨hU ▸ (Blk.alloc HV.out _).drew⟩
  have TU : Fact (Blk U2 V2.heap.size [.int .i64 5, .int .i64 0, .int .i64 0, .slice T2 1 d2] 25) := ⟨hU ▸ (Blk.new V2 [.int .i64 5, .int .i64 0, .int .i64 0, .slice T2 1 d2] 25).drew⟩
  have SV : Fact (p < V2.heap.size ∧ S2.heap.size ≤ V2.heap.size) := ⟨Blk.lt HV.out, KV.out.size⟩
  clear hU c3 c4 q0 q1 q2 q3 HV PV KV
  have f4 := Blk.free HU.out 4
  have c4 : U2.cell? ⟨p, 4, none⟩ = some (.int .i64 2) := Blk.cell HU.out 4 _ rfl
  go_wp2_with (first
    | (go_at_call 112; go_must (refine (spend112 _ p 4 7 1 3 _ _ rest (Blk.set HU.out 4 (.int .i64 ((3 : Nat) : Int))) (Small.of (by decide)) (by decide)).mono ?_); rintro e w21 ⟨rfl, h1, hk⟩; have H1 := Fact.mk h1; have K1 := Fact.mk (((Keep.refl (fun i => i ≠ p) U2).setCell (p := ⟨p, 4, none⟩) (.inr fun h => h rfl) (.int .i64 ((3 : Nat) : Int))).trans hk); have t1 := TU.out.keep K1.out (by have := SV.out; show V2.heap.size ≠ p; omega); have TT := Fact.mk t1; have t10 := t1.cell 0 _ rfl; have t11 := t1.cell 1 _ rfl; have t12 := t1.cell 2 _ rfl; have t13 := t1.cell 3 _ rfl; clear h1 hk t1)
    | (go_at_call 113; go_must (refine (place113_ok w21 (fun i => i < w.heap.size ∧ i ≠ p) (fun i => i ≠ p ∧ (Value.slice (some ⟨g, 0, none⟩) 2 c2).ownBlock ≠ some i) p 5 7 3 (w.heap.size + 1) g c2 _ rest [97, 98] A3 c3 T2 d2 H1.out (own_keep RS2.out (G := fun i => i ≠ p) (KU.out.all.trans K1.out) (fun g hg => by have := (RS2.out.lt g hg).1; omega)) (by have := K1.out.size; have := KU.out.size; have := SS.out; omega) (by omega) (B2N.out.keep ((KU.out.all.trans K1.out).mono fun i h => h.1)) (fun i h => h.1) (Small.of (by decide)) (by decide) (P2S.out.by_.keep ((KU.out.all.trans K1.out).mono fun i h => h.2)) (Small.of (by decide)) (by decide)).mono ?_); rintro e S3 ⟨rfl, A4, c4', A0, c0, kb, cc, A5, c5, h2, hr2, hkid, hby, hkb, hk2⟩; have HS3 := Fact.mk h2; have hgb := (RS2.out.lt g rfl).1; have K2 := Fact.mk ((((Keep.refl (fun i => i < w.heap.size + 1 ∧ i ≠ p) S2).trans KU.out.all).trans (K1.out.mono fun i h => h.2)).trans (hk2.mono fun i h => ⟨h.2, by omega⟩)); have RS3 := Fact.mk hr2; have KID := Fact.mk hkid; have BY := Fact.mk hby; have HKB := Fact.mk hkb; clear h2 hr2 hkid hby hkb hk2))
  go_step3
  refine ⟨rfl, hJ2.out _ _ (pass_succ fun J3 hJ3 => ?_)⟩
  have SSN : Fact (w.heap.size + 1 ≤ S3.heap.size) := ⟨Nat.le_trans SS.out K2.out.size⟩
  have BSN := Fact.mk (BS.out.keep K2.out ⟨by omega, by omega⟩)
  have KWN := Fact.mk (KW.out.trans (K2.out.mono fun i h => ⟨by omega, h.2⟩))
  have W21 := Fact.mk (show w.heap.size < w21.heap.size from by have := K1.out.size; have := KU.out.size; have := SS.out; omega)
  clear SS BS P2S KW HS2 KU HU TU SV f4 c4 K1 H1 TT t10 t11 t12 t13 hJ2 K2 B2N
  obtain ⟨g4, gc4, hgc⟩ : ∃ g gc, Value.slice A4 1 c4' = .slice (some ⟨g, 0, none⟩) 1 gc := by
    rcases RS3.out.2 with ⟨e, h0⟩ | ⟨g, cap, cur, e, _⟩
    · cases h0
    · exact ⟨g, cap, e⟩
  injection hgc with hg1 _ hg3
  subst hg1 hg3
  have c2 := Blk.cell HS3.out 2 _ rfl
  have c3 := Blk.cell HS3.out 3 _ rfl
  have c4 : S3.cell? ⟨p, 4, none⟩ = some (.int .i64 3) := Blk.cell HS3.out 4 _ rfl
  have r0 := RS3.out.cellAt 0 (by decide)
  have r1 := RS3.out.cellAt 1 (by decide)
  have r2 := RS3.out.cellAt 2 (by decide)
  have s0 := BSN.out.cell 0 _ rfl
  have s1 := BSN.out.cell 1 _ rfl
  have s2 := BSN.out.cell 2 _ rfl
  have f0 := BSN.out.free 0
  have f1 := BSN.out.free 1
  have f2 := BSN.out.free 2
  simp only [List.getElem?_cons_zero, List.getElem?_cons_succ] at r0 r1 r2
  go_wp2_with fail
  go_quiet (fail)
  go_wp2_with (go_at_call 111; go_must (refine (must111 _).mono ?_); rintro e v ⟨rfl, rfl⟩)
  simp only [Exit.jump]
  refine bodyPost_ret (results_58 rfl _ _ w.heap.size _ _ _ rfl ((BSN.out.drewN _).set3 _ _ _)) rfl ?_
  have hK : Keep (fun i => i ≠ w.heap.size) S3 (set3 (S3.drewN nq) w.heap.size (.int .i64 4) (.slice A0 0 c0) (.slice (some ⟨kb, 0, none⟩) 1 cc)) := ((Keep.refl _ S3).drewN nq).set3 _ (.inr fun h => h rfl) _ _ _
  have hw := W21.out
  have hkb := HKB.out
  exact ⟨A0, c0, kb, cc, A5, c5, _, rfl, Blk.keep HS3.out hK (by show p ≠ _; omega), KID.out.keep hK (by show kb ≠ _; omega), (BY.out.mono (H := fun i => i ≠ w.heap.size ∧ w.heap.size ≤ i) fun i _ h => ⟨by omega, by omega⟩).keep (hK.mono fun i h => h.1) |>.mono fun i _ h => h.2, by omega, KWN.out.trans (hK.mono fun i h => by show i ≠ _; omega)⟩

theorem build65_out (w : World) (p ob off oc : Nat) (rest : List Value) (T0 T1 T2 : Option Addr) (d0 d1 d2 : Nat)
    (h : BlkB w p 0 6 (.slice none 0 0) (.slice (some ⟨ob, off, none⟩) 3 oc) 0 rest) (_hoc : 3 ≤ oc)
    (h0 : OpAt w (fun i => i < w.heap.size ∧ i ≠ p) ob (off + 0 * 4) 4 [] T0 d0) (h1 : OpAt w (fun i => i < w.heap.size ∧ i ≠ p) ob (off + 1 * 4) 1 [97, 98] T1 d1) (h2 : OpAt w (fun i => i < w.heap.size ∧ i ≠ p) ob (off + 2 * 4) 5 [120] T2 d2) :
    Calls Tryz.prog 65 #[.pointer (some ⟨p, 0, none⟩)] w (BuildOut w p (.slice (some ⟨ob, off, none⟩) 3 oc) rest) := by
  have H := Fact.mk h
  have P0 := Fact.mk h0
  have P1 := Fact.mk h1
  have P2 := Fact.mk h2
  have hlt := h.lt
  clear h h0 h1 h2
  go_enter Tryz.func65, Tryz.ntmps65
  go_wp2
  refine scope_passes 0 4 rfl fun J hJ => ?_
  go_wp2
  go_step3
  obtain ⟨S0, hW⟩ : ∃ W, W = w.alloc (.cells #[.int .i64 0, .slice none 0 0, .slice none 0 0] 58) := ⟨_, rfl⟩
  rw [← hW]
  have KA : Fact (Keep All w S0) := ⟨hW ▸ (Keep.refl All w).alloc _⟩
  have BS : Fact (Blk S0 w.heap.size [.int .i64 0, .slice none 0 0, .slice none 0 0] 58) := ⟨hW ▸ Blk.new w [.int .i64 0, .slice none 0 0, .slice none 0 0] 58⟩
  have HS0 : Fact (BlkB S0 p 0 6 (.slice none 0 0) (.slice (some ⟨ob, off, none⟩) 3 oc) 0 rest) := ⟨Blk.keep H.out KA.out trivial⟩
  have SS : Fact (w.heap.size + 1 ≤ S0.heap.size) := ⟨BS.out.lt⟩
  have P0S := Fact.mk ((P0.out.keep KA.out.all))
  have P1S := Fact.mk ((P1.out.keep KA.out.all))
  have P2S := Fact.mk ((P2.out.keep KA.out.all))
  have KW := Fact.mk (KA.out.mono (H := fun i => i < w.heap.size ∧ i ≠ p) fun _ _ => trivial)
  clear hW KA P0 P1 P2 H
  have c3 := Blk.cell HS0.out 3 _ rfl
  have c4 : S0.cell? ⟨p, 4, none⟩ = some (.int .i64 0) := Blk.cell HS0.out 4 _ rfl
  go_wp2_with fail
  go_quiet (fail)
  go_wp2_with fail
  obtain ⟨V0, hV⟩ : ∃ V, V = S0.drewN nq := ⟨_, rfl⟩
  rw [← hV]
  have KV : Fact (Keep All S0 V0) := ⟨hV ▸ (Keep.refl _ _).drewN nq⟩
  have HV : Fact (BlkB V0 p 0 6 (.slice none 0 0) (.slice (some ⟨ob, off, none⟩) 3 oc) 0 rest) := ⟨hV ▸ Blk.drewN HS0.out nq⟩
  clear hV c3 c4
  have c3 := Blk.cell HV.out 3 _ rfl
  have c4 : V0.cell? ⟨p, 4, none⟩ = some (.int .i64 0) := Blk.cell HV.out 4 _ rfl
  have PV := Fact.mk (P0S.out.keep KV.out.all)
  have q0 : V0.cell? ⟨ob, off, none⟩ = some (.int .i64 4) := PV.out.kind
  have q1 : V0.cell? ⟨ob, off + 1, none⟩ = some (.int .i64 0) := PV.out.n
  have q2 : V0.cell? ⟨ob, off + 2, none⟩ = some (.int .i64 0) := PV.out.m
  have q3 : V0.cell? ⟨ob, off + 3, none⟩ = some (.slice T0 0 d0) := PV.out.text
  go_region_held3 (fun w' => w'.cell? ⟨p, 3, none⟩ = some (.slice (some ⟨ob, off, none⟩) 3 oc) ∧ w'.cell? ⟨p, 4, none⟩ = some (.int .i64 0) ∧ w'.cell? ⟨ob, off, none⟩ = some (.int .i64 4) ∧ w'.cell? ⟨ob, off + 1, none⟩ = some (.int .i64 0) ∧ w'.cell? ⟨ob, off + 2, none⟩ = some (.int .i64 0) ∧ w'.cell? ⟨ob, off + 3, none⟩ = some (.slice T0 0 d0)) (go_keep) (fail)
  obtain ⟨U0, hU⟩ : ∃ U, U = (V0.alloc (.cells #[.int .i64 4, .int .i64 0, .int .i64 0, .slice T0 0 d0] 25)).drew := ⟨_, rfl⟩
  rw [← hU]
  have KU : Fact (Keep All S0 U0) := ⟨hU ▸ (KV.out.alloc _).drew⟩
  have HU : Fact (BlkB U0 p 0 6 (.slice none 0 0) (.slice (some ⟨ob, off, none⟩) 3 oc) 0 rest) := ⟨hU ▸ (Blk.alloc HV.out _).drew⟩
  have TU : Fact (Blk U0 V0.heap.size [.int .i64 4, .int .i64 0, .int .i64 0, .slice T0 0 d0] 25) := ⟨hU ▸ (Blk.new V0 [.int .i64 4, .int .i64 0, .int .i64 0, .slice T0 0 d0] 25).drew⟩
  have SV : Fact (p < V0.heap.size ∧ S0.heap.size ≤ V0.heap.size) := ⟨Blk.lt HV.out, KV.out.size⟩
  clear hU c3 c4 q0 q1 q2 q3 HV PV KV
  have f4 := Blk.free HU.out 4
  have c4 : U0.cell? ⟨p, 4, none⟩ = some (.int .i64 0) := Blk.cell HU.out 4 _ rfl
  go_wp2_with (first
    | (go_at_call 112; go_must (refine (spend112 _ p 0 6 1 1 _ _ rest (Blk.set HU.out 4 (.int .i64 ((1 : Nat) : Int))) (Small.of (by decide)) (by decide)).mono ?_); rintro e w01 ⟨rfl, h1, hk⟩; have H1 := Fact.mk h1; have K1 := Fact.mk (((Keep.refl (fun i => i ≠ p) U0).setCell (p := ⟨p, 4, none⟩) (.inr fun h => h rfl) (.int .i64 ((1 : Nat) : Int))).trans hk); have t1 := TU.out.keep K1.out (by have := SV.out; show V0.heap.size ≠ p; omega); have TT := Fact.mk t1; have t10 := t1.cell 0 _ rfl; have t11 := t1.cell 1 _ rfl; have t12 := t1.cell 2 _ rfl; have t13 := t1.cell 3 _ rfl; clear h1 hk t1)
    | (go_at_call 116; go_must (refine (own116_4 w01 p 1 6 1 0 (w.heap.size + 1) 0 none _ rest [] 0 0 T0 d0 H1.out (World.ownsRow_nil _ _ _ _) (by have := K1.out.size; have := KU.out.size; have := SS.out; omega) (by omega) (by decide) (Small.of (by decide)) (by decide)).mono ?_); rintro e S1 ⟨rfl, A1, c1, h2, hr2, hm2, hk2⟩; have HS1 := Fact.mk h2; have RS1 := Fact.mk hr2; have K2 := Fact.mk ((((Keep.refl (fun i => i < w.heap.size + 1 ∧ i ≠ p) S0).trans KU.out.all).trans (K1.out.mono fun i h => h.2)).trans (hk2.mono fun i h => ⟨h.2, fun e => by cases e⟩)); clear h2 hr2 hm2 hk2))
  go_step3
  refine ⟨rfl, hJ.out _ _ (pass_succ fun J1 hJ1 => ?_)⟩
  have SSN : Fact (w.heap.size + 1 ≤ S1.heap.size) := ⟨Nat.le_trans SS.out K2.out.size⟩
  have BSN := Fact.mk (BS.out.keep K2.out ⟨by omega, by omega⟩)
  have P1S := Fact.mk (P1S.out.keep (K2.out.mono fun i h => ⟨by omega, h.2⟩))
  have P2S := Fact.mk (P2S.out.keep (K2.out.mono fun i h => ⟨by omega, h.2⟩))
  have KWN := Fact.mk (KW.out.trans (K2.out.mono fun i h => ⟨by omega, h.2⟩))
  clear SS BS P0S KW HS0 KU HU TU SV f4 c4 K1 H1 TT t10 t11 t12 t13 hJ K2
  have SS := SSN
  have BS := BSN
  have KW := KWN
  clear SSN BSN KWN
  have c3 := Blk.cell HS1.out 3 _ rfl
  have c4 : S1.cell? ⟨p, 4, none⟩ = some (.int .i64 1) := Blk.cell HS1.out 4 _ rfl
  go_wp2_with fail
  go_quiet (fail)
  go_wp2_with fail
  obtain ⟨V1, hV⟩ : ∃ V, V = S1.drewN nq := ⟨_, rfl⟩
  rw [← hV]
  have KV : Fact (Keep All S1 V1) := ⟨hV ▸ (Keep.refl _ _).drewN nq⟩
  have HV : Fact (BlkB V1 p 2 6 (.slice A1 1 c1) (.slice (some ⟨ob, off, none⟩) 3 oc) 1 rest) := ⟨hV ▸ Blk.drewN HS1.out nq⟩
  clear hV c3 c4
  have c3 := Blk.cell HV.out 3 _ rfl
  have c4 : V1.cell? ⟨p, 4, none⟩ = some (.int .i64 1) := Blk.cell HV.out 4 _ rfl
  have PV := Fact.mk (P1S.out.keep KV.out.all)
  have q0 : V1.cell? ⟨ob, off + 4, none⟩ = some (.int .i64 1) := PV.out.kind
  have q1 : V1.cell? ⟨ob, off + 5, none⟩ = some (.int .i64 0) := PV.out.n
  have q2 : V1.cell? ⟨ob, off + 6, none⟩ = some (.int .i64 0) := PV.out.m
  have q3 : V1.cell? ⟨ob, off + 7, none⟩ = some (.slice T1 2 d1) := PV.out.text
  go_region_held3 (fun w' => w'.cell? ⟨p, 3, none⟩ = some (.slice (some ⟨ob, off, none⟩) 3 oc) ∧ w'.cell? ⟨p, 4, none⟩ = some (.int .i64 1) ∧ w'.cell? ⟨ob, off + 4, none⟩ = some (.int .i64 1) ∧ w'.cell? ⟨ob, off + 5, none⟩ = some (.int .i64 0) ∧ w'.cell? ⟨ob, off + 6, none⟩ = some (.int .i64 0) ∧ w'.cell? ⟨ob, off + 7, none⟩ = some (.slice T1 2 d1)) (go_keep) (fail)
  obtain ⟨U1, hU⟩ : ∃ U, U = (V1.alloc (.cells #[.int .i64 1, .int .i64 0, .int .i64 0, .slice T1 2 d1] 25)).drew := ⟨_, rfl⟩
  rw [← hU]
  have KU : Fact (Keep All S1 U1) := ⟨hU ▸ (KV.out.alloc _).drew⟩
  have HU : Fact (BlkB U1 p 2 6 (.slice A1 1 c1) (.slice (some ⟨ob, off, none⟩) 3 oc) 1 rest) := ⟨hU ▸ (Blk.alloc HV.out _).drew⟩
  have TU : Fact (Blk U1 V1.heap.size [.int .i64 1, .int .i64 0, .int .i64 0, .slice T1 2 d1] 25) := ⟨hU ▸ (Blk.new V1 [.int .i64 1, .int .i64 0, .int .i64 0, .slice T1 2 d1] 25).drew⟩
  have SV : Fact (p < V1.heap.size ∧ S1.heap.size ≤ V1.heap.size) := ⟨Blk.lt HV.out, KV.out.size⟩
  clear hU c3 c4 q0 q1 q2 q3 HV PV KV
  have f4 := Blk.free HU.out 4
  have c4 : U1.cell? ⟨p, 4, none⟩ = some (.int .i64 1) := Blk.cell HU.out 4 _ rfl
  go_wp2_with (first
    | (go_at_call 112; go_must (refine (spend112 _ p 2 6 1 2 _ _ rest (Blk.set HU.out 4 (.int .i64 ((2 : Nat) : Int))) (Small.of (by decide)) (by decide)).mono ?_); rintro e w11 ⟨rfl, h1, hk⟩; have H1 := Fact.mk h1; have K1 := Fact.mk (((Keep.refl (fun i => i ≠ p) U1).setCell (p := ⟨p, 4, none⟩) (.inr fun h => h rfl) (.int .i64 ((2 : Nat) : Int))).trans hk); have t1 := TU.out.keep K1.out (by have := SV.out; show V1.heap.size ≠ p; omega); have TT := Fact.mk t1; have t10 := t1.cell 0 _ rfl; have t11 := t1.cell 1 _ rfl; have t12 := t1.cell 2 _ rfl; have t13 := t1.cell 3 _ rfl; clear h1 hk t1)
    | (go_at_call 116; go_must (refine (own116_1 w11 (fun i => i < w.heap.size ∧ i ≠ p) p 3 6 2 1 (w.heap.size + 1) c1 A1 _ rest [.int .i64 4, .slice none 0 0, .slice none 0 0] 0 0 [97, 98] T1 d1 H1.out (own_keep RS1.out (G := fun i => i ≠ p) (KU.out.all.trans K1.out) (fun g hg => by have := (RS1.out.lt g hg).1; omega)) (by have := K1.out.size; have := KU.out.size; have := SS.out; omega) (by omega) (by decide) (P1S.out.by_.keep ((KU.out.all.trans K1.out).mono fun i h => h.2)) (Small.of (by decide)) (by decide) (Small.of (by decide)) (by decide)).mono ?_); rintro e S2 ⟨rfl, A2, c2, A3, c3, h2, hr2, hb2, hm2, hk2⟩; have HS2 := Fact.mk h2; have RS2 := Fact.mk hr2; have B2 := Fact.mk hb2; have hpo := (fun g hg => (RS1.out.lt g hg).1 : ∀ g, (Value.slice A1 1 c1).ownBlock = some g → w.heap.size + 1 ≤ g); have K2 := Fact.mk ((((Keep.refl (fun i => i < w.heap.size + 1 ∧ i ≠ p) S1).trans KU.out.all).trans (K1.out.mono fun i h => h.2)).trans (hk2.mono fun i h => ⟨h.2, fun e => by have := hpo i e; omega⟩)); have W11 := Fact.mk (show w.heap.size < w11.heap.size from by have := K1.out.size; have := KU.out.size; have := SS.out; omega); clear h2 hr2 hb2 hm2 hk2 hpo))
  go_step3
  refine ⟨rfl, hJ1.out _ _ (pass_succ fun J2 hJ2 => ?_)⟩
  have SSN : Fact (w.heap.size + 1 ≤ S2.heap.size) := ⟨Nat.le_trans SS.out K2.out.size⟩
  have BSN := Fact.mk (BS.out.keep K2.out ⟨by omega, by omega⟩)
  have P2N := Fact.mk (P2S.out.keep (K2.out.mono fun i h => ⟨by omega, h.2⟩))
  have KWN := Fact.mk (KW.out.trans (K2.out.mono fun i h => ⟨by omega, h.2⟩))
  have B2N := Fact.mk (B2.out.mono (H := fun i => i ≠ p ∧ (Value.slice A2 2 c2).ownBlock ≠ some i) fun i _ h => ⟨by have := W11.out; omega, h.2⟩)
  clear SS BS P1S P2S KW HS1 KU HU TU SV f4 c4 K1 H1 TT t10 t11 t12 t13 hJ1 K2 B2 RS1 W11
  have SS := SSN
  have BS := BSN
  have KW := KWN
  have P2S := P2N
  clear SSN BSN KWN P2N
  obtain ⟨g, gc, hgc⟩ : ∃ g gc, Value.slice A2 2 c2 = .slice (some ⟨g, 0, none⟩) 2 gc := by
    rcases RS2.out.2 with ⟨e, h0⟩ | ⟨g, cap, cur, e, _⟩
    · cases h0
    · exact ⟨g, cap, e⟩
  injection hgc with hg1 _ hg3
  subst hg1 hg3
  have c3 := Blk.cell HS2.out 3 _ rfl
  have c4 : S2.cell? ⟨p, 4, none⟩ = some (.int .i64 2) := Blk.cell HS2.out 4 _ rfl
  go_wp2_with fail
  go_quiet (fail)
  go_wp2_with fail
  obtain ⟨V2, hV⟩ : ∃ V, V = S2.drewN nq := ⟨_, rfl⟩
  rw [← hV]
  have KV : Fact (Keep All S2 V2) := ⟨hV ▸ (Keep.refl _ _).drewN nq⟩
  have HV : Fact (BlkB V2 p 4 6 (.slice (some ⟨g, 0, none⟩) 2 c2) (.slice (some ⟨ob, off, none⟩) 3 oc) 2 rest) := ⟨hV ▸ Blk.drewN HS2.out nq⟩
  clear hV c3 c4
  have c3 := Blk.cell HV.out 3 _ rfl
  have c4 : V2.cell? ⟨p, 4, none⟩ = some (.int .i64 2) := Blk.cell HV.out 4 _ rfl
  have PV := Fact.mk (P2S.out.keep KV.out.all)
  have q0 : V2.cell? ⟨ob, off + 8, none⟩ = some (.int .i64 5) := PV.out.kind
  have q1 : V2.cell? ⟨ob, off + 9, none⟩ = some (.int .i64 0) := PV.out.n
  have q2 : V2.cell? ⟨ob, off + 10, none⟩ = some (.int .i64 0) := PV.out.m
  have q3 : V2.cell? ⟨ob, off + 11, none⟩ = some (.slice T2 1 d2) := PV.out.text
  go_region_held3 (fun w' => w'.cell? ⟨p, 3, none⟩ = some (.slice (some ⟨ob, off, none⟩) 3 oc) ∧ w'.cell? ⟨p, 4, none⟩ = some (.int .i64 2) ∧ w'.cell? ⟨ob, off + 8, none⟩ = some (.int .i64 5) ∧ w'.cell? ⟨ob, off + 9, none⟩ = some (.int .i64 0) ∧ w'.cell? ⟨ob, off + 10, none⟩ = some (.int .i64 0) ∧ w'.cell? ⟨ob, off + 11, none⟩ = some (.slice T2 1 d2)) (go_keep) (fail)
  obtain ⟨U2, hU⟩ : ∃ U, U = (V2.alloc (.cells #[.int .i64 5, .int .i64 0, .int .i64 0, .slice T2 1 d2] 25)).drew := ⟨_, rfl⟩
  rw [← hU]
  have KU : Fact (Keep All S2 U2) := ⟨hU ▸ (KV.out.alloc _).drew⟩
  have HU : Fact (BlkB U2 p 4 6 (.slice (some ⟨g, 0, none⟩) 2 c2) (.slice (some ⟨ob, off, none⟩) 3 oc) 2 rest) := ⟨hU ▸ (Blk.alloc HV.out _).drew⟩
  have TU : Fact (Blk U2 V2.heap.size [.int .i64 5, .int .i64 0, .int .i64 0, .slice T2 1 d2] 25) := ⟨hU ▸ (Blk.new V2 [.int .i64 5, .int .i64 0, .int .i64 0, .slice T2 1 d2] 25).drew⟩
  have SV : Fact (p < V2.heap.size ∧ S2.heap.size ≤ V2.heap.size) := ⟨Blk.lt HV.out, KV.out.size⟩
  clear hU c3 c4 q0 q1 q2 q3 HV PV KV
  have f4 := Blk.free HU.out 4
  have c4 : U2.cell? ⟨p, 4, none⟩ = some (.int .i64 2) := Blk.cell HU.out 4 _ rfl
  go_wp2_with (first
    | (go_at_call 112; go_must (refine (spend112 _ p 4 6 1 3 _ _ rest (Blk.set HU.out 4 (.int .i64 ((3 : Nat) : Int))) (Small.of (by decide)) (by decide)).mono ?_); rintro e w21 ⟨rfl, h1, hk⟩; have H1 := Fact.mk h1; have K1 := Fact.mk (((Keep.refl (fun i => i ≠ p) U2).setCell (p := ⟨p, 4, none⟩) (.inr fun h => h rfl) (.int .i64 ((3 : Nat) : Int))).trans hk); have t1 := TU.out.keep K1.out (by have := SV.out; show V2.heap.size ≠ p; omega); have TT := Fact.mk t1; have t10 := t1.cell 0 _ rfl; have t11 := t1.cell 1 _ rfl; have t12 := t1.cell 2 _ rfl; have t13 := t1.cell 3 _ rfl; clear h1 hk t1)
    | (go_at_call 113; go_must (refine (place113_out w21 (fun i => i < w.heap.size ∧ i ≠ p) (fun i => i ≠ p ∧ (Value.slice (some ⟨g, 0, none⟩) 2 c2).ownBlock ≠ some i) p 5 6 3 (w.heap.size + 1) g c2 _ rest [97, 98] A3 c3 T2 d2 H1.out (own_keep RS2.out (G := fun i => i ≠ p) (KU.out.all.trans K1.out) (fun g hg => by have := (RS2.out.lt g hg).1; omega)) (by have := K1.out.size; have := KU.out.size; have := SS.out; omega) (by omega) (B2N.out.keep ((KU.out.all.trans K1.out).mono fun i h => h.1)) (fun i h => h.1) (Small.of (by decide)) (by decide) (P2S.out.by_.keep ((KU.out.all.trans K1.out).mono fun i h => h.2)) (Small.of (by decide)) (by decide)).mono ?_); rintro e S3 ⟨he, pv, h2, hk2⟩; unfold outOfFuel at he; subst he; have HS3 := Fact.mk h2; have hgb := (RS2.out.lt g rfl).1; have K2 := Fact.mk ((((Keep.refl (fun i => i < w.heap.size + 1 ∧ i ≠ p) S2).trans KU.out.all).trans (K1.out.mono fun i h => h.2)).trans (hk2.mono fun i h => ⟨h.2, by omega⟩)); clear h2 hk2))
  exact ⟨rfl, rfl, pv, HS3.out, KW.out.trans (K2.out.mono fun i h => ⟨by omega, h.2⟩)⟩

end Go.Proofs.YtddmbdigdnmfgaaGreatDoor
