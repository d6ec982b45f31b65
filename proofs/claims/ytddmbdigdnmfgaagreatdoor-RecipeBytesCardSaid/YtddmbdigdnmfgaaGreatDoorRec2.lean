import Derived.Test.YtddmbdigdnmfgaaGreatDoorRec
namespace Go.Proofs.YtddmbdigdnmfgaaGreatDoor
open Go.RowKit
set_option maxHeartbeats 800000
set_option maxRecDepth 100000

theorem T131 : SlTy Tryz.prog 131 58 3 56 := by
  obtain ⟨i, hi, h0, h1, h2⟩ := info_parts (P := Tryz.prog) (e := 58) (z := .agg #[.int .i64 0, .slice none 0 0, .slice none 0 0]) (size := 3) (bytes := 56) (by kernel_rfl)
  exact ⟨Tryz.underlying131, by decide, i, _, hi, h0, h1, h2, rfl⟩
/-- What Put leaves in the builder: one tree more on the pile. -/
def PutOn (w : World) (p used fuel cnt at_ n : Nat) (pv ov : Value) (rest xs ys : List Value) (base : Nat) (e : Ending) (w' : World) : Prop :=
  e = .returned (.tuple #[]) ∧ ∃ A c, BlkB w' p (used + cnt) fuel (.slice A (n + 1) c) ov at_ rest ∧ w'.ownsRow base 58 3 (.slice A (n + 1) c) (n + 1) (xs ++ ys) ∧ Moved w pv (.slice A (n + 1) c) ∧ Keep (Mine p pv) w w'

theorem put171_ok (w : World) (p used fuel cnt deep at_ n base pc nc : Nat) (PA NA : Option Addr) (ov : Value) (rest xs : List Value) (x : XN) (h : BlkB w p used fuel (.slice PA n pc) ov at_ rest)
    (hrow : w.ownsRow base 58 3 (.slice PA n pc) n xs) (hbase : base ≤ w.heap.size) (hpb : p < base) (hn : n < 16) (hnode : Sl w (fun i => i ≠ p) 3 (.slice NA 1 nc) 1 [.int .i64 x.k, .slice x.A x.m x.c, .slice x.B x.q x.cq])
    (hR : RightN w x cnt deep) (hS : StepOk w x) (hsm : Small (used + cnt)) (hf : used + cnt ≤ fuel) :
    Calls Tryz.prog 171 #[.pointer (some ⟨p, 0, none⟩), .slice NA 1 nc] w (PutOn w p used fuel cnt at_ n (.slice PA n pc) ov rest xs [.int .i64 x.k, .slice x.A x.m x.c, .slice x.B x.q x.cq] base) := by
  obtain ⟨_, A', c', he, -, hcw, hcm, hA, hx⟩ := id hnode
  injection he with e1 _ e3
  subst e1 e3
  obtain ⟨nb, no, rfl, hg, hat⟩ := hx (by simp)
  have n0 := hat 0 (by simp)
  have n1 := hat 1 (by simp)
  have n2 := hat 2 (by simp)
  simp only [List.getD_cons_zero, List.getD_cons_succ, Nat.add_zero] at n0 n1 n2
  have HN := Fact.mk hnode
  have HR := Fact.mk hR
  have HS := Fact.mk hS
  have H := Fact.mk h
  have HROW := Fact.mk hrow
  have c2 := Blk.cell h 2 _ rfl
  have hlt := h.lt
  have hsml := hsm.le
  have hn' : (n : Int) + 1 ≤ 16 := by omega
  have HSM := Fact.mk hsm
  have hpv : (Value.slice PA n pc).ownBlock ≠ some p := fun e => by have := (hrow.lt p e).1; omega
  have HPV := Fact.mk hpv
  clear hpv h hrow hnode hR hS hg hat hx hA hcm hsm
  go_enter Tryz.func171, Tryz.ntmps171
  go_wp2
  refine wp_loop_rounds 2 ?_
  rw [rounds_succ]
  go_wp2_with (first
    | (go_at_call 29; go_must (refine (right29 _ x cnt deep (HR.out.keep ((Keep.refl _ w).alloc _))).mono ?_); rintro e w1 ⟨rfl, hk⟩; have K1 := Fact.mk (((Keep.refl All w).alloc _).trans hk); have B1 := (Blk.new w [.int .i64 x.k, .slice x.A x.m x.c, .slice x.B x.q x.cq] 58).keep hk trivial; have t0 := B1.cell 0 _ rfl; have t1 := B1.cell 1 _ rfl; have t2 := B1.cell 2 _ rfl; clear hk B1)
    | (go_at_call 111; go_must (refine (must111 _).mono ?_); rintro e v ⟨rfl, rfl⟩)
    | (go_at_call 204; go_must (refine (count204 _ x cnt deep (HR.out.keep K1.out) (HS.out.keep K1.out)).mono ?_); rintro e w2 ⟨⟨bts, rfl⟩, hk⟩; have K2 := Fact.mk (K1.out.trans hk); have H2 := Fact.mk (Blk.keep H.out K2.out trivial); have c2' := Blk.cell H2.out 2 _ rfl; clear hk))
  rw [rounds_succ]
  have hs2 := Fact.mk K2.out.size
  go_wp2_with (first
    | (go_at_call 111; go_must (refine (must111 _).mono ?_); rintro e v ⟨rfl, rfl⟩)
    | (go_at_call 112; go_must (refine (spend112 _ p used fuel cnt at_ _ ov rest H2.out HSM.out hf).mono ?_); rintro e w3 ⟨rfl, h3, hk⟩; have H3 := Fact.mk h3; have K3 := Fact.mk (K2.out.all.trans hk); have c3 := Blk.cell h3 2 _ rfl; have HROW3 := Fact.mk (own_keep HROW.out K3.out (fun g hg => by have := (HROW.out.lt g hg).1; show g ≠ p; omega)); have HN3 := Fact.mk (HN.out.keep K3.out); clear hk h3)
    | (at_builtin; go_must (refine wpList_ap rfl _ _ 131 58 3 56 base n 1 HROW3.out HN3.out rfl T131 rfl rfl (Fits.of (n := n) (m := 1) (Small.of (by omega)) 56 (by decide)) (Nat.le_trans hbase K3.out.size) ?_); intro v' w4 ho hg hb; have HO := Fact.mk ho; have HB := Fact.mk hb; have H4 := Fact.mk (Blk.grown H3.out hg HPV.out); have K4 := Fact.mk ((K3.out.mono (H := Mine p (.slice PA n pc)) fun i h => h.1).grown hg (fun k e => .inr fun h => h.2 e)); obtain ⟨A4, c4, rfl⟩ := own_form ho; have f4 := Blk.free H4.out 2; have c4' := Blk.cell H4.out 2 _ rfl; clear ho hg hb))
  go_end0
  have hne : ∀ g, (Value.slice A4 (n + 1) c4).ownBlock = some g → g ≠ p := fun g hg => by
    have := (HO.out.lt g hg).1
    omega
  refine ⟨rfl, A4, c4, Blk.set H4.out 2 _, own_keep HO.out (G := fun i => i ≠ p) ((Keep.refl _ _).setCell (p := ⟨p, 2, none⟩) (.inr fun h => h rfl) _) hne, fun g hg => ?_, K4.out.setCell (p := ⟨p, 2, none⟩) (.inr fun h => h.1 rfl) _⟩
  rcases HB.out with h1 | h1
  · exact .inl (h1 ▸ hg)
  · rw [h1] at hg
    cases hg
    have := K3.out.size
    exact .inr (by omega)
theorem put171_out (w : World) (p used fuel cnt deep at_ n base pc nc : Nat) (PA NA : Option Addr) (ov : Value) (rest xs : List Value) (x : XN) (h : BlkB w p used fuel (.slice PA n pc) ov at_ rest)
    (hrow : w.ownsRow base 58 3 (.slice PA n pc) n xs) (hbase : base ≤ w.heap.size) (hpb : p < base) (hn : n < 16) (hnode : Sl w (fun i => i ≠ p) 3 (.slice NA 1 nc) 1 [.int .i64 x.k, .slice x.A x.m x.c, .slice x.B x.q x.cq])
    (hR : RightN w x cnt deep) (hS : StepOk w x) (hsm : Small (used + cnt)) (hf : fuel < used + cnt) :
    Calls Tryz.prog 171 #[.pointer (some ⟨p, 0, none⟩), .slice NA 1 nc] w fun e w' => e = outOfFuel ∧ BlkB w' p fuel fuel (.slice PA n pc) ov at_ rest ∧ Keep (fun i => i ≠ p) w w' := by
  obtain ⟨_, A', c', he, -, hcw, hcm, hA, hx⟩ := id hnode
  injection he with e1 _ e3
  subst e1 e3
  obtain ⟨nb, no, rfl, hg, hat⟩ := hx (by simp)
  have n0 := hat 0 (by simp)
  have n1 := hat 1 (by simp)
  have n2 := hat 2 (by simp)
  simp only [List.getD_cons_zero, List.getD_cons_succ, Nat.add_zero] at n0 n1 n2
  have HN := Fact.mk hnode
  have HR := Fact.mk hR
  have HS := Fact.mk hS
  have H := Fact.mk h
  have HROW := Fact.mk hrow
  have c2 := Blk.cell h 2 _ rfl
  have hlt := h.lt
  have hsml := hsm.le
  have hn' : (n : Int) + 1 ≤ 16 := by omega
  have HSM := Fact.mk hsm
  have hpv : (Value.slice PA n pc).ownBlock ≠ some p := fun e => by have := (hrow.lt p e).1; omega
  have HPV := Fact.mk hpv
  clear hpv h hrow hnode hR hS hg hat hx hA hcm hsm
  go_enter Tryz.func171, Tryz.ntmps171
  go_wp2
  refine wp_loop_rounds 2 ?_
  rw [rounds_succ]
  go_wp2_with (first
    | (go_at_call 29; go_must (refine (right29 _ x cnt deep (HR.out.keep ((Keep.refl _ w).alloc _))).mono ?_); rintro e w1 ⟨rfl, hk⟩; have K1 := Fact.mk (((Keep.refl All w).alloc _).trans hk); have B1 := (Blk.new w [.int .i64 x.k, .slice x.A x.m x.c, .slice x.B x.q x.cq] 58).keep hk trivial; have t0 := B1.cell 0 _ rfl; have t1 := B1.cell 1 _ rfl; have t2 := B1.cell 2 _ rfl; clear hk B1)
    | (go_at_call 111; go_must (refine (must111 _).mono ?_); rintro e v ⟨rfl, rfl⟩)
    | (go_at_call 204; go_must (refine (count204 _ x cnt deep (HR.out.keep K1.out) (HS.out.keep K1.out)).mono ?_); rintro e w2 ⟨⟨bts, rfl⟩, hk⟩; have K2 := Fact.mk (K1.out.trans hk); have H2 := Fact.mk (Blk.keep H.out K2.out trivial); have c2' := Blk.cell H2.out 2 _ rfl; clear hk))
  rw [rounds_succ]
  have hs2 := Fact.mk K2.out.size
  go_wp2_with (first
    | (go_at_call 111; go_must (refine (must111 _).mono ?_); rintro e v ⟨rfl, rfl⟩)
    | (go_at_call 112; go_must (refine (spend112_out _ p used fuel cnt at_ _ ov rest H2.out HSM.out hf).mono ?_); rintro e w3 ⟨he, h3, hk⟩; unfold outOfFuel at he; subst he; have H3 := Fact.mk h3; have K3 := Fact.mk (K2.out.all.trans hk); clear hk h3))
  exact ⟨rfl, rfl, H3.out, K3.out⟩
end Go.Proofs.YtddmbdigdnmfgaaGreatDoor
