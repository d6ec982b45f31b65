/- A text turned into bytes: new memory. -/
import Derived.Lib.ConvBytes
import Derived.Test.YtddmbdigdnmfgaaGreatDoorQTimes
namespace Go.Proofs.YtddmbdigdnmfgaaGreatDoor
open Go.RowKit
set_option maxHeartbeats 1000000
set_option maxRecDepth 100000

theorem wp_conv923 {w : World} {o : Oper} {a : Act} {K : Act → World → Prop} {Q : Exit → Act → World → Prop} (s : Operand) (t : ByteArray) (ho : o.op = .convert 9 23 s) (hs : a.eval s = .string t) (ht : t.size ≤ 4611686018427387904)
    (h : ∀ c w', By w' (fun i => i = w.heap.size) (.slice (some ⟨w.heap.size, 0, none⟩) t.data.toList.length c) t.data.toList → Keep All w w' → w.heap.size < w'.heap.size → K (a.put o.dst (.slice (some ⟨w.heap.size, 0, none⟩) t.data.toList.length c)) w') : o.wp Tryz.prog a w K Q := by
  have hr := Lib.run_convert_string_bytes (P := Tryz.prog) w 9 23 5 t Tryz.underlying9 Tryz.underlying23 Tryz.underlying5
  have hl : t.data.toList.length = t.size := by rw [Array.length_toList]; rfl
  have hge := grownCap_ge w t.size 0 5
  have hcm : grownCap w t.size 0 5 ≤ maxLen := grownCap_le_maxLen w t.size 0 5 (by unfold maxLen; omega)
  unfold Oper.wp execOp
  simp only [ho, hs, Sem.run_bind, hr, Result.andThen_ok]
  have hk : Keep All w (Lib.bytesWorld w 5 t) := ⟨rfl, rfl, rfl, by rw [Lib.bytesWorld_size]; omega, fun i hi _ => Lib.bytesWorld_at_old w 5 t i hi⟩
  have := h (grownCap w t.size 0 5) (Lib.bytesWorld w 5 t) ?_ hk (by rw [Lib.bytesWorld_size]; omega)
  · rw [hl] at this
    exact this
  · refine ⟨u8v_one _, _, _, rfl, by simp, by rw [hl]; exact hge, hcm, (fun e => by cases e), fun _ => ⟨w.heap.size, 0, rfl, rfl, fun j hj => ?_⟩⟩
    have hj2 : j < t.data.toList.length := by simpa using hj
    rw [Nat.zero_add, Lib.bytesWorld_cell w 5 t j (by omega)]
    simp [u8v, List.getD_eq_getElem?_getD, List.getElem?_eq_getElem hj2]
theorem same174g (w : World) (G1 G2 : Nat → Prop) (x y : PNode) (v1 v2 : Value) (h1 : NodeV w G1 x v1) (h2 : NodeV w G2 y v2) :
    Calls Tryz.prog 174 #[v1, v2] w fun e w' => e = .returned (.int .i64 (if equalP x y = true then 1 else 0)) ∧ Keep All w w' := by
  obtain ⟨A, c, B, d, rfl, hr1⟩ := h1
  obtain ⟨A', c', B', d', rfl, hr2⟩ := h2
  obtain ⟨q, hq⟩ : ∃ q, q = equalP x y := ⟨_, rfl⟩
  have CE : Fact (∀ w1, Keep All w w1 → Calls Tryz.prog 211 #[.agg #[.int .i64 x.kind, .slice A x.bytes.length c, .slice B x.kids.length d], .agg #[.int .i64 y.kind, .slice A' y.bytes.length c', .slice B' y.kids.length d']] w1 fun e w' => e = .returned (.bool q) ∧ Keep All w1 w') :=
    ⟨fun w1 hk => hq ▸ equal211 w1 G1 G2 x y _ _ ⟨A, c, B, d, rfl, hr1.keep hk.all⟩ ⟨A', c', B', d', rfl, hr2.keep hk.all⟩⟩
  rw [← hq]
  clear hq hr1 hr2
  cases q with
  | true =>
    go_enter Tryz.func174, Tryz.ntmps174
    go_wp2_with (go_at_call 211; go_must (refine (CE.out _ (((Keep.refl _ w).alloc _).alloc _)).mono ?_); rintro e w1 ⟨rfl, hk⟩; have K1 := Fact.mk ((((Keep.refl _ w).alloc _).alloc _).trans hk); clear hk)
    go_ret
    exact ⟨rfl, K1.out⟩
  | false =>
    go_enter Tryz.func174, Tryz.ntmps174
    go_wp2_with (go_at_call 211; go_must (refine (CE.out _ (((Keep.refl _ w).alloc _).alloc _)).mono ?_); rintro e w1 ⟨rfl, hk⟩; have K1 := Fact.mk ((((Keep.refl _ w).alloc _).alloc _).trans hk); clear hk)
    go_ret
    exact ⟨rfl, K1.out⟩
end Go.Proofs.YtddmbdigdnmfgaaGreatDoor

/- shift of the builder: are two the same, the ways of one. -/
namespace Go.Proofs.YtddmbdigdnmfgaaGreatDoor
open Go.RowKit
set_option maxHeartbeats 1000000
set_option maxRecDepth 100000

noncomputable def sameR (pile : List PNode) (at_ : Nat) : Option (List PNode × Nat × Nat) := match pile.reverse with
  | x :: d :: r => putR r.reverse [.mk 1 (if equalP d x = true then [49] else []) []] at_
  | _ => none
def waysT (x : PNode) : List ByteArray := waysN ⟨#[]⟩ x ++ [⟨#[]⟩]
def waysB (x : PNode) : List UInt8 := Lib.join ((waysT x).map (·.data.toList)) [10]
noncomputable def waysR (pile : List PNode) (at_ : Nat) : Option (List PNode × Nat × Nat) := match pile.reverse with
  | x :: r => putR r.reverse [.mk 1 (waysB x) []] at_
  | [] => none
theorem joinW_le (way s : ByteArray) : (joinW way s).size ≤ way.size + 1 + s.size := by
  unfold joinW
  split
  · omega
  · rw [ByteArray.size_append, ByteArray.size_append]
    exact Nat.le_refl _
mutual
theorem waysN_le : ∀ (x : PNode) (dep : Nat) (way : ByteArray), okP x dep = true → way.size ≤ 25 * dep → ∀ s ∈ waysN way x, s.size ≤ 250
  | .mk k b l, dep, way, h, hw, s, hs => by
    rw [okP] at h
    simp only [Bool.and_eq_true, decide_eq_true_eq] at h
    rw [waysN] at hs
    rcases List.mem_cons.1 hs with rfl | hs
    · have := h.1.1.1.1.1.1.1
      omega
    · exact waysK_le l dep way h.2 (by
        have := h.1.2
        simp only [namedP, decide_eq_true_eq] at this
        exact fun k hk => (this k hk).1.2.1) h.1.1.1.1.1.1.1 hw s hs
theorem waysK_le : ∀ (l : List (ByteArray × PNode)) (dep : Nat) (way : ByteArray), okK l (dep + 1) = true → (∀ k (h : k < l.length), l[k].1.size ≤ 24) → dep ≤ 8 → way.size ≤ 25 * dep → ∀ s ∈ waysK way l, s.size ≤ 250
  | [], dep, way, _, _, _, _, s, hs => by rw [waysK] at hs; cases hs
  | (t, x) :: r, dep, way, h, hn, hd, hw, s, hs => by
    rw [okK, Bool.and_eq_true] at h
    rw [waysK, List.mem_append] at hs
    rcases hs with hs | hs
    · refine waysN_le x (dep + 1) (joinW way t) h.1 ?_ s hs
      have h1 := joinW_le way t
      have h2 := hn 0 (by simp)
      simp only [List.getElem_cons_zero] at h2
      omega
    · exact waysK_le r dep way h.2 (fun k hk => by have := hn (k + 1) (by simpa using hk); simpa using this) hd hw s hs
end
theorem joinTail_le (sep : List UInt8) (M : Nat) : ∀ (l : List (List UInt8)), (∀ x ∈ l, x.length ≤ M) → (Lib.joinTail sep l).length ≤ l.length * (sep.length + M)
  | [], _ => by simp [Lib.joinTail]
  | x :: r, h => by
    have ih := joinTail_le sep M r (fun y hy => h y (List.mem_cons_of_mem _ hy))
    have hx := h x List.mem_cons_self
    have : Lib.joinTail sep (x :: r) = (sep ++ x) ++ Lib.joinTail sep r := by simp [Lib.joinTail]
    rw [this, List.length_append, List.length_append, List.length_cons, Nat.add_mul]
    omega
theorem join_le (sep : List UInt8) (M : Nat) (l : List (List UInt8)) (h : ∀ x ∈ l, x.length ≤ M) : (Lib.join l sep).length ≤ l.length * (sep.length + M) := by
  cases l with
  | nil => simp [Lib.join_nil]
  | cons x r =>
    rw [Lib.join_cons, List.length_append, List.length_cons, Nat.add_mul]
    have := joinTail_le sep M r (fun y hy => h y (List.mem_cons_of_mem _ hy))
    have := h x List.mem_cons_self
    omega
theorem waysB_le {x : PNode} (h : rightP x = true) : (waysB x).length ≤ 60000 := by
  have hj := join_le [10] 250 ((waysT x).map (·.data.toList)) (fun y hy => by
    obtain ⟨s, hs, rfl⟩ := List.mem_map.1 hy
    rw [Array.length_toList]
    rcases List.mem_append.1 hs with hs | hs
    · exact waysN_le x 1 ⟨#[]⟩ (rightP_ok h) (by decide) s hs
    · rw [List.mem_singleton.1 hs]
      decide)
  have hc := rightP_cnt h
  have hl := waysN_len ⟨#[]⟩ x
  rw [List.length_map, waysT, List.length_append, hl] at hj
  simp only [List.length_singleton] at hj
  unfold waysB waysT
  omega
section
variable (w : World) (p base used fuel at_ : Nat) (ov pv : Value) (rest : List Value)
theorem shift16 (pile : List PNode) (on om : Int) (tA : Option Addr) (tn tc : Nat) (h : BSt w p base used fuel at_ ov rest pile pv) : Calls Tryz.prog 115 #[.pointer (some ⟨p, 0, none⟩), .agg #[.int .i64 16, .int .i64 on, .int .i64 om, .slice tA tn tc]] w (OpOut (Kb base p) w p base used fuel ov rest (sameR pile at_)) := by
  have H := Fact.mk h
  have KB : Fact (Keep All w (w.alloc (.cells #[.int .i64 16, .int .i64 on, .int .i64 om, .slice tA tn tc] 25))) := ⟨(Keep.refl _ w).alloc _⟩
  have HOB : Fact (Blk (w.alloc (.cells #[.int .i64 16, .int .i64 on, .int .i64 om, .slice tA tn tc] 25)) w.heap.size [.int .i64 16, .int .i64 on, .int .i64 om, .slice tA tn tc] 25) := ⟨Blk.new w _ 25⟩
  have hwp : w.heap.size ≠ p := by have := h.pb; have := h.size; omega
  obtain ⟨RR, hRR⟩ : ∃ q, q = sameR pile at_ := ⟨_, rfl⟩
  rw [← hRR]
  have HRR := Fact.mk hRR
  clear h hRR
  rcases pile_cases pile with rfl | ⟨xs, x, rfl⟩
  · have HF : Fact (RR = none) := ⟨by rw [HRR.out]; simp [sameR]⟩
    go_enter Tryz.func115, Tryz.ntmps115
    go_wp2_with (go_at_call 162; go_must (refine (take162_nil _ p base used fuel at_ ov pv rest (H.out.keep KB.out)).mono ?_); rintro e v ⟨he, hb⟩; unfold errFail at he; subst he; have HB := Fact.mk hb; clear hb)
    refine ⟨rfl, ?_⟩
    rw [HF.out]
    have hq := HB.out
    exact ⟨⟨rfl, hq.1⟩, KB.out.all.trans (hq.2.mono fun i hi => hi.2)⟩
  · go_enter Tryz.func115, Tryz.ntmps115
    go_upto_region 8 with (go_at_call 162; go_must (refine (take162g _ p base used fuel at_ ov pv rest xs x (H.out.keep KB.out)).mono ?_); rintro e w1 ⟨v, pv1, rfl, hb, hpv, ⟨Ax, cx, Bx, dx, rfl, hrx⟩, hk⟩; have HB1 := Fact.mk hb; have HR := Fact.mk hrx; have K1 := Fact.mk (KB.out.all.trans hk); have o0 := (HOB.out.keep hk hwp).cell 0 _ rfl; have ol := (HOB.out.keep hk hwp).lt; have onn : w.heap.size ≠ w1.heap.size := Nat.ne_of_lt ol; clear hb hrx hk)
    obtain ⟨W, hW⟩ : ∃ X, X = w1.alloc (.cells #[.int .i64 x.kind, .slice Ax x.bytes.length cx, .slice Bx x.kids.length dx] 58) := ⟨_, rfl⟩
    have KW : Fact (Keep All w1 W) := ⟨hW ▸ (Keep.refl _ w1).alloc _⟩
    have BX : Fact (Blk W w1.heap.size [.int .i64 x.kind, .slice Ax x.bytes.length cx, .slice Bx x.kids.length dx] 58) := ⟨hW ▸ Blk.new w1 _ 58⟩
    rw [← hW]
    clear hW
    have y0 := BX.out.cell 0 _ rfl
    have y1 := BX.out.cell 1 _ rfl
    have y2 := BX.out.cell 2 _ rfl
    have HBW := Fact.mk (HB1.out.keep KW.out.drew)
    have hxp : w1.heap.size ≠ p := by have := HB1.out.pb; have := HB1.out.size; omega
    refine wp_region_T 99 (fun w' => w'.cell? ⟨w1.heap.size, 0, none⟩ = some (.int .i64 x.kind) ∧ w'.cell? ⟨w1.heap.size, 1, none⟩ = some (.slice Ax x.bytes.length cx) ∧ w'.cell? ⟨w1.heap.size, 2, none⟩ = some (.slice Bx x.kids.length dx)) (by kernel_rfl) (by go_keep) (fun hHeld => ?_)
    refine takeH (i := 0) (v := ?_) rfl (by kernel_rfl) (by kernel_rfl) (by kernel_rfl) rfl (fun _ _ _ h => h) rfl ?_ (by assumption) ?_
    rotate_left
    · (intro w hSw; (try dsimp only at hSw); go_simp; try with_reducible rfl)
    try simp only [Act.put, List.setIfInBounds_toArray, List.set_cons_zero, List.set_cons_succ]
    refine takeH (i := 1) (v := ?_) rfl (by kernel_rfl) (by kernel_rfl) (by kernel_rfl) rfl (fun _ _ _ h => h) rfl ?_ (by assumption) ?_
    rotate_left
    · (intro w hSw; (try dsimp only at hSw); go_simp; try with_reducible rfl)
    try simp only [Act.put, List.setIfInBounds_toArray, List.set_cons_zero, List.set_cons_succ]
    refine takeH (i := 2) (v := ?_) rfl (by kernel_rfl) (by kernel_rfl) (by kernel_rfl) rfl (fun _ _ _ h => h) rfl ?_ (by assumption) ?_
    rotate_left
    · (intro w hSw; (try dsimp only at hSw); go_simp; try with_reducible rfl)
    try simp only [Act.put, List.setIfInBounds_toArray, List.set_cons_zero, List.set_cons_succ]
    refine takeH (i := 3) (v := ?_) rfl (by kernel_rfl) (by kernel_rfl) (by kernel_rfl) rfl (fun _ _ _ h => h) rfl ?_ (by assumption) ?_
    rotate_left
    · (intro w hSw; (try dsimp only at hSw); go_simp; try with_reducible rfl)
    try simp only [Act.put, List.setIfInBounds_toArray, List.set_cons_zero, List.set_cons_succ]
    refine takeH (i := 4) (v := ?_) rfl (by kernel_rfl) (by kernel_rfl) (by kernel_rfl) rfl (fun _ _ _ h => h) rfl ?_ (by assumption) ?_
    rotate_left
    · (intro w hSw; (try dsimp only at hSw); go_simp; try with_reducible rfl)
    try simp only [Act.put, List.setIfInBounds_toArray, List.set_cons_zero, List.set_cons_succ]
    refine takeH (i := 5) (v := ?_) rfl (by kernel_rfl) (by kernel_rfl) (by kernel_rfl) rfl (fun _ _ _ h => h) rfl ?_ (by assumption) ?_
    rotate_left
    · (intro w hSw; (try dsimp only at hSw); go_simp; try with_reducible rfl)
    try simp only [Act.put, List.setIfInBounds_toArray, List.set_cons_zero, List.set_cons_succ]
    refine takeH (i := 7) (v := ?_) rfl (by kernel_rfl) (by kernel_rfl) (by kernel_rfl) rfl (fun _ _ _ h => h) rfl ?_ (by assumption) ?_
    rotate_left
    · (intro w hSw; (try dsimp only at hSw); go_simp; try with_reducible rfl)
    try simp only [Act.put, List.setIfInBounds_toArray, List.set_cons_zero, List.set_cons_succ]
    refine nextT (i := 6) (by kernel_rfl) rfl (fun K hK => ?_)
    go_simp
    rcases pile_cases xs with rfl | ⟨xs, d, rfl⟩
    · refine (take162_nil _ p base used fuel at_ ov pv1 rest HBW.out).mono ?_
      rintro e v ⟨he, hb⟩
      unfold errFail at he
      subst he
      have HF : RR = none := by rw [HRR.out]; simp [sameR]
      refine ⟨rfl, ?_⟩
      rw [HF]
      exact ⟨⟨rfl, hb.1⟩, ((K1.out.mono fun i hi => hi.2).trans KW.out.drew.all).trans (hb.2.mono fun i hi => hi.2)⟩
    · obtain ⟨q, hq⟩ : ∃ q, q = equalP d x := ⟨_, rfl⟩
      have HF : Fact (RR = putR xs [.mk 1 (if q = true then [49] else []) []] at_) := ⟨by rw [HRR.out, hq]; simp [sameR]⟩
      refine (take162g _ p base used fuel at_ ov pv1 rest xs d HBW.out).mono ?_
      rintro e w2 ⟨vd, pv2, rfl, hb, hpv2, hvd, hk⟩
      have HB2 := Fact.mk hb
      have HVD := Fact.mk hvd
      have K2 := Fact.mk hk
      have HQE := Fact.mk hq
      have z0 := hk.cell (p := ⟨w1.heap.size, 0, none⟩) hxp y0
      have z1 := hk.cell (p := ⟨w1.heap.size, 1, none⟩) hxp y1
      have z2 := hk.cell (p := ⟨w1.heap.size, 2, none⟩) hxp y2
      clear hb hvd hk hHeld y0 y1 y2 hq
      refine hK.out _ _ (by exact ⟨z0, z1, z2⟩) (fun hHeld => ?_)
      clear hK K
      try simp only [Act.put, List.setIfInBounds_toArray, List.set_cons_zero, List.set_cons_succ]
      refine nextT (i := 8) (by kernel_rfl) rfl (fun K hK => ?_)
      go_simp
      have HVX : Fact (NodeV w2 (Gp p pv2) x (.agg #[.int .i64 x.kind, .slice Ax x.bytes.length cx, .slice Bx x.kids.length dx])) := ⟨⟨Ax, cx, Bx, dx, rfl, ((HR.out.keep KW.out.drew.all).keep (K2.out.mono fun i hi => hi.1)).mono fun i _ hi => ⟨hi.1, by rw [hpv2]; exact hi.2⟩⟩⟩
      refine (same174g w2 (Gp p pv2) (Gp p pv2) d x vd _ HVD.out HVX.out).mono ?_
      rintro e w3 ⟨rfl, hk3⟩
      obtain ⟨qc, hqc⟩ : ∃ c : Int, c = (if equalP d x = true then 1 else 0) := ⟨_, rfl⟩
      rw [← hqc]
      rw [← HQE.out] at hqc
      have HQC := Fact.mk hqc
      clear hqc
      have K3 := Fact.mk hk3
      have u0 := hk3.cell (p := ⟨w1.heap.size, 0, none⟩) trivial z0
      have u1 := hk3.cell (p := ⟨w1.heap.size, 1, none⟩) trivial z1
      have u2 := hk3.cell (p := ⟨w1.heap.size, 2, none⟩) trivial z2
      clear hk3 hHeld z0 z1 z2
      refine hK.out _ _ (by exact ⟨u0, u1, u2⟩) (fun hHeld => ?_)
      clear hK K
      try simp only [Act.put, List.setIfInBounds_toArray, List.set_cons_zero, List.set_cons_succ]
      obtain ⟨tq, htq⟩ : ∃ t : ByteArray, t = ⟨(if q = true then [49] else [] : List UInt8).toArray⟩ := ⟨_, rfl⟩
      have CREP : Fact (∀ w', Calls Tryz.prog 173 #[.string ⟨#[49]⟩, .int .i64 qc] w' fun e w'' => e = .returned (.string tq) ∧ w'' = w') := ⟨fun w' => by
        rw [htq, HQC.out]
        cases q with
        | true => exact Tryz.strings_Repeat_one ⟨#[49]⟩ w'
        | false => exact Tryz.strings_Repeat_zero ⟨#[49]⟩ w'⟩
      have htl : tq.data.toList = (if q = true then [49] else [] : List UInt8) := by rw [htq]
      have hts : tq.size ≤ 4611686018427387904 := by
        rw [htq]
        cases q <;> decide
      have HTL := Fact.mk htl
      have HTS := Fact.mk hts
      clear htq htl hts
      refine nextT (i := 9) (by kernel_rfl) rfl (fun K hK => ?_)
      go_simp
      refine (CREP.out w3).mono ?_
      rintro e w3' ⟨rfl, hw3⟩
      rw [hw3]
      clear hw3 hHeld
      refine hK.out _ _ (by exact ⟨u0, u1, u2⟩) (fun hHeld => ?_)
      clear hK K
      try simp only [Act.put, List.setIfInBounds_toArray, List.set_cons_zero, List.set_cons_succ]
      refine nextT (i := 10) (by kernel_rfl) rfl (fun K hK => ?_)
      rw [if_pos (show Region.wanted _ _ = true by simp [Region.wanted])]
      refine wp_conv923 (.tmp 44) tq rfl rfl HTS.out (fun c4 w4 hby hk4 hlt4 => ?_)
      have HY4 := Fact.mk hby
      have K4 := Fact.mk hk4
      have t0 := hk4.cell (p := ⟨w1.heap.size, 0, none⟩) trivial u0
      have t1 := hk4.cell (p := ⟨w1.heap.size, 1, none⟩) trivial u1
      have t2 := hk4.cell (p := ⟨w1.heap.size, 2, none⟩) trivial u2
      clear hby hk4 hHeld u0 u1 u2
      refine hK.out _ _ (by exact ⟨t0, t1, t2⟩) (fun hHeld => ?_)
      clear hK K
      try simp only [Act.put, List.setIfInBounds_toArray, List.set_cons_zero, List.set_cons_succ]
      refine nextT (i := 11) (by kernel_rfl) rfl (fun K hK => ?_)
      go_simp
      have KF : Fact (Keep (Kb base p) w w4) := ⟨((((K1.out.mono fun i hi => hi.2).trans KW.out.drew.all).trans (K2.out.mono fun i hi => hi.2)).trans K3.out.all).trans K4.out.all⟩
      have HXG : Fact (Gp p pv2 w1.heap.size) := ⟨⟨hxp, by rw [hpv2]; exact (HB1.out.ge (Nat.le_refl _)).2⟩⟩
      have hlf := leaf168g w4 p base used fuel at_ ov pv2 rest (Gp p pv2) xs 1 tq.data.toList (some ⟨w3.heap.size, 0, none⟩) c4 (HB2.out.keep (K3.out.trans K4.out)) (HY4.out.mono fun i _ hi => by subst hi; exact (HB2.out.keep K3.out).ge (Nat.le_refl _)) (Small.of (by rw [HTL.out]; cases q <;> decide))
      rw [HTL.out, ← HF.out, ← HTL.out] at hlf
      refine hlf.mono ?_
      clear hlf
      intro e w5 hq
      have HQ := Fact.mk hq
      clear hq
      cases e with
      | returned u =>
        refine hK.out _ _ (by have hx : Gp p pv2 w1.heap.size := HXG.out; exact ⟨HQ.out.2.cell (p := ⟨w1.heap.size, 0, none⟩) hx t0, HQ.out.2.cell (p := ⟨w1.heap.size, 1, none⟩) hx t1, HQ.out.2.cell (p := ⟨w1.heap.size, 2, none⟩) hx t2⟩) (fun hHeld => ⟨by kernel_rfl, ?_⟩)
        clear hK K
        try simp only [Act.put, List.setIfInBounds_toArray, List.set_cons_zero, List.set_cons_succ]
        go_wp2
        go_end0
        skip
        exact (HQ.out.from_ KF.out HB2.out.kb).ret
      | panicked ch =>
        dsimp only
        skip
        exact ⟨rfl, HQ.out.from_ KF.out HB2.out.kb⟩
      | outgrown => exact HQ.out.no.elim
theorem shift19 (pile : List PNode) (on om : Int) (tA : Option Addr) (tn tc : Nat) (h : BSt w p base used fuel at_ ov rest pile pv) : Calls Tryz.prog 115 #[.pointer (some ⟨p, 0, none⟩), .agg #[.int .i64 19, .int .i64 on, .int .i64 om, .slice tA tn tc]] w (OpOut (Kb base p) w p base used fuel ov rest (waysR pile at_)) := by
  have H := Fact.mk h
  have KB : Fact (Keep All w (w.alloc (.cells #[.int .i64 19, .int .i64 on, .int .i64 om, .slice tA tn tc] 25))) := ⟨(Keep.refl _ w).alloc _⟩
  have HOB : Fact (Blk (w.alloc (.cells #[.int .i64 19, .int .i64 on, .int .i64 om, .slice tA tn tc] 25)) w.heap.size [.int .i64 19, .int .i64 on, .int .i64 om, .slice tA tn tc] 25) := ⟨Blk.new w _ 25⟩
  have hwp : w.heap.size ≠ p := by have := h.pb; have := h.size; omega
  obtain ⟨RR, hRR⟩ : ∃ q, q = waysR pile at_ := ⟨_, rfl⟩
  rw [← hRR]
  have HRR := Fact.mk hRR
  clear h hRR
  rcases pile_cases pile with rfl | ⟨xs, x, rfl⟩
  · have HF : Fact (RR = none) := ⟨by rw [HRR.out]; simp [waysR]⟩
    go_enter Tryz.func115, Tryz.ntmps115
    go_wp2_with (go_at_call 162; go_must (refine (take162_nil _ p base used fuel at_ ov pv rest (H.out.keep KB.out)).mono ?_); rintro e v ⟨he, hb⟩; unfold errFail at he; subst he; have HB := Fact.mk hb; clear hb)
    refine ⟨rfl, ?_⟩
    rw [HF.out]
    have hq := HB.out
    exact ⟨⟨rfl, hq.1⟩, KB.out.all.trans (hq.2.mono fun i hi => hi.2)⟩
  · have HXR := Fact.mk H.out.rightTop
    have HCT := Fact.mk (rightP_cnt HXR.out)
    have HF : Fact (RR = putR xs [.mk 1 (waysB x) []] at_) := ⟨by rw [HRR.out]; simp [waysR]⟩
    go_enter Tryz.func115, Tryz.ntmps115
    go_upto_region 10 with (go_at_call 162; go_must (refine (take162g _ p base used fuel at_ ov pv rest xs x (H.out.keep KB.out)).mono ?_); rintro e w1 ⟨v, pv1, rfl, hb, hpv, ⟨Ax, cx, Bx, dx, rfl, hrx⟩, hk⟩; have HB1 := Fact.mk hb; have HR := Fact.mk hrx; have K1 := Fact.mk (KB.out.all.trans hk); have o0 := (HOB.out.keep hk hwp).cell 0 _ rfl; have ol := (HOB.out.keep hk hwp).lt; have onn : w.heap.size ≠ w1.heap.size := Nat.ne_of_lt ol; clear hb hrx hk)
    obtain ⟨W, hW⟩ : ∃ X, X = w1.alloc (.cells #[.int .i64 x.kind, .slice Ax x.bytes.length cx, .slice Bx x.kids.length dx] 58) := ⟨_, rfl⟩
    have KW : Fact (Keep All w1 W) := ⟨hW ▸ (Keep.refl _ w1).alloc _⟩
    have BX : Fact (Blk W w1.heap.size [.int .i64 x.kind, .slice Ax x.bytes.length cx, .slice Bx x.kids.length dx] 58) := ⟨hW ▸ Blk.new w1 _ 58⟩
    rw [← hW]
    clear hW
    have y0 := BX.out.cell 0 _ rfl
    have y1 := BX.out.cell 1 _ rfl
    have y2 := BX.out.cell 2 _ rfl
    have HBW := Fact.mk (HB1.out.keep KW.out.drew)
    have hxp : w1.heap.size ≠ p := by have := HB1.out.pb; have := HB1.out.size; omega
    refine wp_region_T 99 (fun w' => w'.cell? ⟨w1.heap.size, 0, none⟩ = some (.int .i64 x.kind) ∧ w'.cell? ⟨w1.heap.size, 1, none⟩ = some (.slice Ax x.bytes.length cx) ∧ w'.cell? ⟨w1.heap.size, 2, none⟩ = some (.slice Bx x.kids.length dx)) (by kernel_rfl) (by go_keep) (fun hHeld => ?_)
    refine takeH (i := 0) (v := ?_) rfl (by kernel_rfl) (by kernel_rfl) (by kernel_rfl) rfl (fun _ _ _ h => h) rfl ?_ (by assumption) ?_
    rotate_left
    · (intro w hSw; (try dsimp only at hSw); go_simp; try with_reducible rfl)
    try simp only [Act.put, List.setIfInBounds_toArray, List.set_cons_zero, List.set_cons_succ]
    refine takeH (i := 1) (v := ?_) rfl (by kernel_rfl) (by kernel_rfl) (by kernel_rfl) rfl (fun _ _ _ h => h) rfl ?_ (by assumption) ?_
    rotate_left
    · (intro w hSw; (try dsimp only at hSw); go_simp; try with_reducible rfl)
    try simp only [Act.put, List.setIfInBounds_toArray, List.set_cons_zero, List.set_cons_succ]
    refine takeH (i := 2) (v := ?_) rfl (by kernel_rfl) (by kernel_rfl) (by kernel_rfl) rfl (fun _ _ _ h => h) rfl ?_ (by assumption) ?_
    rotate_left
    · (intro w hSw; (try dsimp only at hSw); go_simp; try with_reducible rfl)
    try simp only [Act.put, List.setIfInBounds_toArray, List.set_cons_zero, List.set_cons_succ]
    refine takeH (i := 3) (v := ?_) rfl (by kernel_rfl) (by kernel_rfl) (by kernel_rfl) rfl (fun _ _ _ h => h) rfl ?_ (by assumption) ?_
    rotate_left
    · (intro w hSw; (try dsimp only at hSw); go_simp; try with_reducible rfl)
    try simp only [Act.put, List.setIfInBounds_toArray, List.set_cons_zero, List.set_cons_succ]
    have HVX : Fact (NodeV W (Gp p pv1) x (.agg #[.int .i64 x.kind, .slice Ax x.bytes.length cx, .slice Bx x.kids.length dx])) := ⟨⟨Ax, cx, Bx, dx, rfl, HR.out.keep KW.out.all⟩⟩
    refine nextT2 (i := 4) (j := 5) (by kernel_rfl) rfl rfl (fun K hK => ?_) (fun K hK => ?_)
    · go_simp
      refine (ways176g W.drew (Gp p pv1) x _ (HVX.out.keep (Keep.refl _ W).drew) HXR.out).mono ?_
      rintro e w2 ⟨Aw, cw, rfl, hrow, hk⟩
      have HR2 := Fact.mk hrow
      have K2 : Fact (Keep All W w2) := ⟨(Keep.refl _ W).drew.trans hk⟩
      have z0 := K2.out.cell (p := ⟨w1.heap.size, 0, none⟩) trivial y0
      have z1 := K2.out.cell (p := ⟨w1.heap.size, 1, none⟩) trivial y1
      have z2 := K2.out.cell (p := ⟨w1.heap.size, 2, none⟩) trivial y2
      clear hrow hk hHeld
      refine hK.out _ _ (by exact ⟨z0, z1, z2⟩) (fun hHeld => ?_)
      clear hK K
      try simp only [Act.put, List.setIfInBounds_toArray, List.set_cons_zero, List.set_cons_succ]
      refine nextT (i := 5) (by kernel_rfl) rfl (fun K hK => ?_)
      go_simp
      obtain ⟨w3, hw3⟩ : ∃ X, X = w2.alloc (.cells #[.string ⟨#[]⟩] 9) := ⟨_, rfl⟩
      have K3 : Fact (Keep All W w3) := ⟨hw3 ▸ K2.out.alloc _⟩
      have S3 : Fact (Sl w3 (fun i => w2.heap.size ≤ i) 1 (.slice (some ⟨w2.heap.size, 0, none⟩) 1 1) 1 [.string ⟨#[]⟩]) := ⟨hw3 ▸ Sl.new w2 9 1 1 _ rfl (by decide) (by simp [Value.oneCell'])⟩
      have HR3 : Fact (w3.ownsRow W.heap.size 9 1 (.slice Aw x.cnt cw) x.cnt ((waysN ⟨#[]⟩ x).map Value.string)) := ⟨hw3 ▸ own_keep HR2.out ((Keep.refl All w2).alloc _) fun _ _ => trivial⟩
      rw [← hw3]
      have v0 := K3.out.cell (p := ⟨w1.heap.size, 0, none⟩) trivial y0
      have v1 := K3.out.cell (p := ⟨w1.heap.size, 1, none⟩) trivial y1
      have v2 := K3.out.cell (p := ⟨w1.heap.size, 2, none⟩) trivial y2
      clear hw3 hHeld
      refine hK.out _ _ (by exact ⟨v0, v1, v2⟩) (fun hHeld => ?_)
      clear hK K
      try simp only [Act.put, List.setIfInBounds_toArray, List.set_cons_zero, List.set_cons_succ]
      refine nextT (i := 6) (by kernel_rfl) rfl (fun K hK => ?_)
      rw [if_pos (show Region.wanted _ _ = true by simp [Region.wanted])]
      refine wp_ap (.tmp 53) (.tmp 54) 125 9 1 16 W.heap.size x.cnt 1 HR3.out S3.out rfl T125 rfl rfl (Fits.of (Small.of (by have := HCT.out; omega)) 16 (by decide)) K3.out.size ?_
      intro v' w4 ho hg hb
      obtain ⟨g4, c4, C4, hv, hbg, hblk, hd1, hd2, hd3, htk⟩ := own_blk ho (by omega)
      subst hv
      have HO4 := Fact.mk ho
      have K4 : Fact (Keep All W w4) := ⟨K3.out.grown hg fun q hq => .inl (HR3.out.lt q hq).1⟩
      have HC4 := Fact.mk hd1
      have hg4 := hblk.lt
      have u0 := K4.out.cell (p := ⟨w1.heap.size, 0, none⟩) trivial y0
      have u1 := K4.out.cell (p := ⟨w1.heap.size, 1, none⟩) trivial y1
      have u2 := K4.out.cell (p := ⟨w1.heap.size, 2, none⟩) trivial y2
      clear ho hg hb hblk hd1 hd2 hd3 htk hHeld
      refine hK.out _ _ (by exact ⟨u0, u1, u2⟩) (fun hHeld => ?_)
      clear hK K
      try simp only [Act.put, List.setIfInBounds_toArray, List.set_cons_zero, List.set_cons_succ]
      have HWT : Fact ((waysT x).length = x.cnt + 1) := ⟨by rw [waysT, List.length_append, waysN_len]; rfl⟩
      have CJ : Fact (Calls Tryz.prog 175 #[.slice (some ⟨g4, 0, none⟩) (x.cnt + 1) c4, .string ⟨#[10]⟩] w4 fun e w' => e = .returned (.string ⟨(waysB x).toArray⟩) ∧ Below w4.heap.size w4 w') := ⟨by
        have hj := Tryz.strings_Join g4 0 c4 (waysT x) ⟨#[10]⟩ w4 (fun j s hj => by
          have hjl : j < (waysT x).length := (List.getElem?_eq_some_iff.1 hj).1
          have h := HO4.out.cells (g := g4) rfl j (.string s) (by
            rw [show (waysN ⟨#[]⟩ x).map Value.string ++ [Value.string ⟨#[]⟩] = (waysT x).map Value.string by rw [waysT, List.map_append]; rfl, List.getElem?_map, hj]
            rfl)
          rw [add_at] at h
          exact h) hg4 (by have := HWT.out; have := HCT.out; omega) (by rw [HWT.out]; exact HC4.out) (by
          have := waysB_le HXR.out
          unfold waysB at this
          exact Nat.le_trans this (by decide))
        rw [HWT.out] at hj
        exact hj⟩
      refine nextT (i := 7) (by kernel_rfl) rfl (fun K hK => ?_)
      go_simp
      refine (CJ.out).mono ?_
      rintro e w5 ⟨rfl, hbl⟩
      have K5 : Fact (Keep All w4 w5) := ⟨⟨hbl.os, hbl.tape, hbl.output, hbl.size, fun i hi _ => hbl.block i hi⟩⟩
      have t0 := K5.out.cell (p := ⟨w1.heap.size, 0, none⟩) trivial u0
      have t1 := K5.out.cell (p := ⟨w1.heap.size, 1, none⟩) trivial u1
      have t2 := K5.out.cell (p := ⟨w1.heap.size, 2, none⟩) trivial u2
      clear hbl hHeld u0 u1 u2
      refine hK.out _ _ (by exact ⟨t0, t1, t2⟩) (fun hHeld => ?_)
      clear hK K
      try simp only [Act.put, List.setIfInBounds_toArray, List.set_cons_zero, List.set_cons_succ]
      obtain ⟨tq, htq⟩ : ∃ t : ByteArray, t = ⟨(waysB x).toArray⟩ := ⟨_, rfl⟩
      have htl : tq.data.toList = waysB x := by rw [htq]
      have hts : tq.size ≤ 60000 := by
        have h1 := waysB_le HXR.out
        rw [← htl, Array.length_toList] at h1
        exact h1
      rw [← htq]
      have HTL := Fact.mk htl
      have HTS := Fact.mk hts
      clear htq htl hts
      refine nextT (i := 8) (by kernel_rfl) rfl (fun K hK => ?_)
      rw [if_pos (show Region.wanted _ _ = true by simp [Region.wanted])]
      refine wp_conv923 (.tmp 56) tq rfl rfl (Nat.le_trans HTS.out (by decide)) (fun c6 w6 hby hk6 hlt6 => ?_)
      have HY6 := Fact.mk hby
      have K6 := Fact.mk hk6
      have s0 := hk6.cell (p := ⟨w1.heap.size, 0, none⟩) trivial t0
      have s1 := hk6.cell (p := ⟨w1.heap.size, 1, none⟩) trivial t1
      have s2 := hk6.cell (p := ⟨w1.heap.size, 2, none⟩) trivial t2
      clear hby hk6 hHeld t0 t1 t2
      refine hK.out _ _ (by exact ⟨s0, s1, s2⟩) (fun hHeld => ?_)
      clear hK K
      try simp only [Act.put, List.setIfInBounds_toArray, List.set_cons_zero, List.set_cons_succ]
      refine nextT (i := 9) (by kernel_rfl) rfl (fun K hK => ?_)
      go_simp
      have KF : Fact (Keep (Kb base p) w w6) := ⟨((((K1.out.mono fun i hi => hi.2).trans KW.out.all).trans K4.out.all).trans K5.out.all).trans K6.out.all⟩
      have HXG : Fact (Gp p pv1 w1.heap.size) := ⟨HB1.out.ge (Nat.le_refl _)⟩
      have HB5 := Fact.mk (HB1.out.keep ((KW.out.trans K4.out).trans K5.out))
      have hlf := leaf168g w6 p base used fuel at_ ov pv1 rest (Gp p pv1) xs 1 tq.data.toList (some ⟨w5.heap.size, 0, none⟩) c6 (HB5.out.keep K6.out) (HY6.out.mono fun i _ hi => by subst hi; exact HB5.out.ge (Nat.le_refl _)) (Small.of (by rw [Array.length_toList]; exact Nat.le_trans HTS.out (by decide)))
      rw [HTL.out, ← HF.out, ← HTL.out] at hlf
      refine hlf.mono ?_
      clear hlf
      intro e w7 hq
      have HQ := Fact.mk hq
      clear hq
      cases e with
      | returned u =>
        refine hK.out _ _ (by have hx : Gp p pv1 w1.heap.size := HXG.out; exact ⟨HQ.out.2.cell (p := ⟨w1.heap.size, 0, none⟩) hx s0, HQ.out.2.cell (p := ⟨w1.heap.size, 1, none⟩) hx s1, HQ.out.2.cell (p := ⟨w1.heap.size, 2, none⟩) hx s2⟩) (fun hHeld => ⟨by kernel_rfl, ?_⟩)
        clear hK K
        try simp only [Act.put, List.setIfInBounds_toArray, List.set_cons_zero, List.set_cons_succ]
        go_wp2
        go_end0
        skip
        exact (HQ.out.from_ KF.out HB1.out.kb).ret
      | panicked ch =>
        dsimp only
        skip
        exact ⟨rfl, HQ.out.from_ KF.out HB1.out.kb⟩
      | outgrown => exact HQ.out.no.elim
    · go_simp
      obtain ⟨w2, hw2⟩ : ∃ X, X = W.drew.alloc (.cells #[.string ⟨#[]⟩] 9) := ⟨_, rfl⟩
      have K2 : Fact (Keep All W w2) := ⟨hw2 ▸ (Keep.refl _ W).drew.alloc _⟩
      have S2 : Fact (Sl w2 (fun i => W.heap.size ≤ i) 1 (.slice (some ⟨W.heap.size, 0, none⟩) 1 1) 1 [.string ⟨#[]⟩]) := ⟨hw2 ▸ Sl.new W.drew 9 1 1 _ rfl (by decide) (by simp [Value.oneCell'])⟩
      rw [show (W.alloc (.cells #[.string ⟨#[]⟩] 9)).drew = w2 from hw2 ▸ rfl]
      have z0 := K2.out.cell (p := ⟨w1.heap.size, 0, none⟩) trivial y0
      have z1 := K2.out.cell (p := ⟨w1.heap.size, 1, none⟩) trivial y1
      have z2 := K2.out.cell (p := ⟨w1.heap.size, 2, none⟩) trivial y2
      clear hw2 hHeld
      refine hK.out _ _ (by exact ⟨z0, z1, z2⟩) (fun hHeld => ?_)
      clear hK K
      try simp only [Act.put, List.setIfInBounds_toArray, List.set_cons_zero, List.set_cons_succ]
      refine nextT (i := 4) (by kernel_rfl) rfl (fun K hK => ?_)
      go_simp
      refine (ways176g w2 (Gp p pv1) x _ (HVX.out.keep K2.out.all) HXR.out).mono ?_
      rintro e w3 ⟨Aw, cw, rfl, hrow, hk⟩
      have HR3 : Fact (w3.ownsRow W.heap.size 9 1 (.slice Aw x.cnt cw) x.cnt ((waysN ⟨#[]⟩ x).map Value.string)) := ⟨own_base hrow K2.out.size⟩
      have K3 : Fact (Keep All W w3) := ⟨K2.out.trans hk⟩
      have S3 := Fact.mk (S2.out.keep hk.all)
      have v0 := K3.out.cell (p := ⟨w1.heap.size, 0, none⟩) trivial y0
      have v1 := K3.out.cell (p := ⟨w1.heap.size, 1, none⟩) trivial y1
      have v2 := K3.out.cell (p := ⟨w1.heap.size, 2, none⟩) trivial y2
      clear hrow hk hHeld
      refine hK.out _ _ (by exact ⟨v0, v1, v2⟩) (fun hHeld => ?_)
      clear hK K
      try simp only [Act.put, List.setIfInBounds_toArray, List.set_cons_zero, List.set_cons_succ]
      refine nextT (i := 6) (by kernel_rfl) rfl (fun K hK => ?_)
      rw [if_pos (show Region.wanted _ _ = true by simp [Region.wanted])]
      refine wp_ap (.tmp 53) (.tmp 54) 125 9 1 16 W.heap.size x.cnt 1 HR3.out S3.out rfl T125 rfl rfl (Fits.of (Small.of (by have := HCT.out; omega)) 16 (by decide)) K3.out.size ?_
      intro v' w4 ho hg hb
      obtain ⟨g4, c4, C4, hv, hbg, hblk, hd1, hd2, hd3, htk⟩ := own_blk ho (by omega)
      subst hv
      have HO4 := Fact.mk ho
      have K4 : Fact (Keep All W w4) := ⟨K3.out.grown hg fun q hq => .inl (HR3.out.lt q hq).1⟩
      have HC4 := Fact.mk hd1
      have hg4 := hblk.lt
      have u0 := K4.out.cell (p := ⟨w1.heap.size, 0, none⟩) trivial y0
      have u1 := K4.out.cell (p := ⟨w1.heap.size, 1, none⟩) trivial y1
      have u2 := K4.out.cell (p := ⟨w1.heap.size, 2, none⟩) trivial y2
      clear ho hg hb hblk hd1 hd2 hd3 htk hHeld
      refine hK.out _ _ (by exact ⟨u0, u1, u2⟩) (fun hHeld => ?_)
      clear hK K
      try simp only [Act.put, List.setIfInBounds_toArray, List.set_cons_zero, List.set_cons_succ]
      have HWT : Fact ((waysT x).length = x.cnt + 1) := ⟨by rw [waysT, List.length_append, waysN_len]; rfl⟩
      have CJ : Fact (Calls Tryz.prog 175 #[.slice (some ⟨g4, 0, none⟩) (x.cnt + 1) c4, .string ⟨#[10]⟩] w4 fun e w' => e = .returned (.string ⟨(waysB x).toArray⟩) ∧ Below w4.heap.size w4 w') := ⟨by
        have hj := Tryz.strings_Join g4 0 c4 (waysT x) ⟨#[10]⟩ w4 (fun j s hj => by
          have hjl : j < (waysT x).length := (List.getElem?_eq_some_iff.1 hj).1
          have h := HO4.out.cells (g := g4) rfl j (.string s) (by
            rw [show (waysN ⟨#[]⟩ x).map Value.string ++ [Value.string ⟨#[]⟩] = (waysT x).map Value.string by rw [waysT, List.map_append]; rfl, List.getElem?_map, hj]
            rfl)
          rw [add_at] at h
          exact h) hg4 (by have := HWT.out; have := HCT.out; omega) (by rw [HWT.out]; exact HC4.out) (by
          have := waysB_le HXR.out
          unfold waysB at this
          exact Nat.le_trans this (by decide))
        rw [HWT.out] at hj
        exact hj⟩
      refine nextT (i := 7) (by kernel_rfl) rfl (fun K hK => ?_)
      go_simp
      refine (CJ.out).mono ?_
      rintro e w5 ⟨rfl, hbl⟩
      have K5 : Fact (Keep All w4 w5) := ⟨⟨hbl.os, hbl.tape, hbl.output, hbl.size, fun i hi _ => hbl.block i hi⟩⟩
      have t0 := K5.out.cell (p := ⟨w1.heap.size, 0, none⟩) trivial u0
      have t1 := K5.out.cell (p := ⟨w1.heap.size, 1, none⟩) trivial u1
      have t2 := K5.out.cell (p := ⟨w1.heap.size, 2, none⟩) trivial u2
      clear hbl hHeld u0 u1 u2
      refine hK.out _ _ (by exact ⟨t0, t1, t2⟩) (fun hHeld => ?_)
      clear hK K
      try simp only [Act.put, List.setIfInBounds_toArray, List.set_cons_zero, List.set_cons_succ]
      obtain ⟨tq, htq⟩ : ∃ t : ByteArray, t = ⟨(waysB x).toArray⟩ := ⟨_, rfl⟩
      have htl : tq.data.toList = waysB x := by rw [htq]
      have hts : tq.size ≤ 60000 := by
        have h1 := waysB_le HXR.out
        rw [← htl, Array.length_toList] at h1
        exact h1
      rw [← htq]
      have HTL := Fact.mk htl
      have HTS := Fact.mk hts
      clear htq htl hts
      refine nextT (i := 8) (by kernel_rfl) rfl (fun K hK => ?_)
      rw [if_pos (show Region.wanted _ _ = true by simp [Region.wanted])]
      refine wp_conv923 (.tmp 56) tq rfl rfl (Nat.le_trans HTS.out (by decide)) (fun c6 w6 hby hk6 hlt6 => ?_)
      have HY6 := Fact.mk hby
      have K6 := Fact.mk hk6
      have s0 := hk6.cell (p := ⟨w1.heap.size, 0, none⟩) trivial t0
      have s1 := hk6.cell (p := ⟨w1.heap.size, 1, none⟩) trivial t1
      have s2 := hk6.cell (p := ⟨w1.heap.size, 2, none⟩) trivial t2
      clear hby hk6 hHeld t0 t1 t2
      refine hK.out _ _ (by exact ⟨s0, s1, s2⟩) (fun hHeld => ?_)
      clear hK K
      try simp only [Act.put, List.setIfInBounds_toArray, List.set_cons_zero, List.set_cons_succ]
      refine nextT (i := 9) (by kernel_rfl) rfl (fun K hK => ?_)
      go_simp
      have KF : Fact (Keep (Kb base p) w w6) := ⟨((((K1.out.mono fun i hi => hi.2).trans KW.out.all).trans K4.out.all).trans K5.out.all).trans K6.out.all⟩
      have HXG : Fact (Gp p pv1 w1.heap.size) := ⟨HB1.out.ge (Nat.le_refl _)⟩
      have HB5 := Fact.mk (HB1.out.keep ((KW.out.trans K4.out).trans K5.out))
      have hlf := leaf168g w6 p base used fuel at_ ov pv1 rest (Gp p pv1) xs 1 tq.data.toList (some ⟨w5.heap.size, 0, none⟩) c6 (HB5.out.keep K6.out) (HY6.out.mono fun i _ hi => by subst hi; exact HB5.out.ge (Nat.le_refl _)) (Small.of (by rw [Array.length_toList]; exact Nat.le_trans HTS.out (by decide)))
      rw [HTL.out, ← HF.out, ← HTL.out] at hlf
      refine hlf.mono ?_
      clear hlf
      intro e w7 hq
      have HQ := Fact.mk hq
      clear hq
      cases e with
      | returned u =>
        refine hK.out _ _ (by have hx : Gp p pv1 w1.heap.size := HXG.out; exact ⟨HQ.out.2.cell (p := ⟨w1.heap.size, 0, none⟩) hx s0, HQ.out.2.cell (p := ⟨w1.heap.size, 1, none⟩) hx s1, HQ.out.2.cell (p := ⟨w1.heap.size, 2, none⟩) hx s2⟩) (fun hHeld => ⟨by kernel_rfl, ?_⟩)
        clear hK K
        try simp only [Act.put, List.setIfInBounds_toArray, List.set_cons_zero, List.set_cons_succ]
        go_wp2
        go_end0
        skip
        exact (HQ.out.from_ KF.out HB1.out.kb).ret
      | panicked ch =>
        dsimp only
        skip
        exact ⟨rfl, HQ.out.from_ KF.out HB1.out.kb⟩
      | outgrown => exact HQ.out.no.elim
end
end Go.Proofs.YtddmbdigdnmfgaaGreatDoor
