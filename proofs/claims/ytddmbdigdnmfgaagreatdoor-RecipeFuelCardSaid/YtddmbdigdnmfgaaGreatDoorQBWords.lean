/- words of the builder: jumps, cut, one text behind the other. -/
import Derived.Test.YtddmbdigdnmfgaaGreatDoorQBOwn
import Derived.Test.YtddmbdigdnmfgaaGreatDoorQTailP
namespace Go.Proofs.YtddmbdigdnmfgaaGreatDoor
open Go.RowKit
set_option maxHeartbeats 1000000
set_option maxRecDepth 100000

def jumpR (pile : List PNode) (x : Int) (nops : Nat) : Option (List PNode × Nat × Nat) := if 0 ≤ x ∧ x ≤ nops then some (pile, 0, x.toNat) else none
def cutP (b : List UInt8) (n m : Nat) : List UInt8 := (b.drop (min n b.length)).take (max (min n b.length) (min m b.length) - min n b.length)
noncomputable def wordR (f : List PNode → PNode → Option (List PNode × Nat × Nat)) (pile : List PNode) : Option (List PNode × Nat × Nat) := match pile.reverse with
  | [] => none
  | x :: r => if x.kind = 1 then f r.reverse x else none
section
variable (w : World) (p base used fuel at_ : Nat) (ov pv : Value) (rest : List Value)
theorem jump170g (pile : List PNode) (x : Int) (OA : Option Addr) (nops oc : Nat) (h : BSt w p base used fuel at_ (.slice OA nops oc) rest pile pv) :
    Calls Tryz.prog 170 #[.pointer (some ⟨p, 0, none⟩), .int .i64 x] w (OpOut (Gp p pv) w p base used fuel (.slice OA nops oc) rest (jumpR pile x nops)) := by
  have H := Fact.mk h
  have c3 := Blk.cell h.blk 3 _ rfl
  have c4 := Blk.cell h.blk 4 _ rfl
  have f4 := Blk.free h.blk 4
  have hlt := h.blk.lt
  clear h
  by_cases h0 : 0 ≤ x
  · by_cases h1 : x ≤ nops
    · have HF : Fact (jumpR pile x nops = some (pile, 0, x.toNat)) := ⟨by rw [jumpR, if_pos ⟨h0, h1⟩]⟩
      go_enter Tryz.func170, Tryz.ntmps170
      go_wp2_with (go_at_call 111; go_must (refine (must111 _).mono ?_); rintro e v ⟨rfl, rfl⟩)
      go_end0
      obtain ⟨W, hW⟩ : ∃ X, X = w.setCell ⟨p, 4, none⟩ (.int .i64 x) := ⟨_, rfl⟩
      have K1 : Keep (fun i => i ≠ p) w W := hW ▸ (Keep.refl _ w).setCell (p := ⟨p, 4, none⟩) (.inr fun h => h rfl) _
      have B1 : BlkB W p used fuel pv (.slice OA nops oc) x.toNat rest := by
        have := Blk.set H.out.blk 4 (.int .i64 x)
        rw [← hW] at this
        rw [BlkB, Int.toNat_of_nonneg h0]
        exact this
      rw [← hW, HF.out]
      refine ⟨?_, K1.mono fun i hi => hi.1⟩
      dsimp only
      rw [Nat.add_zero, if_pos H.out.used_]
      obtain ⟨_, hpb, hbs, hu, hf, hl16, hra, cs, hrow, hrep⟩ := H.out
      exact ⟨rfl, pv, B1, hpb, Nat.le_trans hbs K1.size, hu, hf, hl16, hra, cs, own_keep hrow K1 (fun g hg => by have := (hrow.lt g hg).1; show g ≠ p; omega), hrep.keep (K1.mono fun i hi => hi.1)⟩
    · have HF : Fact (jumpR pile x nops = none) := ⟨by rw [jumpR, if_neg (fun h => h1 h.2)]⟩
      have hd : decide (x ≤ (nops : Int)) = false := by simpa using h1
      go_enter Tryz.func170, Tryz.ntmps170
      go_wp2_with (go_at_call 111; go_must (refine (must111_not _).mono ?_); rintro e v ⟨he, rfl⟩; unfold errFail at he; subst he)
      refine ⟨rfl, ?_⟩
      rw [HF.out]
      exact opout_fail H.out.blk (Keep.refl _ _)
  · have HF : Fact (jumpR pile x nops = none) := ⟨by rw [jumpR, if_neg (fun h => h0 h.1)]⟩
    have hd : decide (0 ≤ x) = false := by simpa using h0
    go_enter Tryz.func170, Tryz.ntmps170
    go_wp2_with (go_at_call 111; go_must (refine (must111_not _).mono ?_); rintro e v ⟨he, rfl⟩; unfold errFail at he; subst he)
    refine ⟨rfl, ?_⟩
    rw [HF.out]
    exact opout_fail H.out.blk (Keep.refl _ _)
theorem word17 (pile : List PNode) (n m : Nat) (tA : Option Addr) (tn tc : Nat) (OA : Option Addr) (nops oc : Nat) (h : BSt w p base used fuel at_ (.slice OA nops oc) rest pile pv) (hat : at_ ≤ 1000000) (hn : n ≤ 1000000) : Calls Tryz.prog 114 #[.pointer (some ⟨p, 0, none⟩), .agg #[.int .i64 17, .int .i64 (n : Int), .int .i64 (m : Int), .slice tA tn tc]] w (OpOut (Kb base p) w p base used fuel (.slice OA nops oc) rest (wordR (fun r x => if x.bytes.length = 0 then jumpR r ((at_ : Int) + n) nops else some (r, 0, at_)) pile)) := by
  have H := Fact.mk h
  have KB : Fact (Keep All w (w.alloc (.cells #[.int .i64 17, .int .i64 (n : Int), .int .i64 (m : Int), .slice tA tn tc] 25))) := ⟨(Keep.refl _ w).alloc _⟩
  have HOB : Fact (Blk (w.alloc (.cells #[.int .i64 17, .int .i64 (n : Int), .int .i64 (m : Int), .slice tA tn tc] 25)) w.heap.size [.int .i64 17, .int .i64 (n : Int), .int .i64 (m : Int), .slice tA tn tc] 25) := ⟨Blk.new w _ 25⟩
  have hwp : w.heap.size ≠ p := by have := h.pb; have := h.size; omega
  obtain ⟨RR, hRR⟩ : ∃ q, q = wordR (fun r x => if x.bytes.length = 0 then jumpR r ((at_ : Int) + n) nops else some (r, 0, at_)) pile := ⟨_, rfl⟩
  rw [← hRR]
  have HRR := Fact.mk hRR
  have KFb : ∀ i, Kb base p i → i ≠ p := fun i hi => hi.2
  clear h hRR
  rcases pile_cases pile with rfl | ⟨xs, x, rfl⟩
  · have HF : Fact (RR = none) := ⟨by rw [HRR.out]; simp [wordR]⟩
    go_enter Tryz.func114, Tryz.ntmps114
    go_wp2_with (go_at_call 167; go_must (refine (text167_nil _ p base used fuel at_ (.slice OA nops oc) pv rest (H.out.keep KB.out)).mono ?_); rintro e v hb; have HB := Fact.mk hb; obtain ⟨he, -⟩ := hb; unfold errFail at he; subst he)
    refine ⟨rfl, ?_⟩
    rw [HF.out]
    exact (HB.out.opout (K := Kb base p) KFb).from_ KB.out.all fun _ h => h
  · by_cases hx1 : x.kind = 1
    rotate_left
    · have HF : Fact (RR = none) := ⟨by rw [HRR.out]; simp [wordR, hx1]⟩
      go_enter Tryz.func114, Tryz.ntmps114
      go_wp2_with (go_at_call 167; go_must (refine (text167_not _ p base used fuel at_ (.slice OA nops oc) pv rest xs x (H.out.keep KB.out) hx1).mono ?_); rintro e v hb; have HB := Fact.mk hb; obtain ⟨he, -⟩ := hb; unfold errFail at he; subst he)
      refine ⟨rfl, ?_⟩
      rw [HF.out]
      exact (HB.out.opout (K := Kb base p) KFb).from_ KB.out.all fun _ h => h
    have HX1 := Fact.mk hx1
    have hxb : x.bytes.length ≤ 2048 := by
      have := rightP_small H.out.rightTop
      obtain ⟨k, b, kk⟩ := x
      rw [SmallN] at this
      exact this.1
    by_cases hl : x.bytes.length = 0
    · have HF : Fact (RR = jumpR xs ((at_ : Int) + n) nops) := ⟨by rw [HRR.out]; simp [wordR, hx1, hl]⟩
      have hb0 : ((x.bytes.length : Int) == 0) = true := by simp [hl]
      go_enter Tryz.func114, Tryz.ntmps114
      go_upto_region 14 with (go_at_call 167; go_must (refine (text167g _ p base used fuel at_ (.slice OA nops oc) pv rest xs x (H.out.keep KB.out) hx1).mono ?_); rintro e w1 ⟨xs', x', hpe, A, c, pv1, he, hb, hpv1, hby, hk⟩; obtain ⟨hxe, hx'⟩ := List.append_inj' hpe rfl; simp only [List.cons.injEq, and_true] at hx'; subst hxe hx' he; have HB1 := Fact.mk hb; have HBY := Fact.mk hby; have K1 := Fact.mk (KB.out.all.trans hk); have bo := HOB.out.keep hk hwp; have HO1 := Fact.mk bo; have o0 := bo.cell 0 _ rfl; have o1 := bo.cell 1 _ rfl; have o2 := bo.cell 2 _ rfl; have ol := bo.lt; have HPV := Fact.mk hpv1; clear hb hby hk hpe bo hpv1)
      have a4 := Blk.cell HB1.out.blk 4 _ rfl
      have hwr : IntKind.i64.wrap ((at_ : Int) + n) = (at_ : Int) + n := by rw [IntKind.wrap_i64]; omega
      refine wp_region_T 8 (fun w' => w'.cell? ⟨p, 4, none⟩ = some (.int .i64 at_) ∧ w'.cell? ⟨w.heap.size, 1, none⟩ = some (.int .i64 n)) (by kernel_rfl) (by go_keep) (fun hHeld => ?_)
      refine takeC [] (i := 0) (v := ?_) rfl (by kernel_rfl) (by kernel_rfl) (by kernel_rfl) (by kernel_rfl) (by kernel_rfl) (fun _ _ _ h => h) rfl ?_ (by assumption) ?_
      rotate_left
      · (intro w hSw; (try dsimp only at hSw); go_simp; try with_reducible rfl)
      try simp only [Act.put, List.setIfInBounds_toArray, List.set_cons_zero, List.set_cons_succ]
      refine takeC [7, 4, 3, 2] (i := 1) (v := ?_) rfl (by kernel_rfl) (by kernel_rfl) (by kernel_rfl) (by kernel_rfl) (by kernel_rfl) (fun _ _ _ h => h) rfl ?_ (by assumption) ?_
      rotate_left
      · (intro w hSw; (try dsimp only at hSw); go_simp; try with_reducible rfl)
      try simp only [Act.put, List.setIfInBounds_toArray, List.set_cons_zero, List.set_cons_succ]
      refine takeC [7, 4, 3] (i := 2) (v := ?_) rfl (by kernel_rfl) (by kernel_rfl) (by kernel_rfl) (by kernel_rfl) (by kernel_rfl) (fun _ _ _ h => h) rfl ?_ (by assumption) ?_
      rotate_left
      · (intro w hSw; (try dsimp only at hSw); go_simp; try with_reducible rfl)
      try simp only [Act.put, List.setIfInBounds_toArray, List.set_cons_zero, List.set_cons_succ]
      refine takeC [7, 4] (i := 3) (v := ?_) rfl (by kernel_rfl) (by kernel_rfl) (by kernel_rfl) (by kernel_rfl) (by kernel_rfl) (fun _ _ _ h => h) rfl ?_ (by assumption) ?_
      rotate_left
      · (intro w hSw; (try dsimp only at hSw); go_simp; try with_reducible rfl)
      try simp only [Act.put, List.setIfInBounds_toArray, List.set_cons_zero, List.set_cons_succ]
      refine takeC [7] (i := 4) (v := ?_) rfl (by kernel_rfl) (by kernel_rfl) (by kernel_rfl) (by kernel_rfl) (by kernel_rfl) (fun _ _ _ h => h) rfl ?_ (by assumption) ?_
      rotate_left
      · (intro w hSw; (try dsimp only at hSw); go_simp; try with_reducible rfl)
      try simp only [Act.put, List.setIfInBounds_toArray, List.set_cons_zero, List.set_cons_succ]
      refine takeC [7, 6] (i := 5) (v := ?_) rfl (by kernel_rfl) (by kernel_rfl) (by kernel_rfl) (by kernel_rfl) (by kernel_rfl) (fun _ _ _ h => h) rfl ?_ (by assumption) ?_
      rotate_left
      · (intro w hSw; (try dsimp only at hSw); go_simp; try with_reducible rfl)
      try simp only [Act.put, List.setIfInBounds_toArray, List.set_cons_zero, List.set_cons_succ]
      refine takeC [7] (i := 6) (v := ?_) rfl (by kernel_rfl) (by kernel_rfl) (by kernel_rfl) (by kernel_rfl) (by kernel_rfl) (fun _ _ _ h => h) rfl ?_ (by assumption) ?_
      rotate_left
      · (intro w hSw; (try dsimp only at hSw); go_simp; try with_reducible rfl)
      try simp only [Act.put, List.setIfInBounds_toArray, List.set_cons_zero, List.set_cons_succ]
      refine takeC [] (i := 7) (v := ?_) rfl (by kernel_rfl) (by kernel_rfl) (by kernel_rfl) (by kernel_rfl) (by kernel_rfl) (fun _ _ _ h => h) rfl ?_ (by assumption) ?_
      rotate_left
      · (intro w hSw; (try dsimp only at hSw); go_simp; try with_reducible rfl)
      try simp only [Act.put, List.setIfInBounds_toArray, List.set_cons_zero, List.set_cons_succ]
      refine lastT (by kernel_rfl) (by kernel_rfl) rfl (fun K hK => ?_)
      go_simp
      have KF : Fact (Keep (Kb base p) w w1.drew) := ⟨(K1.out.mono fun i hi => hi.2).drew⟩
      refine (jump170g w1.drew p base used fuel at_ pv1 rest xs ((at_ : Int) + n) OA nops oc (HB1.out.keep (Keep.refl _ w1).drew)).mono ?_
      intro e w4 hq
      have HQ := Fact.mk hq
      clear hq
      cases e with
      | returned u =>
        refine hK.out _ _ ?_
        clear hK K
        try simp only [Act.put, List.setIfInBounds_toArray, List.set_cons_zero, List.set_cons_succ]
        go_wp2
        go_end0
        rw [HF.out]
        exact (HQ.out.from_ KF.out HB1.out.kb).ret
      | panicked ch =>
        dsimp only
        rw [HF.out]
        exact ⟨rfl, HQ.out.from_ KF.out HB1.out.kb⟩
      | outgrown => exact HQ.out.no.elim
    · have HF : Fact (RR = some (xs, 0, at_)) := ⟨by rw [HRR.out]; simp [wordR, hx1, hl]⟩
      have hb0 : ((x.bytes.length : Int) == 0) = false := by simpa using hl
      go_enter Tryz.func114, Tryz.ntmps114
      go_wp2_with (go_at_call 167; go_must (refine (text167g _ p base used fuel at_ (.slice OA nops oc) pv rest xs x (H.out.keep KB.out) hx1).mono ?_); rintro e w1 ⟨xs', x', hpe, A, c, pv1, he, hb, hpv1, hby, hk⟩; obtain ⟨hxe, hx'⟩ := List.append_inj' hpe rfl; simp only [List.cons.injEq, and_true] at hx'; subst hxe hx' he; have HB1 := Fact.mk hb; have HBY := Fact.mk hby; have K1 := Fact.mk (KB.out.all.trans hk); have bo := HOB.out.keep hk hwp; have HO1 := Fact.mk bo; have o0 := bo.cell 0 _ rfl; have o1 := bo.cell 1 _ rfl; have o2 := bo.cell 2 _ rfl; have ol := bo.lt; have HPV := Fact.mk hpv1; clear hb hby hk hpe bo hpv1)
      go_end0
      rw [HF.out]
      refine ⟨?_, K1.out.mono fun i hi => hi.2⟩
      dsimp only
      rw [Nat.add_zero, if_pos HB1.out.used_]
      exact ⟨rfl, pv1, HB1.out⟩
theorem word18 (pile : List PNode) (n m : Nat) (tA : Option Addr) (tn tc : Nat) (OA : Option Addr) (nops oc : Nat) (h : BSt w p base used fuel at_ (.slice OA nops oc) rest pile pv) (hat : at_ ≤ 1000000) (hn : n ≤ 1000000) : Calls Tryz.prog 114 #[.pointer (some ⟨p, 0, none⟩), .agg #[.int .i64 18, .int .i64 (n : Int), .int .i64 (m : Int), .slice tA tn tc]] w (OpOut (Kb base p) w p base used fuel (.slice OA nops oc) rest (wordR (fun r x => if 0 < x.bytes.length then jumpR r ((at_ : Int) - 1 - n) nops else some (r, 0, at_)) pile)) := by
  have H := Fact.mk h
  have KB : Fact (Keep All w (w.alloc (.cells #[.int .i64 18, .int .i64 (n : Int), .int .i64 (m : Int), .slice tA tn tc] 25))) := ⟨(Keep.refl _ w).alloc _⟩
  have HOB : Fact (Blk (w.alloc (.cells #[.int .i64 18, .int .i64 (n : Int), .int .i64 (m : Int), .slice tA tn tc] 25)) w.heap.size [.int .i64 18, .int .i64 (n : Int), .int .i64 (m : Int), .slice tA tn tc] 25) := ⟨Blk.new w _ 25⟩
  have hwp : w.heap.size ≠ p := by have := h.pb; have := h.size; omega
  obtain ⟨RR, hRR⟩ : ∃ q, q = wordR (fun r x => if 0 < x.bytes.length then jumpR r ((at_ : Int) - 1 - n) nops else some (r, 0, at_)) pile := ⟨_, rfl⟩
  rw [← hRR]
  have HRR := Fact.mk hRR
  have KFb : ∀ i, Kb base p i → i ≠ p := fun i hi => hi.2
  clear h hRR
  rcases pile_cases pile with rfl | ⟨xs, x, rfl⟩
  · have HF : Fact (RR = none) := ⟨by rw [HRR.out]; simp [wordR]⟩
    go_enter Tryz.func114, Tryz.ntmps114
    go_wp2_with (go_at_call 167; go_must (refine (text167_nil _ p base used fuel at_ (.slice OA nops oc) pv rest (H.out.keep KB.out)).mono ?_); rintro e v hb; have HB := Fact.mk hb; obtain ⟨he, -⟩ := hb; unfold errFail at he; subst he)
    refine ⟨rfl, ?_⟩
    rw [HF.out]
    exact (HB.out.opout (K := Kb base p) KFb).from_ KB.out.all fun _ h => h
  · by_cases hx1 : x.kind = 1
    rotate_left
    · have HF : Fact (RR = none) := ⟨by rw [HRR.out]; simp [wordR, hx1]⟩
      go_enter Tryz.func114, Tryz.ntmps114
      go_wp2_with (go_at_call 167; go_must (refine (text167_not _ p base used fuel at_ (.slice OA nops oc) pv rest xs x (H.out.keep KB.out) hx1).mono ?_); rintro e v hb; have HB := Fact.mk hb; obtain ⟨he, -⟩ := hb; unfold errFail at he; subst he)
      refine ⟨rfl, ?_⟩
      rw [HF.out]
      exact (HB.out.opout (K := Kb base p) KFb).from_ KB.out.all fun _ h => h
    have HX1 := Fact.mk hx1
    have hxb : x.bytes.length ≤ 2048 := by
      have := rightP_small H.out.rightTop
      obtain ⟨k, b, kk⟩ := x
      rw [SmallN] at this
      exact this.1
    by_cases hl : 0 < x.bytes.length
    · have HF : Fact (RR = jumpR xs ((at_ : Int) - 1 - n) nops) := ⟨by rw [HRR.out]; simp [wordR, hx1, hl]⟩
      have hb0 : (0 : Int) < (x.bytes.length : Int) := by omega
      go_enter Tryz.func114, Tryz.ntmps114
      go_upto_region 4 with (go_at_call 167; go_must (refine (text167g _ p base used fuel at_ (.slice OA nops oc) pv rest xs x (H.out.keep KB.out) hx1).mono ?_); rintro e w1 ⟨xs', x', hpe, A, c, pv1, he, hb, hpv1, hby, hk⟩; obtain ⟨hxe, hx'⟩ := List.append_inj' hpe rfl; simp only [List.cons.injEq, and_true] at hx'; subst hxe hx' he; have HB1 := Fact.mk hb; have HBY := Fact.mk hby; have K1 := Fact.mk (KB.out.all.trans hk); have bo := HOB.out.keep hk hwp; have HO1 := Fact.mk bo; have o0 := bo.cell 0 _ rfl; have o1 := bo.cell 1 _ rfl; have o2 := bo.cell 2 _ rfl; have ol := bo.lt; have HPV := Fact.mk hpv1; clear hb hby hk hpe bo hpv1)
      have a4 := Blk.cell HB1.out.blk 4 _ rfl
      have hwr : IntKind.i64.wrap ((at_ : Int) - 1) = (at_ : Int) - 1 := by rw [IntKind.wrap_i64]; omega
      have hwr2 : IntKind.i64.wrap ((at_ : Int) - 1 - n) = (at_ : Int) - 1 - n := by rw [IntKind.wrap_i64]; omega
      refine wp_region_T 9 (fun w' => w'.cell? ⟨p, 4, none⟩ = some (.int .i64 at_) ∧ w'.cell? ⟨w.heap.size, 1, none⟩ = some (.int .i64 n)) (by kernel_rfl) (by go_keep) (fun hHeld => ?_)
      refine takeC [] (i := 0) (v := ?_) rfl (by kernel_rfl) (by kernel_rfl) (by kernel_rfl) (by kernel_rfl) (by kernel_rfl) (fun _ _ _ h => h) rfl ?_ (by assumption) ?_
      rotate_left
      · (intro w hSw; (try dsimp only at hSw); go_simp; try with_reducible rfl)
      try simp only [Act.put, List.setIfInBounds_toArray, List.set_cons_zero, List.set_cons_succ]
      refine takeC [8, 5, 4, 3, 2] (i := 1) (v := ?_) rfl (by kernel_rfl) (by kernel_rfl) (by kernel_rfl) (by kernel_rfl) (by kernel_rfl) (fun _ _ _ h => h) rfl ?_ (by assumption) ?_
      rotate_left
      · (intro w hSw; (try dsimp only at hSw); go_simp; try with_reducible rfl)
      try simp only [Act.put, List.setIfInBounds_toArray, List.set_cons_zero, List.set_cons_succ]
      refine takeC [8, 5, 4, 3] (i := 2) (v := ?_) rfl (by kernel_rfl) (by kernel_rfl) (by kernel_rfl) (by kernel_rfl) (by kernel_rfl) (fun _ _ _ h => h) rfl ?_ (by assumption) ?_
      rotate_left
      · (intro w hSw; (try dsimp only at hSw); go_simp; try with_reducible rfl)
      try simp only [Act.put, List.setIfInBounds_toArray, List.set_cons_zero, List.set_cons_succ]
      refine takeC [8, 5, 4] (i := 3) (v := ?_) rfl (by kernel_rfl) (by kernel_rfl) (by kernel_rfl) (by kernel_rfl) (by kernel_rfl) (fun _ _ _ h => h) rfl ?_ (by assumption) ?_
      rotate_left
      · (intro w hSw; (try dsimp only at hSw); go_simp; try with_reducible rfl)
      try simp only [Act.put, List.setIfInBounds_toArray, List.set_cons_zero, List.set_cons_succ]
      refine takeC [8, 5] (i := 4) (v := ?_) rfl (by kernel_rfl) (by kernel_rfl) (by kernel_rfl) (by kernel_rfl) (by kernel_rfl) (fun _ _ _ h => h) rfl ?_ (by assumption) ?_
      rotate_left
      · (intro w hSw; (try dsimp only at hSw); go_simp; try with_reducible rfl)
      try simp only [Act.put, List.setIfInBounds_toArray, List.set_cons_zero, List.set_cons_succ]
      refine takeC [8] (i := 5) (v := ?_) rfl (by kernel_rfl) (by kernel_rfl) (by kernel_rfl) (by kernel_rfl) (by kernel_rfl) (fun _ _ _ h => h) rfl ?_ (by assumption) ?_
      rotate_left
      · (intro w hSw; (try dsimp only at hSw); go_simp; try with_reducible rfl)
      try simp only [Act.put, List.setIfInBounds_toArray, List.set_cons_zero, List.set_cons_succ]
      refine takeC [8, 7] (i := 6) (v := ?_) rfl (by kernel_rfl) (by kernel_rfl) (by kernel_rfl) (by kernel_rfl) (by kernel_rfl) (fun _ _ _ h => h) rfl ?_ (by assumption) ?_
      rotate_left
      · (intro w hSw; (try dsimp only at hSw); go_simp; try with_reducible rfl)
      try simp only [Act.put, List.setIfInBounds_toArray, List.set_cons_zero, List.set_cons_succ]
      refine takeC [8] (i := 7) (v := ?_) rfl (by kernel_rfl) (by kernel_rfl) (by kernel_rfl) (by kernel_rfl) (by kernel_rfl) (fun _ _ _ h => h) rfl ?_ (by assumption) ?_
      rotate_left
      · (intro w hSw; (try dsimp only at hSw); go_simp; try with_reducible rfl)
      try simp only [Act.put, List.setIfInBounds_toArray, List.set_cons_zero, List.set_cons_succ]
      refine takeC [] (i := 8) (v := ?_) rfl (by kernel_rfl) (by kernel_rfl) (by kernel_rfl) (by kernel_rfl) (by kernel_rfl) (fun _ _ _ h => h) rfl ?_ (by assumption) ?_
      rotate_left
      · (intro w hSw; (try dsimp only at hSw); go_simp; try with_reducible rfl)
      try simp only [Act.put, List.setIfInBounds_toArray, List.set_cons_zero, List.set_cons_succ]
      refine lastT (by kernel_rfl) (by kernel_rfl) rfl (fun K hK => ?_)
      go_simp
      have KF : Fact (Keep (Kb base p) w w1.drew) := ⟨(K1.out.mono fun i hi => hi.2).drew⟩
      refine (jump170g w1.drew p base used fuel at_ pv1 rest xs ((at_ : Int) - 1 - n) OA nops oc (HB1.out.keep (Keep.refl _ w1).drew)).mono ?_
      intro e w4 hq
      have HQ := Fact.mk hq
      clear hq
      cases e with
      | returned u =>
        refine hK.out _ _ ?_
        clear hK K
        try simp only [Act.put, List.setIfInBounds_toArray, List.set_cons_zero, List.set_cons_succ]
        go_wp2
        go_end0
        rw [HF.out]
        exact (HQ.out.from_ KF.out HB1.out.kb).ret
      | panicked ch =>
        dsimp only
        rw [HF.out]
        exact ⟨rfl, HQ.out.from_ KF.out HB1.out.kb⟩
      | outgrown => exact HQ.out.no.elim
    · have HF : Fact (RR = some (xs, 0, at_)) := ⟨by rw [HRR.out]; simp [wordR, hx1, hl]⟩
      have hb0 : ¬ (0 : Int) < (x.bytes.length : Int) := by omega
      go_enter Tryz.func114, Tryz.ntmps114
      go_wp2_with (go_at_call 167; go_must (refine (text167g _ p base used fuel at_ (.slice OA nops oc) pv rest xs x (H.out.keep KB.out) hx1).mono ?_); rintro e w1 ⟨xs', x', hpe, A, c, pv1, he, hb, hpv1, hby, hk⟩; obtain ⟨hxe, hx'⟩ := List.append_inj' hpe rfl; simp only [List.cons.injEq, and_true] at hx'; subst hxe hx' he; have HB1 := Fact.mk hb; have HBY := Fact.mk hby; have K1 := Fact.mk (KB.out.all.trans hk); have bo := HOB.out.keep hk hwp; have HO1 := Fact.mk bo; have o0 := bo.cell 0 _ rfl; have o1 := bo.cell 1 _ rfl; have o2 := bo.cell 2 _ rfl; have ol := bo.lt; have HPV := Fact.mk hpv1; clear hb hby hk hpe bo hpv1)
      go_end0
      rw [HF.out]
      refine ⟨?_, K1.out.mono fun i hi => hi.2⟩
      dsimp only
      rw [Nat.add_zero, if_pos HB1.out.used_]
      exact ⟨rfl, pv1, HB1.out⟩
theorem word20 (pile : List PNode) (n m : Nat) (tA : Option Addr) (tn tc : Nat) (OA : Option Addr) (nops oc : Nat) (h : BSt w p base used fuel at_ (.slice OA nops oc) rest pile pv) : Calls Tryz.prog 114 #[.pointer (some ⟨p, 0, none⟩), .agg #[.int .i64 20, .int .i64 (n : Int), .int .i64 (m : Int), .slice tA tn tc]] w (OpOut (Kb base p) w p base used fuel (.slice OA nops oc) rest (wordR (fun r x => putR r [.mk 1 (cutP x.bytes n m) []] at_) pile)) := by
  have H := Fact.mk h
  have KB : Fact (Keep All w (w.alloc (.cells #[.int .i64 20, .int .i64 (n : Int), .int .i64 (m : Int), .slice tA tn tc] 25))) := ⟨(Keep.refl _ w).alloc _⟩
  have HOB : Fact (Blk (w.alloc (.cells #[.int .i64 20, .int .i64 (n : Int), .int .i64 (m : Int), .slice tA tn tc] 25)) w.heap.size [.int .i64 20, .int .i64 (n : Int), .int .i64 (m : Int), .slice tA tn tc] 25) := ⟨Blk.new w _ 25⟩
  have hwp : w.heap.size ≠ p := by have := h.pb; have := h.size; omega
  obtain ⟨RR, hRR⟩ : ∃ q, q = wordR (fun r x => putR r [.mk 1 (cutP x.bytes n m) []] at_) pile := ⟨_, rfl⟩
  rw [← hRR]
  have HRR := Fact.mk hRR
  have KFb : ∀ i, Kb base p i → i ≠ p := fun i hi => hi.2
  clear h hRR
  rcases pile_cases pile with rfl | ⟨xs, x, rfl⟩
  · have HF : Fact (RR = none) := ⟨by rw [HRR.out]; simp [wordR]⟩
    go_enter Tryz.func114, Tryz.ntmps114
    go_wp2_with (go_at_call 167; go_must (refine (text167_nil _ p base used fuel at_ (.slice OA nops oc) pv rest (H.out.keep KB.out)).mono ?_); rintro e v hb; have HB := Fact.mk hb; obtain ⟨he, -⟩ := hb; unfold errFail at he; subst he)
    refine ⟨rfl, ?_⟩
    rw [HF.out]
    exact (HB.out.opout (K := Kb base p) KFb).from_ KB.out.all fun _ h => h
  · by_cases hx1 : x.kind = 1
    rotate_left
    · have HF : Fact (RR = none) := ⟨by rw [HRR.out]; simp [wordR, hx1]⟩
      go_enter Tryz.func114, Tryz.ntmps114
      go_wp2_with (go_at_call 167; go_must (refine (text167_not _ p base used fuel at_ (.slice OA nops oc) pv rest xs x (H.out.keep KB.out) hx1).mono ?_); rintro e v hb; have HB := Fact.mk hb; obtain ⟨he, -⟩ := hb; unfold errFail at he; subst he)
      refine ⟨rfl, ?_⟩
      rw [HF.out]
      exact (HB.out.opout (K := Kb base p) KFb).from_ KB.out.all fun _ h => h
    have HX1 := Fact.mk hx1
    have hxb : x.bytes.length ≤ 2048 := by
      have := rightP_small H.out.rightTop
      obtain ⟨k, b, kk⟩ := x
      rw [SmallN] at this
      exact this.1
    obtain ⟨k, hk⟩ : ∃ k, k = min n x.bytes.length := ⟨_, rfl⟩
    obtain ⟨k2, hk2⟩ : ∃ k, k = min m x.bytes.length := ⟨_, rfl⟩
    obtain ⟨k3, hk3⟩ : ∃ q, q = max k k2 := ⟨_, rfl⟩
    have hkl : k ≤ x.bytes.length := by omega
    have hk3l : k3 ≤ x.bytes.length := by omega
    have hkk : k ≤ k3 := by omega
    have hmin1 : min (n : Int) (x.bytes.length : Int) = (k : Int) := by omega
    have hmin2 : min (m : Int) (x.bytes.length : Int) = (k2 : Int) := by omega
    have hmax : max (k : Int) (k2 : Int) = (k3 : Int) := by omega
    obtain ⟨cb, hcb⟩ : ∃ q, q = cutP x.bytes n m := ⟨_, rfl⟩
    have hcl : cb.length = k3 - k := by
      rw [hcb, cutP, List.length_take, List.length_drop, ← hk, ← hk2, ← hk3]
      omega
    have HF : Fact (RR = putR xs [.mk 1 cb []] at_) := ⟨by rw [HRR.out]; simp [wordR, hx1, hcb]⟩
    have hcb2 : cb = (x.bytes.drop k).take (k3 - k) := by rw [hcb, cutP, ← hk, ← hk2, ← hk3]
    have HCB := Fact.mk hcb2
    have HCL := Fact.mk hcl
    clear hk hk2 hk3 hcb hcb2 hcl
    go_enter Tryz.func114, Tryz.ntmps114
    go_upto_region 11 with (go_at_call 167; go_must (refine (text167g _ p base used fuel at_ (.slice OA nops oc) pv rest xs x (H.out.keep KB.out) hx1).mono ?_); rintro e w1 ⟨xs', x', hpe, A, c, pv1, he, hb, hpv1, hby, hk⟩; obtain ⟨hxe, hx'⟩ := List.append_inj' hpe rfl; simp only [List.cons.injEq, and_true] at hx'; subst hxe hx' he; have HB1 := Fact.mk hb; have HBY := Fact.mk hby; have K1 := Fact.mk (KB.out.all.trans hk); have bo := HOB.out.keep hk hwp; have HO1 := Fact.mk bo; have o0 := bo.cell 0 _ rfl; have o1 := bo.cell 1 _ rfl; have o2 := bo.cell 2 _ rfl; have ol := bo.lt; have HPV := Fact.mk hpv1; clear hb hby hk hpe bo hpv1)
    have i0 : (0 : Int) ≤ k := by omega
    have i1 : (k : Int) ≤ k3 := by omega
    obtain ⟨A9, c9, e9, hlc, hcm, h9, -⟩ := HBY.out.open
    simp only [Value.slice.injEq, true_and] at e9
    obtain ⟨e9a, e9c⟩ := e9
    rw [← e9c] at hlc hcm
    clear h9 e9a e9c
    have HYC : Fact (∀ (A' : Option Addr) (c' : Nat), (c = k → A' = A ∧ c' = 0) → (¬ c = k → A' = A.map (fun x => x.add k) ∧ c' = c - k) → By w1 (Gp p pv1) (.slice A' (k3 - k) c') cb) := ⟨fun A' c' h1 h2 => by
      have hd := By.drop (k := k) HBY.out hkl
      have hb : By w1 (Gp p pv1) (.slice A' (x.bytes.length - k) c') (x.bytes.drop k) := by
        by_cases hck : c = k
        · obtain ⟨rfl, rfl⟩ := h1 hck; exact hd.1 hck
        · obtain ⟨rfl, rfl⟩ := h2 hck; exact hd.2 hck
      have hb2 : By w1 (Gp p pv1) (.slice A' (x.bytes.drop k).length c') (x.bytes.drop k) := by rw [List.length_drop]; exact hb
      rw [HCB.out]
      exact hb2.take (by rw [List.length_drop]; omega)⟩
    have hcm2 : c ≤ 9223372036854775807 := by unfold maxLen at hcm; omega
    have i2 : (k3 : Int) ≤ c := by omega
    have i3 : k ≤ c := by omega
    have hag : Fact (A = none → c = 0) := ⟨by
      obtain ⟨A9, c9, e9, -, -, h9, -⟩ := HBY.out.open
      simp only [Value.slice.injEq, true_and] at e9
      obtain ⟨rfl, rfl⟩ := e9
      exact h9⟩
    have HS : Fact (Small cb.length) := ⟨Small.of (by rw [HCL.out]; omega)⟩
    cases A with
    | none =>
      obtain rfl := hag.out rfl
      obtain rfl : k3 = 0 := by omega
      obtain rfl : k = 0 := by omega
      obtain rfl : k2 = 0 := by omega
      have HBC : Fact (By w1 (Gp p pv1) (.slice none 0 0) cb) := ⟨HYC.out none 0 (fun _ => ⟨rfl, rfl⟩) (fun h => absurd rfl h)⟩
      refine wp_region_T 99 (fun w' => w'.cell? ⟨w.heap.size, 1, none⟩ = some (.int .i64 n) ∧ w'.cell? ⟨w.heap.size, 2, none⟩ = some (.int .i64 m)) (by kernel_rfl) (by go_keep) (fun hHeld => ?_)
      refine takeH (i := 0) (v := ?_) rfl (by kernel_rfl) (by kernel_rfl) (by kernel_rfl) rfl (fun _ _ _ h => h) rfl ?_ (by assumption) ?_
      rotate_left
      · (intro w hSw; (try dsimp only at hSw); go_simp; try with_reducible rfl)
      try simp only [Act.put, List.setIfInBounds_toArray, List.set_cons_zero, List.set_cons_succ]
      refine takeH (i := 1) (v := ?_) rfl (by kernel_rfl) (by kernel_rfl) (by kernel_rfl) rfl (fun _ _ _ h => h) rfl ?_ (by assumption) ?_
      rotate_left
      · (intro w hSw; (try dsimp only at hSw); go_simp; try with_reducible rfl)
      try simp only [Act.put, List.setIfInBounds_toArray, List.set_cons_zero, List.set_cons_succ]
      refine takeH (i := 2) (v := ?_) rfl (by kernel_rfl) (by kernel_rfl) (by kernel_rfl) rfl (fun _ _ _ h => h) rfl ?_ (by assumption) ?_
      rotate_left
      · (intro w hSw; (try dsimp only at hSw); go_simp; try with_reducible rfl)
      try simp only [Act.put, List.setIfInBounds_toArray, List.set_cons_zero, List.set_cons_succ]
      refine takeH (i := 3) (v := ?_) rfl (by kernel_rfl) (by kernel_rfl) (by kernel_rfl) rfl (fun _ _ _ h => h) rfl ?_ (by assumption) ?_
      rotate_left
      · (intro w hSw; (try dsimp only at hSw); go_simp; try with_reducible rfl)
      try simp only [Act.put, List.setIfInBounds_toArray, List.set_cons_zero, List.set_cons_succ]
      refine takeH (i := 4) (v := ?_) rfl (by kernel_rfl) (by kernel_rfl) (by kernel_rfl) rfl (fun _ _ _ h => h) rfl ?_ (by assumption) ?_
      rotate_left
      · (intro w hSw; (try dsimp only at hSw); go_simp; try with_reducible rfl)
      try simp only [Act.put, List.setIfInBounds_toArray, List.set_cons_zero, List.set_cons_succ]
      refine takeH (i := 5) (v := ?_) rfl (by kernel_rfl) (by kernel_rfl) (by kernel_rfl) rfl (fun _ _ _ h => h) rfl ?_ (by assumption) ?_
      rotate_left
      · (intro w hSw; (try dsimp only at hSw); go_simp; try with_reducible rfl)
      try simp only [Act.put, List.setIfInBounds_toArray, List.set_cons_zero, List.set_cons_succ]
      refine takeH (i := 6) (v := ?_) rfl (by kernel_rfl) (by kernel_rfl) (by kernel_rfl) rfl (fun _ _ _ h => h) rfl ?_ (by assumption) ?_
      rotate_left
      · (intro w hSw; (try dsimp only at hSw); go_simp; try with_reducible rfl)
      try simp only [Act.put, List.setIfInBounds_toArray, List.set_cons_zero, List.set_cons_succ]
      refine takeH (i := 7) (v := ?_) rfl (by kernel_rfl) (by kernel_rfl) (by kernel_rfl) rfl (fun _ _ _ h => h) rfl ?_ (by assumption) ?_
      rotate_left
      · (intro w hSw; (try dsimp only at hSw); go_simp; try with_reducible rfl)
      try simp only [Act.put, List.setIfInBounds_toArray, List.set_cons_zero, List.set_cons_succ]
      refine takeH (i := 8) (v := ?_) rfl (by kernel_rfl) (by kernel_rfl) (by kernel_rfl) rfl (fun _ _ _ h => h) rfl ?_ (by assumption) ?_
      rotate_left
      · (intro w hSw; (try dsimp only at hSw); go_simp; try with_reducible rfl)
      try simp only [Act.put, List.setIfInBounds_toArray, List.set_cons_zero, List.set_cons_succ]
      refine takeH (i := 9) (v := ?_) rfl (by kernel_rfl) (by kernel_rfl) (by kernel_rfl) rfl (fun _ _ _ h => h) rfl ?_ (by assumption) ?_
      rotate_left
      · (intro w hSw; (try dsimp only at hSw); go_simp; try with_reducible rfl)
      try simp only [Act.put, List.setIfInBounds_toArray, List.set_cons_zero, List.set_cons_succ]
      refine takeH (i := 10) (v := ?_) rfl (by kernel_rfl) (by kernel_rfl) (by kernel_rfl) rfl (fun _ _ _ h => h) rfl ?_ (by assumption) ?_
      rotate_left
      · (intro w hSw; (try dsimp only at hSw); go_simp; try with_reducible rfl)
      try simp only [Act.put, List.setIfInBounds_toArray, List.set_cons_zero, List.set_cons_succ]
      refine takeH (i := 11) (v := ?_) rfl (by kernel_rfl) (by kernel_rfl) (by kernel_rfl) rfl (fun _ _ _ h => h) rfl ?_ (by assumption) ?_
      rotate_left
      · (intro w hSw; (try dsimp only at hSw); go_simp; try with_reducible rfl)
      try simp only [Act.put, List.setIfInBounds_toArray, List.set_cons_zero, List.set_cons_succ]
      refine takeH (i := 12) (v := ?_) rfl (by kernel_rfl) (by kernel_rfl) (by kernel_rfl) rfl (fun _ _ _ h => h) rfl ?_ (by assumption) ?_
      rotate_left
      · (intro w hSw; (try dsimp only at hSw); go_simp; try with_reducible rfl)
      try simp only [Act.put, List.setIfInBounds_toArray, List.set_cons_zero, List.set_cons_succ]
      refine nextT (i := 13) (by kernel_rfl) rfl (fun K hK => ?_)
      go_simp
      have KF : Fact (Keep (Kb base p) w w1.drew) := ⟨(K1.out.mono fun i hi => hi.2).drew⟩
      have HXG : Gp p pv1 w.heap.size := ⟨hwp, fun e => by have := H.out; have h2 := HB1.out.row_lt e; rw [HPV.out] at e; have h3 := (H.out.row_lt e).2; omega⟩
      have hlf := leaf168g w1.drew p base used fuel at_ (.slice OA nops oc) pv1 rest (Gp p pv1) xs 1 cb none 0 (HB1.out.keep (Keep.refl _ w1).drew) (by rw [HCL.out]; exact HBC.out.keep (Keep.refl _ w1).drew) HS.out
      rw [HCL.out, Nat.sub_self] at hlf
      refine hlf.mono ?_
      clear hlf
      intro e w4 hq
      have HQ := Fact.mk hq
      clear hq
      cases e with
      | returned u =>
        refine hK.out _ _ (⟨HQ.out.2.cell (p := ⟨w.heap.size, 1, none⟩) HXG o1, HQ.out.2.cell (p := ⟨w.heap.size, 2, none⟩) HXG o2⟩) (fun hHeld => ⟨by kernel_rfl, ?_⟩)
        clear hK K
        try simp only [Act.put, List.setIfInBounds_toArray, List.set_cons_zero, List.set_cons_succ]
        go_wp2
        go_end0
        rw [HF.out]
        exact (HQ.out.from_ KF.out HB1.out.kb).ret
      | panicked ch =>
        dsimp only
        rw [HF.out]
        exact ⟨rfl, HQ.out.from_ KF.out HB1.out.kb⟩
      | outgrown => exact HQ.out.no.elim
    | some a =>
      refine wp_region_T 99 (fun w' => w'.cell? ⟨w.heap.size, 1, none⟩ = some (.int .i64 n) ∧ w'.cell? ⟨w.heap.size, 2, none⟩ = some (.int .i64 m)) (by kernel_rfl) (by go_keep) (fun hHeld => ?_)
      refine takeH (i := 0) (v := ?_) rfl (by kernel_rfl) (by kernel_rfl) (by kernel_rfl) rfl (fun _ _ _ h => h) rfl ?_ (by assumption) ?_
      rotate_left
      · (intro w hSw; (try dsimp only at hSw); go_simp; try with_reducible rfl)
      try simp only [Act.put, List.setIfInBounds_toArray, List.set_cons_zero, List.set_cons_succ]
      refine takeH (i := 1) (v := ?_) rfl (by kernel_rfl) (by kernel_rfl) (by kernel_rfl) rfl (fun _ _ _ h => h) rfl ?_ (by assumption) ?_
      rotate_left
      · (intro w hSw; (try dsimp only at hSw); go_simp; try with_reducible rfl)
      try simp only [Act.put, List.setIfInBounds_toArray, List.set_cons_zero, List.set_cons_succ]
      refine takeH (i := 2) (v := ?_) rfl (by kernel_rfl) (by kernel_rfl) (by kernel_rfl) rfl (fun _ _ _ h => h) rfl ?_ (by assumption) ?_
      rotate_left
      · (intro w hSw; (try dsimp only at hSw); go_simp; try with_reducible rfl)
      try simp only [Act.put, List.setIfInBounds_toArray, List.set_cons_zero, List.set_cons_succ]
      refine takeH (i := 3) (v := ?_) rfl (by kernel_rfl) (by kernel_rfl) (by kernel_rfl) rfl (fun _ _ _ h => h) rfl ?_ (by assumption) ?_
      rotate_left
      · (intro w hSw; (try dsimp only at hSw); go_simp; try with_reducible rfl)
      try simp only [Act.put, List.setIfInBounds_toArray, List.set_cons_zero, List.set_cons_succ]
      refine takeH (i := 4) (v := ?_) rfl (by kernel_rfl) (by kernel_rfl) (by kernel_rfl) rfl (fun _ _ _ h => h) rfl ?_ (by assumption) ?_
      rotate_left
      · (intro w hSw; (try dsimp only at hSw); go_simp; try with_reducible rfl)
      try simp only [Act.put, List.setIfInBounds_toArray, List.set_cons_zero, List.set_cons_succ]
      refine takeH (i := 5) (v := ?_) rfl (by kernel_rfl) (by kernel_rfl) (by kernel_rfl) rfl (fun _ _ _ h => h) rfl ?_ (by assumption) ?_
      rotate_left
      · (intro w hSw; (try dsimp only at hSw); go_simp; try with_reducible rfl)
      try simp only [Act.put, List.setIfInBounds_toArray, List.set_cons_zero, List.set_cons_succ]
      refine takeH (i := 6) (v := ?_) rfl (by kernel_rfl) (by kernel_rfl) (by kernel_rfl) rfl (fun _ _ _ h => h) rfl ?_ (by assumption) ?_
      rotate_left
      · (intro w hSw; (try dsimp only at hSw); go_simp; try with_reducible rfl)
      try simp only [Act.put, List.setIfInBounds_toArray, List.set_cons_zero, List.set_cons_succ]
      refine takeH (i := 7) (v := ?_) rfl (by kernel_rfl) (by kernel_rfl) (by kernel_rfl) rfl (fun _ _ _ h => h) rfl ?_ (by assumption) ?_
      rotate_left
      · (intro w hSw; (try dsimp only at hSw); go_simp; try with_reducible rfl)
      try simp only [Act.put, List.setIfInBounds_toArray, List.set_cons_zero, List.set_cons_succ]
      refine takeH (i := 8) (v := ?_) rfl (by kernel_rfl) (by kernel_rfl) (by kernel_rfl) rfl (fun _ _ _ h => h) rfl ?_ (by assumption) ?_
      rotate_left
      · (intro w hSw; (try dsimp only at hSw); go_simp; try with_reducible rfl)
      try simp only [Act.put, List.setIfInBounds_toArray, List.set_cons_zero, List.set_cons_succ]
      refine takeH (i := 9) (v := ?_) rfl (by kernel_rfl) (by kernel_rfl) (by kernel_rfl) rfl (fun _ _ _ h => h) rfl ?_ (by assumption) ?_
      rotate_left
      · (intro w hSw; (try dsimp only at hSw); go_simp; try with_reducible rfl)
      try simp only [Act.put, List.setIfInBounds_toArray, List.set_cons_zero, List.set_cons_succ]
      refine takeH (i := 10) (v := ?_) rfl (by kernel_rfl) (by kernel_rfl) (by kernel_rfl) rfl (fun _ _ _ h => h) rfl ?_ (by assumption) ?_
      rotate_left
      · (intro w hSw; (try dsimp only at hSw); go_simp; try with_reducible rfl)
      try simp only [Act.put, List.setIfInBounds_toArray, List.set_cons_zero, List.set_cons_succ]
      refine takeH (i := 11) (v := ?_) rfl (by kernel_rfl) (by kernel_rfl) (by kernel_rfl) rfl (fun _ _ _ h => h) rfl ?_ (by assumption) ?_
      rotate_left
      · (intro w hSw; (try dsimp only at hSw); go_simp; try with_reducible rfl)
      try simp only [Act.put, List.setIfInBounds_toArray, List.set_cons_zero, List.set_cons_succ]
      refine takeH (i := 12) (v := ?_) rfl (by kernel_rfl) (by kernel_rfl) (by kernel_rfl) rfl (fun _ _ _ h => h) rfl ?_ (by assumption) ?_
      rotate_left
      · (intro w hSw; (try dsimp only at hSw); go_simp; try with_reducible rfl)
      try simp only [Act.put, List.setIfInBounds_toArray, List.set_cons_zero, List.set_cons_succ]
      refine nextT (i := 13) (by kernel_rfl) rfl (fun K hK => ?_)
      go_simp
      have KF : Fact (Keep (Kb base p) w w1.drew) := ⟨(K1.out.mono fun i hi => hi.2).drew⟩
      have HXG : Gp p pv1 w.heap.size := ⟨hwp, fun e => by have := H.out; have h2 := HB1.out.row_lt e; rw [HPV.out] at e; have h3 := (H.out.row_lt e).2; omega⟩
      obtain ⟨A', hA'⟩ : ∃ q, q = (if c = k then some a else some (a.add k)) := ⟨_, rfl⟩
      have HBC : Fact (By w1 (Gp p pv1) (.slice A' (k3 - k) (c - k)) cb) := ⟨HYC.out A' (c - k) (fun h => ⟨by rw [hA', if_pos h], by omega⟩) (fun h => ⟨by rw [hA', if_neg h]; rfl, rfl⟩)⟩
      rw [← hA']
      have hlf := leaf168g w1.drew p base used fuel at_ (.slice OA nops oc) pv1 rest (Gp p pv1) xs 1 cb A' (c - k) (HB1.out.keep (Keep.refl _ w1).drew) (by rw [HCL.out]; exact HBC.out.keep (Keep.refl _ w1).drew) HS.out
      rw [HCL.out] at hlf
      refine hlf.mono ?_
      clear hlf
      intro e w4 hq
      have HQ := Fact.mk hq
      clear hq
      cases e with
      | returned u =>
        refine hK.out _ _ (⟨HQ.out.2.cell (p := ⟨w.heap.size, 1, none⟩) HXG o1, HQ.out.2.cell (p := ⟨w.heap.size, 2, none⟩) HXG o2⟩) (fun hHeld => ⟨by kernel_rfl, ?_⟩)
        clear hK K
        try simp only [Act.put, List.setIfInBounds_toArray, List.set_cons_zero, List.set_cons_succ]
        go_wp2
        go_end0
        rw [HF.out]
        exact (HQ.out.from_ KF.out HB1.out.kb).ret
      | panicked ch =>
        dsimp only
        rw [HF.out]
        exact ⟨rfl, HQ.out.from_ KF.out HB1.out.kb⟩
      | outgrown => exact HQ.out.no.elim
theorem word11 (pile : List PNode) (n m : Nat) (tA : Option Addr) (tn tc : Nat) (OA : Option Addr) (nops oc : Nat) (h : BSt w p base used fuel at_ (.slice OA nops oc) rest pile pv) : Calls Tryz.prog 114 #[.pointer (some ⟨p, 0, none⟩), .agg #[.int .i64 11, .int .i64 (n : Int), .int .i64 (m : Int), .slice tA tn tc]] w (OpOut (Kb base p) w p base used fuel (.slice OA nops oc) rest (wordR (fun r x => match r.reverse with | [] => none | d :: r2 => if d.kind = 1 then putR r2.reverse [.mk 1 (d.bytes ++ x.bytes) []] at_ else none) pile)) := by
  have H := Fact.mk h
  have KB : Fact (Keep All w (w.alloc (.cells #[.int .i64 11, .int .i64 (n : Int), .int .i64 (m : Int), .slice tA tn tc] 25))) := ⟨(Keep.refl _ w).alloc _⟩
  have HOB : Fact (Blk (w.alloc (.cells #[.int .i64 11, .int .i64 (n : Int), .int .i64 (m : Int), .slice tA tn tc] 25)) w.heap.size [.int .i64 11, .int .i64 (n : Int), .int .i64 (m : Int), .slice tA tn tc] 25) := ⟨Blk.new w _ 25⟩
  have hwp : w.heap.size ≠ p := by have := h.pb; have := h.size; omega
  obtain ⟨RR, hRR⟩ : ∃ q, q = wordR (fun r x => match r.reverse with | [] => none | d :: r2 => if d.kind = 1 then putR r2.reverse [.mk 1 (d.bytes ++ x.bytes) []] at_ else none) pile := ⟨_, rfl⟩
  rw [← hRR]
  have HRR := Fact.mk hRR
  have KFb : ∀ i, Kb base p i → i ≠ p := fun i hi => hi.2
  clear h hRR
  rcases pile_cases pile with rfl | ⟨xs, x, rfl⟩
  · have HF : Fact (RR = none) := ⟨by rw [HRR.out]; simp [wordR]⟩
    go_enter Tryz.func114, Tryz.ntmps114
    go_wp2_with (go_at_call 167; go_must (refine (text167_nil _ p base used fuel at_ (.slice OA nops oc) pv rest (H.out.keep KB.out)).mono ?_); rintro e v hb; have HB := Fact.mk hb; obtain ⟨he, -⟩ := hb; unfold errFail at he; subst he)
    refine ⟨rfl, ?_⟩
    rw [HF.out]
    exact (HB.out.opout (K := Kb base p) KFb).from_ KB.out.all fun _ h => h
  · by_cases hx1 : x.kind = 1
    rotate_left
    · have HF : Fact (RR = none) := ⟨by rw [HRR.out]; simp [wordR, hx1]⟩
      go_enter Tryz.func114, Tryz.ntmps114
      go_wp2_with (go_at_call 167; go_must (refine (text167_not _ p base used fuel at_ (.slice OA nops oc) pv rest xs x (H.out.keep KB.out) hx1).mono ?_); rintro e v hb; have HB := Fact.mk hb; obtain ⟨he, -⟩ := hb; unfold errFail at he; subst he)
      refine ⟨rfl, ?_⟩
      rw [HF.out]
      exact (HB.out.opout (K := Kb base p) KFb).from_ KB.out.all fun _ h => h
    have HX1 := Fact.mk hx1
    have hxb : x.bytes.length ≤ 2048 := by
      have := rightP_small H.out.rightTop
      obtain ⟨k, b, kk⟩ := x
      rw [SmallN] at this
      exact this.1
    go_enter Tryz.func114, Tryz.ntmps114
    go_upto_region 6 with (go_at_call 167; go_must (refine (text167g _ p base used fuel at_ (.slice OA nops oc) pv rest xs x (H.out.keep KB.out) hx1).mono ?_); rintro e w1 ⟨xs', x', hpe, A, c, pv1, he, hb, hpv1, hby, hk⟩; obtain ⟨hxe, hx'⟩ := List.append_inj' hpe rfl; simp only [List.cons.injEq, and_true] at hx'; subst hxe hx' he; have HB1 := Fact.mk hb; have HBY := Fact.mk hby; have K1 := Fact.mk (KB.out.all.trans hk); have bo := HOB.out.keep hk hwp; have HO1 := Fact.mk bo; have o0 := bo.cell 0 _ rfl; have o1 := bo.cell 1 _ rfl; have o2 := bo.cell 2 _ rfl; have ol := bo.lt; have HPV := Fact.mk hpv1; clear hb hby hk hpe bo hpv1)
    have HBW := Fact.mk (HB1.out.keep (Keep.refl _ w1).drew)
    have KF : Fact (Keep (Kb base p) w w1.drew) := ⟨(K1.out.mono fun i hi => hi.2).drew⟩
    have HXB := Fact.mk hxb
    refine wp_region_T 99 (fun _ => True) (by kernel_rfl) trivial (fun hHeld => ?_)
    refine takeH (i := 0) (v := ?_) rfl (by kernel_rfl) (by kernel_rfl) (by kernel_rfl) rfl (fun _ _ _ h => h) rfl ?_ (by assumption) ?_
    rotate_left
    · (intro w hSw; (try dsimp only at hSw); go_simp; try with_reducible rfl)
    try simp only [Act.put, List.setIfInBounds_toArray, List.set_cons_zero, List.set_cons_succ]
    refine takeH (i := 1) (v := ?_) rfl (by kernel_rfl) (by kernel_rfl) (by kernel_rfl) rfl (fun _ _ _ h => h) rfl ?_ (by assumption) ?_
    rotate_left
    · (intro w hSw; (try dsimp only at hSw); go_simp; try with_reducible rfl)
    try simp only [Act.put, List.setIfInBounds_toArray, List.set_cons_zero, List.set_cons_succ]
    refine takeH (i := 2) (v := ?_) rfl (by kernel_rfl) (by kernel_rfl) (by kernel_rfl) rfl (fun _ _ _ h => h) rfl ?_ (by assumption) ?_
    rotate_left
    · (intro w hSw; (try dsimp only at hSw); go_simp; try with_reducible rfl)
    try simp only [Act.put, List.setIfInBounds_toArray, List.set_cons_zero, List.set_cons_succ]
    refine takeH (i := 3) (v := ?_) rfl (by kernel_rfl) (by kernel_rfl) (by kernel_rfl) rfl (fun _ _ _ h => h) rfl ?_ (by assumption) ?_
    rotate_left
    · (intro w hSw; (try dsimp only at hSw); go_simp; try with_reducible rfl)
    try simp only [Act.put, List.setIfInBounds_toArray, List.set_cons_zero, List.set_cons_succ]
    refine takeH (i := 4) (v := ?_) rfl (by kernel_rfl) (by kernel_rfl) (by kernel_rfl) rfl (fun _ _ _ h => h) rfl ?_ (by assumption) ?_
    rotate_left
    · (intro w hSw; (try dsimp only at hSw); go_simp; try with_reducible rfl)
    try simp only [Act.put, List.setIfInBounds_toArray, List.set_cons_zero, List.set_cons_succ]
    refine takeH (i := 5) (v := ?_) rfl (by kernel_rfl) (by kernel_rfl) (by kernel_rfl) rfl (fun _ _ _ h => h) rfl ?_ (by assumption) ?_
    rotate_left
    · (intro w hSw; (try dsimp only at hSw); go_simp; try with_reducible rfl)
    try simp only [Act.put, List.setIfInBounds_toArray, List.set_cons_zero, List.set_cons_succ]
    refine takeH (i := 8) (v := ?_) rfl (by kernel_rfl) (by kernel_rfl) (by kernel_rfl) rfl (fun _ _ _ h => h) rfl ?_ (by assumption) ?_
    rotate_left
    · (intro w hSw; (try dsimp only at hSw); go_simp; try with_reducible rfl)
    try simp only [Act.put, List.setIfInBounds_toArray, List.set_cons_zero, List.set_cons_succ]
    refine nextT (i := 6) (by kernel_rfl) rfl (fun K hK => ?_)
    go_simp
    rcases pile_cases xs with rfl | ⟨xs, d, rfl⟩
    · have HF : RR = none := by rw [HRR.out]; simp [wordR, HX1.out]
      refine (text167_nil w1.drew p base used fuel at_ (.slice OA nops oc) pv1 rest HBW.out).mono ?_
      rintro e v hb
      have hb' := hb
      obtain ⟨he, -⟩ := hb
      unfold errFail at he
      subst he
      refine ⟨rfl, ?_⟩
      rw [HF]
      exact (hb'.opout (K := Kb base p) KFb).from_ KF.out fun _ h => h
    · by_cases hd1 : d.kind = 1
      · have HF : Fact (RR = putR xs [.mk 1 (d.bytes ++ x.bytes) []] at_) := ⟨by rw [HRR.out]; simp [wordR, HX1.out, hd1]⟩
        have hdb : d.bytes.length ≤ 2048 := by
          have := rightP_small HB1.out.rightTop
          obtain ⟨k, b, kk⟩ := d
          rw [SmallN] at this
          exact this.1
        refine (text167g w1.drew p base used fuel at_ (.slice OA nops oc) pv1 rest xs d HBW.out hd1).mono ?_
        rintro e w2 ⟨xs', x', hpe, A2, c2, pv2, he, hb, hpv2, hby2, hk⟩
        obtain ⟨hxe, hx'⟩ := List.append_inj' hpe rfl
        simp only [List.cons.injEq, and_true] at hx'
        subst hxe hx' he
        have HB2 := Fact.mk hb
        have HB2Y := Fact.mk hby2
        have HXY : Fact (By w2 (Gp p pv2) (.slice A x.bytes.length c) x.bytes) := ⟨((HBY.out.keep (Keep.refl _ w1).drew).keep (hk.mono fun i hi => hi.1)).mono fun i _ hi => ⟨hi.1, by rw [hpv2]; exact hi.2⟩⟩
        have K2 := Fact.mk (KF.out.trans (hk.mono fun i hi => hi.2))
        clear hb hby2 hk hHeld hpe
        refine hK.out _ _ (trivial) (fun hHeld => ?_)
        clear hK K
        try simp only [Act.put, List.setIfInBounds_toArray, List.set_cons_zero, List.set_cons_succ]
        refine nextT (i := 7) (by kernel_rfl) rfl (fun K hK => ?_)
        go_simp
        refine (clone72o w2 (Gp p pv2) _ d.bytes HB2Y.out (Small.of (by omega))).mono ?_
        rintro e w3 ⟨A3, c3, rfl, hrow3, hk3⟩
        have HR3 := Fact.mk hrow3
        have K3 := Fact.mk hk3
        clear hrow3 hk3 hHeld
        refine hK.out _ _ (trivial) (fun hHeld => ?_)
        clear hK K
        try simp only [Act.put, List.setIfInBounds_toArray, List.set_cons_zero, List.set_cons_succ]
        refine nextT (i := 9) (by kernel_rfl) rfl (fun K hK => ?_)
        rw [if_pos (show Region.wanted _ _ = true by simp [Region.wanted])]
        refine wp_ap (.tmp 34) (.tmp 35) 23 5 1 1 w2.heap.size d.bytes.length x.bytes.length HR3.out (HXY.out.keep K3.out.all) rfl T23 rfl rfl (Fits.of (Small.of (by omega)) 1 (by decide)) K3.out.size ?_
        intro v' w4 ho hg hb
        obtain ⟨A4, c4, rfl⟩ := own_form ho
        have K4 : Fact (Keep All w2 w4) := ⟨K3.out.grown hg fun q hq => .inl (HR3.out.lt q hq).1⟩
        have HY4 : Fact (By w4 (Gp p pv2) (.slice A4 (d.bytes ++ x.bytes).length c4) (d.bytes ++ x.bytes)) := ⟨by
          have h := ho
          rw [← List.map_append] at h
          rw [List.length_append]
          exact (By.of_own h).mono fun i _ hi => HB2.out.ge hi⟩
        clear ho hg hb hHeld
        refine hK.out _ _ (trivial) (fun hHeld => ?_)
        clear hK K
        try simp only [Act.put, List.setIfInBounds_toArray, List.set_cons_zero, List.set_cons_succ]
        refine nextT (i := 10) (by kernel_rfl) rfl (fun K hK => ?_)
        go_simp
        have KF4 : Fact (Keep (Kb base p) w w4) := ⟨K2.out.trans K4.out.all⟩
        have hlf := leaf168g w4 p base used fuel at_ (.slice OA nops oc) pv2 rest (Gp p pv2) xs 1 (d.bytes ++ x.bytes) A4 c4 (HB2.out.keep K4.out) HY4.out (Small.of (by rw [List.length_append]; omega))
        rw [List.length_append] at hlf
        refine hlf.mono ?_
        clear hlf
        intro e w5 hq
        have HQ := Fact.mk hq
        clear hq
        cases e with
        | returned u =>
          refine hK.out _ _ (trivial) (fun hHeld => ⟨by kernel_rfl, ?_⟩)
          clear hK K
          try simp only [Act.put, List.setIfInBounds_toArray, List.set_cons_zero, List.set_cons_succ]
          go_wp2
          go_end0
          rw [HF.out]
          exact (HQ.out.from_ KF4.out HB2.out.kb).ret
        | panicked ch =>
          dsimp only
          rw [HF.out]
          exact ⟨rfl, HQ.out.from_ KF4.out HB2.out.kb⟩
        | outgrown => exact HQ.out.no.elim
      · have HF : RR = none := by rw [HRR.out]; simp [wordR, HX1.out, hd1]
        refine (text167_not w1.drew p base used fuel at_ (.slice OA nops oc) pv1 rest xs d HBW.out hd1).mono ?_
        rintro e v hb
        have hb' := hb
        obtain ⟨he, -⟩ := hb
        unfold errFail at he
        subst he
        refine ⟨rfl, ?_⟩
        rw [HF]
        exact (hb'.opout (K := Kb base p) KFb).from_ KF.out fun _ h => h
end
end Go.Proofs.YtddmbdigdnmfgaaGreatDoor
