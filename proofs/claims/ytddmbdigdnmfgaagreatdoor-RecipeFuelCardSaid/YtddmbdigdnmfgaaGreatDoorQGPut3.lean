/- slices.Insert of one kid. -/
import Derived.Test.YtddmbdigdnmfgaaGreatDoorQRows4
import Derived.Lib.Overlaps
namespace Go.Proofs.YtddmbdigdnmfgaaGreatDoor
open Go.RowKit
set_option maxHeartbeats 1000000
set_option maxRecDepth 100000

/- A drawn region without loads: the law for its only builtin is laid by hand, all else is taken first. -/
section
variable {P : Program} {ops : Array Oper} {Q : Exit → Act → World → Prop} {md : Region.Mode} {S : World → Prop} {n : Nat}
theorem wpAnyT_firstA {i : Nat} {oi : Oper} {v : Value} (hi : ops[i]? = some oi) (hsel : ∀ (j : Nat) (o : Oper) cs b, ops[j]? = some o → o.op ≠ .select cs b)
    (hQ : ∀ c a w, Q (.panic c) (a.put oi.dst v) w → Q (.panic c) a w) (hSA : ∀ w, S w) :
    ∀ (fuel : Nat) (listed : Array Bool) (a : Act) (w : World),
      (∀ j oj, ops[j]? = some oj → j ≠ i → listed.getD j true = false → (∀ e ∈ oj.after, Region.binds md e = true → e.on ≠ i) → oi.apart ops oj = true) →
      i ∈ Region.ready md ops listed → YieldsIf P ops S oi v a → S w →
      wpAnyT P md ops Q S n fuel (listed.setIfInBounds i true) (a.put oi.dst v) w → wpAnyT P md ops Q S n (fuel + 1) listed a w := by
  intro fuel
  induction fuel with
  | zero =>
    intro listed a w _ hr hy hS H
    refine ⟨fun h => (by rw [h] at hr; cases hr), fun j hj => ?_⟩
    by_cases hji : j = i
    · subst hji; exact hy.wpOp hi hS ⟨fun _ => hS, H⟩
    · have := ready_mono hj hji
      rw [H.1] at this
      cases this
  | succ fuel ih =>
    intro listed a w hfree hr hy hS H
    refine ⟨fun h => (by rw [h] at hr; cases hr), fun j hj => ?_⟩
    by_cases hji : j = i
    · subst hji; exact hy.wpOp hi hS ⟨fun _ => hS, H⟩
    · have h1 := H.2 j (ready_mono hj hji)
      obtain ⟨hjun, oj, hoj, hall⟩ := mem_ready.1 hj
      have hnot : ∀ e ∈ oj.after, Region.binds md e = true → e.on ≠ i := fun e he hb heq => by
        have h1 := hall e he hb
        have h0 := (mem_ready.1 hr).1
        rw [heq] at h1
        rcases Nat.lt_or_ge i listed.size with h' | h'
        · simp [h'] at h0 h1; rw [h0] at h1; cases h1
        · simp [Array.getElem?_eq_none h'] at h1
      have h2 := wpOp_putIf hoj (hfree j oj hoj hji hjun hnot) (fun cs b => hsel i oi cs b hi) (fun cs b => hsel j oj cs b hoj) hQ hy h1
      have hfree' : ∀ k ok, ops[k]? = some ok → k ≠ i → (listed.setIfInBounds j true).getD k true = false →
          (∀ e ∈ ok.after, Region.binds md e = true → e.on ≠ i) → oi.apart ops ok = true := fun k ok hk hki hun hno => by
        refine hfree k ok hk hki ?_ hno
        by_cases hjk : j = k
        · subst hjk; exact hjun
        · rw [getD_set_ne true hjk] at hun; exact hun
      refine wpOp_mono (fun a' w' h3 => ⟨fun h => h3.2.1 h, ih (listed.setIfInBounds j true) a' w' hfree' (ready_mono hr (Ne.symm hji)) h3.1 (hSA _) ?_⟩) h2
      rw [Array.setIfInBounds_comm _ _ hji]
      exact h3.2.2
end
section
variable {P : Program} {l : List Oper} {Q : Exit → Act → World → Prop} {md : Region.Mode} {S : World → Prop} {n : Nat}
theorem takeA {i : Nat} {oi : Oper} {v : Value} {fuel : Nat} {listed : Array Bool} {a : Act} {w : World} (hi : l[i]? = some oi)
    (hs : Region.noSelect l.toArray = true) (hf : Region.free md l.toArray listed i = true) (hr : (Region.ready md l.toArray listed).contains i = true) (hSA : ∀ w, S w)
    (hQ : ∀ c a w, Q (.panic c) (a.put oi.dst v) w → Q (.panic c) a w) (hw : Region.wanted oi (yielded l.toArray a.tmps) = true)
    (hy : ∀ w, S w → (execOp a.eval oi).run P w = .ok (.value v) w)
    (h : wpAnyT P md l.toArray Q S n fuel (listed.setIfInBounds i true) (a.put oi.dst v) w) : wpAnyT P md l.toArray Q S n (fuel + 1) listed a w :=
  wpAnyT_firstA (by simpa using hi) (Region.noSelect_spec hs) hQ hSA fuel listed a w (Region.free_spec (by simpa using hi) hf) (by simpa using hr) (.inl ⟨hw, hy⟩) (hSA _) h
end
/-- append of a made slice, where there is no room. -/
theorem run_appMake {P : Program} {w : World} {t ty e u : TypeId} {sz bytes : Nat} (hT : SlTy P t e sz bytes) (hu : P.underlying u = some (.int .i64)) (b : Addr) (i cap m : Nat) (olds : List Value) (hl : olds.length = i * sz)
    (holds : ∀ j v, olds[j]? = some v → w.cell? (b.add j) = some v) (hg : cap < i + m) (hm : (i + m) * bytes ≤ 140737488355328) (hm2 : i + m ≤ maxLen) (hm3 : 0 < m) (hmb : (m : Int) * bytes ≤ 281474976710656) :
    ∃ c zs, (Builtin.append_ #[t, u] ty #[.slice (some b) i cap, .int .i64 m]).run P w = .ok (.slice (some ⟨w.heap.size, 0, none⟩) (i + m) c) (w.drew.alloc (.cells (olds ++ zs).toArray e)) ∧ i + m ≤ c ∧ c ≤ maxLen ∧ (olds ++ zs).length = c * sz := by
  obtain ⟨ht, hsz, I, z, hi, hz, hs1, hs2, hzs⟩ := hT
  subst hs1 hs2
  have h9 : i + m ≤ 9223372036854775807 := by simp only [maxLen] at hm2; omega
  have h63' : ¬ (9223372036854775807 < ((i : Int) + (m : Int))) := by omega
  have h48' : ¬ (281474976710656 < Builtin.nextslicecap (i + m) cap * I.bytes) := by have := growslice_fits (need := i + m) (old := cap) hg hm; omega
  have hfo := run_firstCells_some (P := P) w.drew I.size i b i cap olds hl (by simpa using holds)
  have hn : ¬ (i + m ≤ cap) := by omega
  have hw : IntKind.i64.wrap (m : Int) = m := by rw [IntKind.wrap_i64]; omega
  have h0 : ¬ ((m : Int) < 0) := by omega
  have h1 : ¬ (281474976710656 < (m : Int) * (I.bytes : Int)) := by omega
  have h2 : ¬ (m * I.size = 0) := by
    intro e
    rcases Nat.mul_eq_zero.1 e with e | e <;> omega
  have hge := grownCap_ge w (i + m) cap e
  have hcm : grownCap w (i + m) cap e ≤ maxLen := grownCap_le_maxLen w (i + m) cap e hm2
  refine ⟨grownCap w (i + m) cap e, (Builtin.zeroCells z.cells m).toList ++ (Builtin.zeroCells z.cells (grownCap w (i + m) cap e - (i + m))).toList, ?_, hge, hcm, ?_⟩
  · simp [Builtin.append_, run_underlying ht, run_underlying hu, sizeOf, typeInfo, zeroValue, hi, hz, hw, h0, h1, h2, asInt, asIntOf, hn, h63', h48', Question.forced, hfo, newRow, grownCap]
    congr 2
    apply Array.ext'
    simp
  · simp only [List.length_append, hl, Array.length_toList, size_zeroCells, hzs]
    rw [← Nat.add_assoc, ← Nat.add_mul, ← Nat.add_mul]
    congr 1
    omega
theorem wpList_appMake {P : Program} {w : World} {ops : Array Oper} {rest : List Oper} {oo : Oper} {a : Act} {Q : Exit → Act → World → Prop} (hgd : oo.guard = none) (s x : Operand) (t u e : TypeId) (sz bytes : Nat) (hT : SlTy P t e sz bytes) (hu : P.underlying u = some (.int .i64)) (b : Addr) (i cap m N : Nat) (olds : List Value)
    (ho : oo.op = .call { callee := .builtin .append, args := #[s, x], argTypes := #[t, u] }) (hs : a.eval s = .slice (some b) i cap) (X : Int) (hx : a.eval x = .int .i64 X) (hX : X = m) (hl : olds.length = i * sz)
    (holds : ∀ j v, olds[j]? = some v → w.cell? (b.add j) = some v) (hg : cap < i + m) (hm : (i + m) * bytes ≤ 140737488355328) (hm2 : i + m ≤ maxLen) (hm3 : 0 < m) (hN : N = i + m)
    (h : ∀ c zs, N ≤ c → c ≤ maxLen → (olds ++ zs).length = c * sz → wpList P ops Q rest (a.put oo.dst (.slice (some ⟨w.heap.size, 0, none⟩) N c)) (w.drew.alloc (.cells (olds ++ zs).toArray e))) : wpList P ops Q (oo :: rest) a w := by
  subst hX hN
  have hmb : (m : Int) * bytes ≤ 281474976710656 := by
    have : m * bytes ≤ (i + m) * bytes := Nat.mul_le_mul_right _ (by omega)
    have h2 : m * bytes ≤ 281474976710656 := by omega
    rw [← Int.natCast_mul]
    omega
  obtain ⟨c, zs, hr, h1, h2, h3⟩ := run_appMake (P := P) (w := w) (ty := oo.type) hT hu b i cap m olds hl holds hg hm hm2 hm3 hmb
  refine wpList_plain hgd fun K hK => ?_
  unfold Oper.wp execOp
  rw [ho]
  simp only [resolve, invoke, builtin, Sem.run_bind, Sem.run_pure, Result.andThen_ok, List.map_toArray, List.map_cons, List.map_nil, hs, hx]
  rw [hr]
  simp only [Result.andThen_ok]
  exact hK _ _ (h c zs h1 h2 h3)
theorem step_copyR {P : Program} {w : World} {g : Nat} {cs : List Value} {ops : Array Oper} {oo : Oper} {a : Act} {K : Act → World → Prop} {Q : Exit → Act → World → Prop} {E : Prop} (hgd : oo.guard = none) (d s : Operand) (dT sT e : TypeId) (sz bytes o dLen dCap sLen sCap : Nat) (sa : Addr) (news : List Value) (hT : SlTy P dT e sz bytes)
    (ho : oo.op = .call { callee := .builtin .copy, args := #[d, s], argTypes := #[dT, sT] }) (hd : a.eval d = .slice (some ⟨g, o, none⟩) dLen dCap) (hs : a.eval s = .slice (some sa) sLen sCap)
    (hb : Blk w g cs e) (hn : news.length = Nat.min sLen dLen * sz) (hnews : ∀ j u, news[j]? = some u → w.cell? (sa.add j) = some u) (h1 : ∀ u ∈ news, u.oneCell' = true) (hfit : o + news.length ≤ cs.length)
    (h : K (a.put oo.dst (goInt (Nat.min sLen dLen))) (w.setRow g (cs.take o ++ news ++ cs.drop (o + news.length)).toArray)) :
    if Region.wanted oo (yielded ops a.tmps) = true then Oper.wp P oo a w K Q else E := by
  have hw : Region.wanted oo (yielded ops a.tmps) = true := by simp [Region.wanted, hgd]
  rw [if_pos hw]
  exact wp_copyR d s dT sT e sz bytes o dLen dCap sLen sCap sa news hT ho hd hs hb hn hnews h1 hfit h
/-- Cells of a row known whole. -/
theorem Blk.cut {w : World} {g : Nat} {cs : List Value} {T : TypeId} (h : Blk w g cs T) (o l : Nat) (j : Nat) (v : Value) (hj : ((cs.drop o).take l)[j]? = some v) : w.cell? ((⟨g, o, none⟩ : Addr).add j) = some v := by
  rw [add_at]
  rw [List.getElem?_take] at hj
  split at hj
  · rw [List.getElem?_drop] at hj
    exact h.cell _ _ hj
  · cases hj
theorem own_some {w : World} {base e sz n g cap : Nat} {xs : List Value} (h : w.ownsRow base e sz (.slice (some ⟨g, 0, none⟩) n cap) n xs) : ∃ cur, base ≤ g ∧ Blk w g cur e ∧ n ≤ cap ∧ cap ≤ maxLen ∧ cur.length = cap * sz ∧ cur.take (n * sz) = xs := by
  rcases h.2 with ⟨h0, -⟩ | ⟨g', cap', cur, hv, hb, hh, h1, h2, h3, h4⟩
  · cases h0
  · simp only [Value.slice.injEq, Option.some.injEq, Addr.mk.injEq, and_true, true_and] at hv
    obtain ⟨rfl, rfl⟩ := hv
    exact ⟨cur.toList, hb, by simpa [Blk] using hh, h1, h2, by simpa using h3, h4⟩
theorem Blk.sl {w : World} {g : Nat} {cs : List Value} {T : TypeId} (h : Blk w g cs T) (hl : cs.length = 4) (h1 : ∀ u ∈ cs, u.oneCell' = true) : Sl w (fun i => i = g) 4 (.slice (some ⟨g, 0, none⟩) 1 1) 1 cs :=
  ⟨h1, _, 1, rfl, hl, Nat.le_refl _, by unfold maxLen; omega, (fun e => by cases e), fun _ => ⟨g, 0, rfl, rfl, h.at⟩⟩
/-- One kid more, in the row that it was in or in a new one. -/
def Inserted (w : World) (base n i : Nat) (v : Value) (xs kid : List Value) (e : Ending) (w' : World) : Prop :=
  ∃ v', e = .returned v' ∧ w'.ownsRow base 71 4 v' (n + 1) (xs.take (i * 4) ++ (kid ++ xs.drop (i * 4))) ∧ Keep (fun j => v.ownBlock ≠ some j) w w' ∧ (v'.ownBlock = v.ownBlock ∨ ∃ g, v'.ownBlock = some g ∧ w.heap.size ≤ g)
section
variable (w : World) (base g n cap xb i : Nat) (xs kid : List Value)
theorem insNil (hb : base ≤ w.heap.size) (hx : Blk w xb kid 71) (hk : kid.length = 4) (h1 : ∀ u ∈ kid, u.oneCell' = true) :
    Calls Tryz.prog 222 #[.slice none 0 0, .int .i64 0, .slice (some ⟨xb, 0, none⟩) 1 1] w (Inserted w base 0 0 (.slice none 0 0) [] kid) := by
  refine (ins222 w _ _ _ kid (hx.sl hk h1)).mono ?_
  rintro e w' ⟨g, c, rfl, ho, hk'⟩
  exact ⟨_, rfl, by simpa using own_base ho hb, hk'.all, .inr ⟨g, rfl, by obtain ⟨cur, h, -⟩ := own_some ho; exact h⟩⟩
theorem insA (h : w.ownsRow base 71 4 (.slice (some ⟨g, 0, none⟩) n cap) n xs) (hb : base ≤ w.heap.size) (hn : n ≤ 1000) (hx : Blk w xb kid 71) (hk : kid.length = 4) (h1 : ∀ u ∈ kid, u.oneCell' = true) :
    Calls Tryz.prog 222 #[.slice (some ⟨g, 0, none⟩) n cap, .int .i64 n, .slice (some ⟨xb, 0, none⟩) 1 1] w (Inserted w base n n (.slice (some ⟨g, 0, none⟩) n cap) xs kid) := by
  obtain ⟨cur, hbg, hblk, hc1, hc2, hcl, htk⟩ := own_some h
  have H := Fact.mk h
  have HX := Fact.mk (hx.sl hk h1)
  have hc9 : cap ≤ 9223372036854775807 := by unfold maxLen at hc2; omega
  have i4 : (n : Int) ≤ cap := by omega
  clear hblk hcl htk hc2 hbg h hx h1
  go_enter Tryz.func222, Tryz.ntmps222
  go_wp2_with (at_builtin; go_must (refine wpList_ap rfl _ _ 56 71 4 72 base n 1 H.out HX.out rfl T56 rfl rfl (Fits.of (Small.of (by omega)) 72 (by decide)) hb ?_); intro v' w1 ho hg hbk; have HO := Fact.mk ho; have HG := Fact.mk hg; have HB := Fact.mk hbk; clear ho hg hbk)
  all_goals
    go_ret
    refine ⟨v', rfl, ?_, (Keep.refl _ w).grown HG.out (fun k e => .inr fun h => h e), ?_⟩
    · have := HO.out
      have hxl := H.out.1
      rw [List.take_of_length_le (by omega), List.drop_eq_nil_of_le (by omega), List.append_nil]
      exact this
    · rcases HB.out with e | e
      · exact .inl e
      · exact .inr ⟨_, e, Nat.le_refl _⟩
omit w base g cap xb xs in
theorem ins_seg (A D C : List Value) (ha : A.length = i * 4) (hk : kid.length = 4) (hd : D.length = (n - i) * 4) (hi : i < n) (hc : (n + 1) * 4 ≤ C.length) (hA : C.take (i * 4) = A) (C2 C3 : List Value)
    (h2 : C2 = C.take (i * 4) ++ kid ++ C.drop (i * 4 + kid.length)) (h3 : C3 = C2.take ((i + 1) * 4) ++ D ++ C2.drop ((i + 1) * 4 + D.length)) : C2.length = C.length ∧ C3.length = C.length ∧ C3.take ((n + 1) * 4) = A ++ (kid ++ D) := by
  have e2 : C2.length = C.length := by rw [h2]; simp only [List.length_append, List.length_take, List.length_drop]; omega
  have e3 : C3.length = C.length := by rw [h3]; simp only [List.length_append, List.length_take, List.length_drop]; omega
  refine ⟨e2, e3, ?_⟩
  have h4 : C2.take ((i + 1) * 4) = A ++ kid := by
    rw [h2, hA]
    exact List.take_left' (by rw [List.length_append]; omega)
  rw [h3, h4, ← List.append_assoc]
  exact List.take_left' (by simp only [List.length_append]; omega)
omit w base g cap xb xs in
theorem ins_seg2 (A D C : List Value) (ha : A.length = i * 4) (hk : kid.length = 4) (hd : D.length = (n - i) * 4) (hi : i < n) (hc : (n + 1) * 4 ≤ C.length) (hA : C.take (i * 4) = A) (C2 C3 : List Value)
    (h2 : C2 = C.take ((i + 1) * 4) ++ D ++ C.drop ((i + 1) * 4 + D.length)) (h3 : C3 = C2.take (i * 4) ++ kid ++ C2.drop (i * 4 + kid.length)) : C2.length = C.length ∧ C3.length = C.length ∧ C3.take ((n + 1) * 4) = A ++ (kid ++ D) := by
  have e2 : C2.length = C.length := by rw [h2]; simp only [List.length_append, List.length_take, List.length_drop]; omega
  have e3 : C3.length = C.length := by rw [h3]; simp only [List.length_append, List.length_take, List.length_drop]; omega
  refine ⟨e2, e3, ?_⟩
  have h4 : C2.take (i * 4) = A := by
    rw [h2, List.append_assoc, List.take_append_of_le_length (by rw [List.length_take]; omega), List.take_take, Nat.min_eq_left (by omega), hA]
  have h5 : C2.drop (i * 4 + kid.length) = D ++ C.drop ((i + 1) * 4 + D.length) := by
    rw [h2, List.append_assoc]
    exact List.drop_left' (by rw [List.length_take]; omega)
  rw [h3, h4, h5, ← List.append_assoc, ← List.append_assoc]
  exact List.take_left' (by simp only [List.length_append]; omega)
theorem T3i : Tryz.prog.underlying 3 = some (.int .i64) := by kernel_rfl
theorem insB (h : w.ownsRow base 71 4 (.slice (some ⟨g, 0, none⟩) n n) n xs) (hb : base ≤ w.heap.size) (hn : n ≤ 1000) (hi : i < n) (hx : Blk w xb kid 71) (hk : kid.length = 4) (h1 : ∀ u ∈ kid, u.oneCell' = true) (h1x : ∀ u ∈ xs, u.oneCell' = true) :
    Calls Tryz.prog 222 #[.slice (some ⟨g, 0, none⟩) n n, .int .i64 i, .slice (some ⟨xb, 0, none⟩) 1 1] w (Inserted w base n i (.slice (some ⟨g, 0, none⟩) n n) xs kid) := by
  obtain ⟨cur, hbg, hblk, -, -, hcl, htk⟩ := own_some h
  obtain rfl : cur = xs := by rw [← htk, List.take_of_length_le (by omega)]
  have HB := Fact.mk hblk
  have HX := Fact.mk hx
  have HL := Fact.mk hcl
  have HK := Fact.mk hk
  have H1 := Fact.mk h1
  have H2 := Fact.mk h1x
  have i0 : (0 : Int) ≤ i := by omega
  have i1 : (i : Int) ≤ n := by omega
  have i2 : ¬ (i : Int) = n := by omega
  have i3 : ¬ n = i := by omega
  have i5 : (0 : Int) ≤ (i : Int) + 1 := by omega
  have i6 : (i : Int) ≤ (n : Int) + 1 := by omega
  have i7 : (i : Int) + 1 ≤ (n : Int) + 1 := by omega
  have hol : (cur.take (i * 4)).length = i * 4 := by rw [List.length_take, hcl]; omega
  have HO := Fact.mk hol
  obtain ⟨gn, hgn⟩ : ∃ gn, gn = w.heap.size := ⟨_, rfl⟩
  have hgl := hblk.lt
  have hxl := hx.lt
  have HGN := Fact.mk hgn
  clear h hblk hx hcl hk h1 h1x htk hol hgn
  go_enter Tryz.func222, Tryz.ntmps222
  go_upto_region 11 with (at_builtin; first
    | (go_must (refine wpList_appMake rfl _ _ 56 3 71 4 72 T56 T3i ⟨g, 0, none⟩ i n (n + 1 - i) (n + 1) (cur.take (i * 4)) rfl rfl _ rfl (by omega) HO.out (fun j v hj => HB.out.cut 0 (i * 4) j v hj) (by omega) (by omega) (by unfold maxLen; omega) (by omega) (by omega) ?_))
      intro c zs hc1 hc2 hc3
      obtain ⟨W, hW⟩ : ∃ W, W = w.drew.alloc (.cells (cur.take (i * 4) ++ zs).toArray 71) := ⟨_, rfl⟩
      have BW : Fact (Blk W gn (cur.take (i * 4) ++ zs) 71) := ⟨by rw [hW, HGN.out]; exact Blk.new w.drew _ 71⟩
      have KW : Fact (Keep All w W) := ⟨hW ▸ (Keep.refl _ w).drew.alloc _⟩
      rw [← hW]
      have HC2 := Fact.mk hc2
      have HC3 := Fact.mk hc3
      have hce : (w.heap.size : Nat) = gn := HGN.out.symm
      rw [hce]
      have i8 : ((n + 1 : Nat) : Int) ≤ c := by omega
      have i9 : (c : Int) ≤ 9223372036854775807 := by unfold maxLen at hc2; omega
      have j1 : ¬ c = i := by omega
      have j2 : ¬ c = i + 1 := by omega
      clear hW hc2 hc3 hce hc1
      obtain ⟨C1, hC1⟩ : ∃ C, C = cur.take (i * 4) ++ zs := ⟨_, rfl⟩
      rw [← hC1] at BW HC3
      have hA1 : C1.take (i * 4) = cur.take (i * 4) := by rw [hC1]; exact List.take_left' HO.out
      have HA1 := Fact.mk hA1
      obtain ⟨C2, hC2⟩ : ∃ C, C = C1.take (i * 4) ++ kid ++ C1.drop (i * 4 + kid.length) := ⟨_, rfl⟩
      have hmin : Nat.min 1 (n + 1 - i) = 1 := Nat.min_eq_left (by omega)
      have hcp := run_copyR (P := Tryz.prog) 56 56 3 71 4 72 (i * 4) (n + 1 - i) (c - i) 1 1 ⟨xb, 0, none⟩ kid T56 BW.out (by rw [hmin, HK.out]) (fun j v hj => by rw [add_at, Nat.zero_add]; exact (HX.out.keep KW.out trivial).cell j v hj) H1.out (by rw [HK.out, HC3.out]; omega)
      rw [hmin, ← hC2] at hcp
      obtain ⟨W2, hW2⟩ : ∃ X, X = W.setRow gn C2.toArray := ⟨_, rfl⟩
      have BW2 : Fact (Blk W2 gn C2 71) := ⟨hW2 ▸ BW.out.setRow C2⟩
      have KW2 : Fact (Keep All w W2) := ⟨hW2 ▸ KW.out.setRow (.inl (by have := HGN.out; omega)) _⟩
      rw [← hW2] at hcp
      have HC2' := Fact.mk hC2
      clear hC1 hA1 hC2 hW2 hmin)
  have hwr : IntKind.i64.wrap ((i : Int) + 1) = (i : Int) + 1 := by rw [IntKind.wrap_i64]; omega
  have hdl : (cur.drop (i * 4)).length = (n - i) * 4 := by rw [List.length_drop, HL.out]; omega
  obtain ⟨C3, hC3⟩ : ∃ C, C = C2.take ((i + 1) * 4) ++ cur.drop (i * 4) ++ C2.drop ((i + 1) * 4 + (cur.drop (i * 4)).length) := ⟨_, rfl⟩
  obtain ⟨q1, q2, q3⟩ := ins_seg n i kid (cur.take (i * 4)) (cur.drop (i * 4)) C1 HO.out HK.out hdl hi (by rw [HC3.out]; omega) HA1.out C2 C3 HC2'.out hC3
  have hwr : IntKind.i64.wrap ((i : Int) + 1) = (i : Int) + 1 := by rw [IntKind.wrap_i64]; omega
  have hnews : ∀ j v, (cur.drop (i * 4))[j]? = some v → W2.drew.cell? ((⟨g, i * 4, none⟩ : Addr).add j) = some v := fun j v hj => by
    rw [add_at]
    rw [List.getElem?_drop] at hj
    exact (HB.out.keep KW2.out.drew trivial).cell _ _ hj
  obtain ⟨W3, hW3⟩ : ∃ X, X = W2.drew.setRow gn C3.toArray := ⟨_, rfl⟩
  have BW3 : Fact (Blk W3 gn C3 71) := ⟨hW3 ▸ BW2.out.drew.setRow C3⟩
  have KW3 : Fact (Keep All w W3) := ⟨hW3 ▸ KW2.out.drew.setRow (.inl (by have := HGN.out; omega)) _⟩
  have Q2 := Fact.mk q2
  have Q3 := Fact.mk q3
  have HN := Fact.mk hnews
  have HDL := Fact.mk hdl
  have Q1 := Fact.mk q1
  have HW3 := Fact.mk hW3
  have HC3' := Fact.mk hC3
  clear hC3 hW3 q1 q2 q3 hdl hcp hnews
  refine wp_region_T 8 (fun _ => True) (by kernel_rfl) trivial (fun hHeld => ?_)
  refine takeA (i := 0) (v := ?_) rfl (by kernel_rfl) (by kernel_rfl) (by kernel_rfl) (fun _ => trivial) (fun _ _ _ h => h) rfl ?_ ?_
  rotate_left
  · (intro w hSw; (try dsimp only at hSw); go_simp; try with_reducible rfl)
  try simp only [Act.put, List.setIfInBounds_toArray, List.set_cons_zero, List.set_cons_succ]
  refine takeA (i := 1) (v := ?_) rfl (by kernel_rfl) (by kernel_rfl) (by kernel_rfl) (fun _ => trivial) (fun _ _ _ h => h) rfl ?_ ?_
  rotate_left
  · (intro w hSw; (try dsimp only at hSw); go_simp; try with_reducible rfl)
  try simp only [Act.put, List.setIfInBounds_toArray, List.set_cons_zero, List.set_cons_succ]
  refine takeA (i := 2) (v := ?_) rfl (by kernel_rfl) (by kernel_rfl) (by kernel_rfl) (fun _ => trivial) (fun _ _ _ h => h) rfl ?_ ?_
  rotate_left
  · (intro w hSw; (try dsimp only at hSw); go_simp; try with_reducible rfl)
  try simp only [Act.put, List.setIfInBounds_toArray, List.set_cons_zero, List.set_cons_succ]
  refine takeA (i := 3) (v := ?_) rfl (by kernel_rfl) (by kernel_rfl) (by kernel_rfl) (fun _ => trivial) (fun _ _ _ h => h) rfl ?_ ?_
  rotate_left
  · (intro w hSw; (try dsimp only at hSw); go_simp; try with_reducible rfl)
  try simp only [Act.put, List.setIfInBounds_toArray, List.set_cons_zero, List.set_cons_succ]
  refine takeA (i := 4) (v := ?_) rfl (by kernel_rfl) (by kernel_rfl) (by kernel_rfl) (fun _ => trivial) (fun _ _ _ h => h) rfl ?_ ?_
  rotate_left
  · (intro w hSw; (try dsimp only at hSw); go_simp; try with_reducible rfl)
  try simp only [Act.put, List.setIfInBounds_toArray, List.set_cons_zero, List.set_cons_succ]
  refine takeA (i := 5) (v := ?_) rfl (by kernel_rfl) (by kernel_rfl) (by kernel_rfl) (fun _ => trivial) (fun _ _ _ h => h) rfl ?_ ?_
  rotate_left
  · (intro w hSw; (try dsimp only at hSw); go_simp; try with_reducible rfl)
  try simp only [Act.put, List.setIfInBounds_toArray, List.set_cons_zero, List.set_cons_succ]
  refine takeA (i := 6) (v := ?_) rfl (by kernel_rfl) (by kernel_rfl) (by kernel_rfl) (fun _ => trivial) (fun _ _ _ h => h) rfl ?_ ?_
  rotate_left
  · (intro w hSw; (try dsimp only at hSw); go_simp; try with_reducible rfl)
  try simp only [Act.put, List.setIfInBounds_toArray, List.set_cons_zero, List.set_cons_succ]
  refine takeA (i := 7) (v := ?_) rfl (by kernel_rfl) (by kernel_rfl) (by kernel_rfl) (fun _ => trivial) (fun _ _ _ h => h) rfl ?_ ?_
  rotate_left
  · (intro w hSw; (try dsimp only at hSw); go_simp; try with_reducible rfl)
  try simp only [Act.put, List.setIfInBounds_toArray, List.set_cons_zero, List.set_cons_succ]
  refine lastT (by kernel_rfl) (by kernel_rfl) rfl (fun K hK => ?_)
  rw [if_pos (show Region.wanted _ _ = true by simp [Region.wanted])]
  refine wp_copyR (.tmp 50) (.tmp 53) 56 56 71 4 72 ((i + 1) * 4) (n - i) (c - (i + 1)) (n - i) (n - i) ⟨g, i * 4, none⟩ (cur.drop (i * 4)) T56 rfl rfl rfl BW2.out.drew (by rw [HDL.out, show Nat.min (n - i) (n - i) = n - i from Nat.min_self _]) HN.out (fun u hu => H2.out u (List.mem_of_mem_drop hu)) (by rw [HDL.out, Q1.out, HC3.out]; omega) ?_
  rw [← HC3'.out, ← HW3.out]
  refine hK.out _ _ ?_
  clear hK K
  try simp only [Act.put, List.setIfInBounds_toArray, List.set_cons_zero, List.set_cons_succ]
  go_wp2
  go_ret
  refine ⟨_, rfl, ?_, KW3.out.all, .inr ⟨gn, rfl, by have := HGN.out; omega⟩⟩
  rw [← Q3.out]
  exact blk_owns BW3.out (by have := HGN.out; omega) (by omega) HC2.out (by rw [Q2.out, HC3.out])
theorem z71 : ∀ w, (Go.sizeOf 71).run Tryz.prog w = .ok 4 w := fun w => by kernel_rfl
theorem blk_shape {w : World} {g : Nat} {cs : List Value} {T : TypeId} (h : Blk w g cs T) : w.shape? g = some (T, cs.length) := by
  unfold Blk at h
  simp [World.shape?, h]
theorem insC (h : w.ownsRow base 71 4 (.slice (some ⟨g, 0, none⟩) n cap) n xs) (hn : n ≤ 1000) (hi : i < n) (hnc : n < cap) (hx : Blk w xb kid 71) (hne : xb ≠ g) (hk : kid.length = 4) (h1 : ∀ u ∈ kid, u.oneCell' = true) (h1x : ∀ u ∈ xs, u.oneCell' = true) :
    Calls Tryz.prog 222 #[.slice (some ⟨g, 0, none⟩) n cap, .int .i64 i, .slice (some ⟨xb, 0, none⟩) 1 1] w (Inserted w base n i (.slice (some ⟨g, 0, none⟩) n cap) xs kid) := by
  obtain ⟨C1, hbg, hblk, hc1, hc2, hcl, htk⟩ := own_some h
  have hov : ∀ o lb cb, (callFunc 239 #[.slice (some ⟨xb, 0, none⟩) 1 1, .slice (some ⟨g, o, none⟩) lb cb]).run Tryz.prog w = .ok (.value (.bool false)) w := fun o lb cb => by
    rw [run_callFunc_extern Tryz.func239 (by kernel_rfl) (by kernel_rfl) (by kernel_rfl) (e := Extern.SlicesOverlaps.overlaps #[56, 56] #[4]) (by kernel_rfl),
      Lib.run_overlaps_apart w 56 4 71 Tryz.underlying56 4 z71 ⟨xb, 0, none⟩ ⟨g, o, none⟩ 1 1 lb cb hne 71 71 kid.length C1.length (blk_shape hx) (blk_shape hblk) (by omega) (hx.free _) (hx.free _)]
    rfl
  have HB := Fact.mk hblk
  have HX := Fact.mk hx
  have HL := Fact.mk hcl
  have HK := Fact.mk hk
  have H1 := Fact.mk h1
  have HC2 := Fact.mk hc2
  have HT := Fact.mk htk
  have hA : C1.take (i * 4) = xs.take (i * 4) := by rw [← htk, List.take_take, Nat.min_eq_left (by omega)]
  have hD : (C1.drop (i * 4)).take ((n - i) * 4) = xs.drop (i * 4) := by rw [← htk, List.drop_take, show n * 4 - i * 4 = (n - i) * 4 by omega]
  have H2 : Fact (∀ u ∈ xs.drop (i * 4), u.oneCell' = true) := ⟨fun u hu => h1x u (List.mem_of_mem_drop hu)⟩
  have hxl : xs.length = n * 4 := by rw [← htk, List.length_take, hcl]; omega
  have hol : (xs.take (i * 4)).length = i * 4 := by rw [List.length_take, hxl]; omega
  have hdl : (xs.drop (i * 4)).length = (n - i) * 4 := by rw [List.length_drop, hxl]; omega
  have HA := Fact.mk hA
  have HD := Fact.mk hD
  have HO := Fact.mk hol
  have HDL := Fact.mk hdl
  have hc9 : (cap : Int) ≤ 9223372036854775807 := by unfold maxLen at hc2; omega
  have i0 : (0 : Int) ≤ i := by omega
  have i1 : (i : Int) ≤ n := by omega
  have i2 : ¬ (i : Int) = n := by omega
  have i3 : ¬ n = i := by omega
  have i4 : ¬ cap = i := by omega
  have i5 : (0 : Int) ≤ (i : Int) + 1 := by omega
  have i6 : (i : Int) ≤ (n : Int) + 1 := by omega
  have i7 : (i : Int) + 1 ≤ (n : Int) + 1 := by omega
  have i8 : (n : Int) + 1 ≤ cap := by omega
  have i9 : ¬ cap = i + 1 := by omega
  have j0 : (0 : Int) ≤ (n : Int) + 1 := by omega
  have j1 : (n : Int) ≤ cap := by omega
  have j2 : ¬ (cap : Int) < (n : Int) + 1 := by omega
  have hgl := hblk.lt
  have hxgl := hx.lt
  clear h hblk hx hcl hk h1 h1x htk hc1 hc2 hA hD hxl hol hdl
  go_enter Tryz.func222, Tryz.ntmps222
  go_upto_region 15 with (simp only [hov])
  clear hov
  have hwr : IntKind.i64.wrap ((i : Int) + 1) = (i : Int) + 1 := by rw [IntKind.wrap_i64]; omega
  obtain ⟨C2, hC2⟩ : ∃ C, C = C1.take ((i + 1) * 4) ++ xs.drop (i * 4) ++ C1.drop ((i + 1) * 4 + (xs.drop (i * 4)).length) := ⟨_, rfl⟩
  obtain ⟨C3, hC3⟩ : ∃ C, C = C2.take (i * 4) ++ kid ++ C2.drop (i * 4 + kid.length) := ⟨_, rfl⟩
  obtain ⟨q1, q2, q3⟩ := ins_seg2 n i kid (xs.take (i * 4)) (xs.drop (i * 4)) C1 HO.out HK.out HDL.out hi (by rw [HL.out]; omega) HA.out C2 C3 hC2 hC3
  obtain ⟨W2, hW2⟩ : ∃ X, X = w.drew.setRow g C2.toArray := ⟨_, rfl⟩
  have BW2 : Fact (Blk W2 g C2 71) := ⟨hW2 ▸ HB.out.drew.setRow C2⟩
  have KW2 : Fact (Keep (fun j => j ≠ g) w W2) := ⟨hW2 ▸ (Keep.refl _ w).drew.setRow (.inr fun h => h rfl) _⟩
  have hmin : Nat.min 1 (n + 1 - i) = 1 := Nat.min_eq_left (by omega)
  have hcp := run_copyR (P := Tryz.prog) 56 56 3 71 4 72 (i * 4) (n + 1 - i) (cap - i) 1 1 ⟨xb, 0, none⟩ kid T56 BW2.out (by rw [hmin, HK.out]) (fun j v hj => by rw [add_at, Nat.zero_add]; exact (HX.out.keep KW2.out hne).cell j v hj) H1.out (by rw [HK.out, q1, HL.out]; omega)
  rw [hmin, ← hC3] at hcp
  obtain ⟨W3, hW3⟩ : ∃ X, X = W2.setRow g C3.toArray := ⟨_, rfl⟩
  have BW3 : Fact (Blk W3 g C3 71) := ⟨hW3 ▸ BW2.out.setRow C3⟩
  have KW3 : Fact (Keep (fun j => j ≠ g) w W3) := ⟨hW3 ▸ KW2.out.setRow (.inr fun h => h rfl) _⟩
  have Q2 := Fact.mk q2
  have Q3 := Fact.mk q3
  rw [← hW3] at hcp
  have HW2 := Fact.mk hW2
  have HC2' := Fact.mk hC2
  clear hC2 hC3 hW2 hW3 q1 q2 q3 hmin
  refine wp_region_T 8 (fun _ => True) (by kernel_rfl) trivial (fun hHeld => ?_)
  refine takeA (i := 0) (v := ?_) rfl (by kernel_rfl) (by kernel_rfl) (by kernel_rfl) (fun _ => trivial) (fun _ _ _ h => h) rfl ?_ ?_
  rotate_left
  · (intro w hSw; (try dsimp only at hSw); go_simp; try with_reducible rfl)
  try simp only [Act.put, List.setIfInBounds_toArray, List.set_cons_zero, List.set_cons_succ]
  refine takeA (i := 1) (v := ?_) rfl (by kernel_rfl) (by kernel_rfl) (by kernel_rfl) (fun _ => trivial) (fun _ _ _ h => h) rfl ?_ ?_
  rotate_left
  · (intro w hSw; (try dsimp only at hSw); go_simp; try with_reducible rfl)
  try simp only [Act.put, List.setIfInBounds_toArray, List.set_cons_zero, List.set_cons_succ]
  refine takeA (i := 2) (v := ?_) rfl (by kernel_rfl) (by kernel_rfl) (by kernel_rfl) (fun _ => trivial) (fun _ _ _ h => h) rfl ?_ ?_
  rotate_left
  · (intro w hSw; (try dsimp only at hSw); go_simp; try with_reducible rfl)
  try simp only [Act.put, List.setIfInBounds_toArray, List.set_cons_zero, List.set_cons_succ]
  refine takeA (i := 3) (v := ?_) rfl (by kernel_rfl) (by kernel_rfl) (by kernel_rfl) (fun _ => trivial) (fun _ _ _ h => h) rfl ?_ ?_
  rotate_left
  · (intro w hSw; (try dsimp only at hSw); go_simp; try with_reducible rfl)
  try simp only [Act.put, List.setIfInBounds_toArray, List.set_cons_zero, List.set_cons_succ]
  refine takeA (i := 4) (v := ?_) rfl (by kernel_rfl) (by kernel_rfl) (by kernel_rfl) (fun _ => trivial) (fun _ _ _ h => h) rfl ?_ ?_
  rotate_left
  · (intro w hSw; (try dsimp only at hSw); go_simp; try with_reducible rfl)
  try simp only [Act.put, List.setIfInBounds_toArray, List.set_cons_zero, List.set_cons_succ]
  refine takeA (i := 5) (v := ?_) rfl (by kernel_rfl) (by kernel_rfl) (by kernel_rfl) (fun _ => trivial) (fun _ _ _ h => h) rfl ?_ ?_
  rotate_left
  · (intro w hSw; (try dsimp only at hSw); go_simp; try with_reducible rfl)
  try simp only [Act.put, List.setIfInBounds_toArray, List.set_cons_zero, List.set_cons_succ]
  refine takeA (i := 6) (v := ?_) rfl (by kernel_rfl) (by kernel_rfl) (by kernel_rfl) (fun _ => trivial) (fun _ _ _ h => h) rfl ?_ ?_
  rotate_left
  · (intro w hSw; (try dsimp only at hSw); go_simp; try with_reducible rfl)
  try simp only [Act.put, List.setIfInBounds_toArray, List.set_cons_zero, List.set_cons_succ]
  refine takeA (i := 7) (v := ?_) rfl (by kernel_rfl) (by kernel_rfl) (by kernel_rfl) (fun _ => trivial) (fun _ _ _ h => h) rfl ?_ ?_
  rotate_left
  · (intro w hSw; (try dsimp only at hSw); go_simp; try with_reducible rfl)
  try simp only [Act.put, List.setIfInBounds_toArray, List.set_cons_zero, List.set_cons_succ]
  refine lastT (by kernel_rfl) (by kernel_rfl) rfl (fun K hK => ?_)
  rw [if_pos (show Region.wanted _ _ = true by simp [Region.wanted])]
  refine wp_copyR (.tmp 73) (.tmp 76) 56 56 71 4 72 ((i + 1) * 4) (n - i) (cap - (i + 1)) (n + 1 - i) (cap - i) ⟨g, i * 4, none⟩ (xs.drop (i * 4)) T56 rfl rfl rfl HB.out.drew (by rw [HDL.out, show Nat.min (n + 1 - i) (n - i) = n - i from Nat.min_eq_right (by omega)]) (fun j v hj => HB.out.drew.cut (i * 4) ((n - i) * 4) j v (by rw [HD.out]; exact hj)) H2.out (by rw [HDL.out, HL.out]; omega) ?_
  rw [← HC2'.out, ← HW2.out]
  refine hK.out _ _ ?_
  clear hK K
  try simp only [Act.put, List.setIfInBounds_toArray, List.set_cons_zero, List.set_cons_succ]
  go_wp2
  go_ret
  refine ⟨_, rfl, ?_, KW3.out.mono fun j hj e => hj (by rw [e]; rfl), .inl rfl⟩
  rw [← Q3.out]
  exact blk_owns BW3.out hbg (by omega) HC2.out (by rw [Q2.out, HL.out])
/-- slices.Insert of one kid at i. -/
theorem ins222g (v : Value) (h : w.ownsRow base 71 4 v n xs) (hb : base ≤ w.heap.size) (hn : n ≤ 1000) (hi : i ≤ n) (hx : Blk w xb kid 71) (hne : v.ownBlock ≠ some xb) (hk : kid.length = 4) (h1 : ∀ u ∈ kid, u.oneCell' = true) (h1x : ∀ u ∈ xs, u.oneCell' = true) :
    Calls Tryz.prog 222 #[v, .int .i64 i, .slice (some ⟨xb, 0, none⟩) 1 1] w (Inserted w base n i v xs kid) := by
  rcases h.2 with ⟨rfl, rfl⟩ | ⟨g, cap, cur, rfl, hg, hh, hc1, hc2, hc3, hc4⟩
  · obtain rfl : i = 0 := by omega
    obtain rfl : xs = [] := List.eq_nil_of_length_eq_zero (h.1)
    exact insNil w base xb kid hb hx hk h1
  · by_cases hin : i = n
    · subst hin
      exact insA w base g i cap xb xs kid h hb hn hx hk h1
    · by_cases hcap : cap = n
      · subst hcap
        exact insB w base g cap xb i xs kid h hb hn (by omega) hx hk h1 h1x
      · exact insC w base g n cap xb i xs kid h hn (by omega) (by omega) hx (fun e => hne (by rw [e]; rfl)) hk h1 h1x
end
end Go.Proofs.YtddmbdigdnmfgaaGreatDoor

/- tree.put, plain; and trees in memory of their own of which one kid is changed. -/
namespace Go.Proofs.YtddmbdigdnmfgaaGreatDoor
open Go.RowKit
set_option maxHeartbeats 1000000
set_option maxRecDepth 100000

/-- Number i's tree is another one. -/
def setK (l : PKids) (i : Nat) (y : PNode) : PKids := l.set i (nameAt l i, y)
def insK (l : PKids) (i : Nat) (s : ByteArray) (y : PNode) : PKids := l.take i ++ (s, y) :: l.drop i
def kidAt (l : PKids) (i : Nat) : PNode := ((l[i]?).map Prod.snd).getD (.mk 0 [] [])
def lessK (l : PKids) (i : Nat) : PKids := l.take i ++ l.drop (i + 1)
/-- A tree put at a way: an error, or none and the tree. -/
def putP : List ByteArray → PNode → PNode → Int × PNode
  | [], _, x => (0, x)
  | s :: r, n, x => if n.kind ≠ 4 then (6, n) else
    let i := findI n.kids s
    let l := if findB n.kids s = true then n.kids else insK n.kids i s (.mk 4 [] [])
    ((putP r (kidAt l i) x).1, .mk 4 n.bytes (setK l i (putP r (kidAt l i) x).2))
theorem kidAt_eq {l : PKids} {i : Nat} (h : i < l.length) : kidAt l i = l[i].2 := by simp [kidAt, List.getElem?_eq_getElem h]
theorem nameAt_eq {l : PKids} {i : Nat} (h : i < l.length) : nameAt l i = l[i].1 := by simp [nameAt, List.getElem?_eq_getElem h]
theorem insK_len (l : PKids) (i : Nat) (s : ByteArray) (y : PNode) (h : i ≤ l.length) : (insK l i s y).length = l.length + 1 := by
  simp only [insK, List.length_append, List.length_take, List.length_cons, List.length_drop]
  omega
theorem set_same {α : Type} {l : List α} {i : Nat} {v : α} (h : l[i]? = some v) : l.set i v = l := by
  apply List.ext_getElem?
  intro j
  rw [List.getElem?_set]
  split
  · rename_i e
    subst e
    obtain ⟨hl, -⟩ := List.getElem?_eq_some_iff.1 h
    rw [if_pos hl, h]
  · rfl
section
variable {w w' : World} {base : Nat}
mutual
/-- Only blocks that there are. -/
theorem OwnN.alive : ∀ {x : PNode} {F : Nat → Prop} {vb vk : Value}, OwnN w base F x vb vk → OwnN w base (fun i => F i ∧ i < w.heap.size) x vb vk
  | .mk _ b l, F, vb, vk, h => by
    rw [OwnN] at *
    obtain ⟨Fb, Fk, h1, cs, h2, h3, h4, h5, h6⟩ := h
    refine ⟨fun i => Fb i ∧ i < w.heap.size, fun i => Fk i ∧ i < w.heap.size, h1.mono fun i hi h => ⟨h, hi⟩, cs, h2, OwnK.alive h3, fun i hi => ⟨⟨(h4 i hi.1).1, hi.2⟩, fun h => (h4 i hi.1).2.1 h.1, (h4 i hi.1).2.2⟩, fun i hi => ⟨⟨(h5 i hi.1).1, hi.2⟩, (h5 i hi.1).2⟩, fun g hg => ⟨h6 g hg, (h2.lt g hg).2⟩⟩
theorem OwnK.alive : ∀ {l : List (ByteArray × PNode)} {F : Nat → Prop} {cs : List Value}, OwnK w base F l cs → OwnK w base (fun i => F i ∧ i < w.heap.size) l cs
  | [], F, cs, h => by rw [OwnK] at *; exact h
  | (s, x) :: r, F, cs, h => by
    rw [OwnK] at *
    obtain ⟨vb, vk, d, F1, F2, h1, h2, h3, h4, h5⟩ := h
    exact ⟨vb, vk, d, fun i => F1 i ∧ i < w.heap.size, fun i => F2 i ∧ i < w.heap.size, h1, OwnN.alive h2, OwnK.alive h3, fun i hi => ⟨⟨(h4 i hi.1).1, hi.2⟩, fun h => (h4 i hi.1).2 h.1⟩, fun i hi => ⟨h5 i hi.1, hi.2⟩⟩
end
theorem OwnN.nil (w : World) (base : Nat) (k : Int) : OwnN w base (fun _ => False) (.mk k [] []) (.slice none 0 0) (.slice none 0 0) := by
  rw [OwnN]
  exact ⟨fun _ => False, fun _ => False, By.nil _ _, [], World.ownsRow_nil _ _ _ _, by rw [OwnK], fun _ h => h.elim, fun _ h => h.elim, fun g hg => by cases hg⟩
theorem OwnK.len {F : Nat → Prop} {l : PKids} {cs : List Value} (h : OwnK w base F l cs) : cs.length = l.length * 4 := (OwnK.rep h).1.len
/-- One kid more, at i. -/
theorem OwnK.ins {s : ByteArray} {y : PNode} {vb vk : Value} (hy : OwnN w base (fun _ => False) y vb vk) : ∀ {l : PKids} {F : Nat → Prop} {cs : List Value}, OwnK w base F l cs → ∀ i, i ≤ l.length →
    OwnK w base F (insK l i s y) (cs.take (i * 4) ++ ([.string s, .int .i64 y.kind, vb, vk] ++ cs.drop (i * 4)))
  | l, F, cs, h, 0, _ => by
    simp only [insK, Nat.zero_mul, List.take_zero, List.drop_zero, List.nil_append]
    rw [OwnK]
    exact ⟨vb, vk, cs, fun _ => False, F, rfl, hy, h, fun _ h => h.elim, fun _ h => h⟩
  | [], F, cs, h, i + 1, hi => absurd hi (by simp)
  | (s', x') :: r, F, cs, h, i + 1, hi => by
    rw [OwnK] at h
    obtain ⟨vb', vk', d, F1, F2, rfl, h2, h3, h4, h5⟩ := h
    have ih := OwnK.ins (s := s) hy h3 i (by simpa using hi)
    rw [insK, List.take_succ_cons, List.drop_succ_cons, List.cons_append, OwnK]
    refine ⟨vb', vk', _, F1, F2, ?_, h2, ih, h4, h5⟩
    rw [show (i + 1) * 4 = i * 4 + 1 + 1 + 1 + 1 by omega]
    simp only [List.take_succ_cons, List.drop_succ_cons, List.cons_append]
/-- A kid, and all that stays when it is changed. -/
theorem OwnK.hole : ∀ {l : PKids} {F : Nat → Prop} {cs : List Value}, OwnK w base F l cs → ∀ i, i < l.length →
    ∃ (Fi : Nat → Prop) (vb vk : Value), cs[i * 4 + 1]? = some (.int .i64 (kidAt l i).kind) ∧ cs[i * 4 + 2]? = some vb ∧ cs[i * 4 + 3]? = some vk ∧ OwnN w base Fi (kidAt l i) vb vk ∧ (∀ j, Fi j → F j) ∧
      ∀ (w' : World) (K F' : Nat → Prop) (y : PNode) (vb' vk' : Value), Keep K w w' → (∀ j, F j → ¬ Fi j → K j ∧ F' j) → RepN w' F' y vb' vk' →
        RepK w' F' (setK l i y) (((cs.set (i * 4 + 1) (.int .i64 y.kind)).set (i * 4 + 2) vb').set (i * 4 + 3) vk')
  | [], F, cs, h, i, hi => absurd hi (by simp)
  | (s, x) :: r, F, cs, h, 0, _ => by
    rw [OwnK] at h
    obtain ⟨vb, vk, d, F1, F2, rfl, h2, h3, h4, h5⟩ := h
    refine ⟨F1, vb, vk, rfl, rfl, rfl, h2, fun j hj => (h4 j hj).1, fun w' K F' y vb' vk' hk hF hy => ?_⟩
    show RepK w' F' ((s, y) :: r) (.string s :: .int .i64 y.kind :: vb' :: vk' :: d)
    rw [RepK]
    refine ⟨vb', vk', d, rfl, hy, ?_⟩
    have h6 := OwnK.rep h3
    exact (h6.1.keep (hk.mono fun j hj => (hF j (h5 j hj) (fun h => (h4 j h).2 hj)).1)).mono fun j _ hj => (hF j (h5 j hj) (fun h => (h4 j h).2 hj)).2
  | (s, x) :: r, F, cs, h, i + 1, hi => by
    rw [OwnK] at h
    obtain ⟨vb, vk, d, F1, F2, rfl, h2, h3, h4, h5⟩ := h
    obtain ⟨Fi, vb1, vk1, e1, e2, e3, g1, g2, g3⟩ := OwnK.hole h3 i (by simpa using hi)
    have e4 : (i + 1) * 4 = i * 4 + 1 + 1 + 1 + 1 := by omega
    refine ⟨Fi, vb1, vk1, ?_, ?_, ?_, g1, fun j hj => h5 j (g2 j hj), fun w' K F' y vb' vk' hk hF hy => ?_⟩
    · rw [show (i + 1) * 4 + 1 = i * 4 + 1 + 4 by omega]; exact e1
    · rw [show (i + 1) * 4 + 2 = i * 4 + 2 + 4 by omega]; exact e2
    · rw [show (i + 1) * 4 + 3 = i * 4 + 3 + 4 by omega]; exact e3
    · have hF1 : ∀ j, F1 j → K j ∧ F' j := fun j hj => hF j (h4 j hj).1 fun h => (h4 j hj).2 (g2 j h)
      have ih := g3 w' K F' y vb' vk' hk (fun j hj hn => hF j (h5 j hj) hn) hy
      rw [show (i + 1) * 4 + 1 = i * 4 + 1 + 1 + 1 + 1 + 1 by omega, show (i + 1) * 4 + 2 = i * 4 + 2 + 1 + 1 + 1 + 1 by omega, show (i + 1) * 4 + 3 = i * 4 + 3 + 1 + 1 + 1 + 1 by omega]
      simp only [List.set_cons_succ]
      show RepK w' F' ((s, x) :: setK r i y) _
      rw [RepK]
      refine ⟨vb, vk, _, rfl, ?_, ih⟩
      exact ((OwnN.rep h2).1.keep (hk.mono fun j hj => (hF1 j hj).1)).mono fun j _ hj => (hF1 j hj).2
theorem RepK.one {G : Nat → Prop} : ∀ {l : PKids} {cs : List Value}, RepK w G l cs → ∀ u ∈ cs, u.oneCell' = true
  | [], cs, h, u, hu => by rw [RepK] at h; subst h; cases hu
  | (s, x) :: r, cs, h, u, hu => by
    rw [RepK] at h
    obtain ⟨vb, vk, d, rfl, h2, h3⟩ := h
    obtain ⟨A, c, B, d', rfl, rfl⟩ := h2.forms
    simp only [List.mem_cons] at hu
    rcases hu with rfl | rfl | rfl | rfl | hu
    · rfl
    · rfl
    · rfl
    · rfl
    · exact RepK.one h3 u hu
theorem Blk.slN {g m c : Nat} {cs : List Value} {T : TypeId} {G : Nat → Prop} (h : Blk w g cs T) (hG : G g) (hm : m * 4 ≤ cs.length) (hmc : m ≤ c) (hc : c ≤ maxLen) (h1 : ∀ u ∈ cs.take (m * 4), u.oneCell' = true) : Sl w G 4 (.slice (some ⟨g, 0, none⟩) m c) m (cs.take (m * 4)) :=
  ⟨h1, _, c, rfl, by rw [List.length_take]; omega, hmc, hc, (fun e => by cases e), fun _ => ⟨g, 0, rfl, hG, fun j hj => by
    rw [List.length_take] at hj
    have := h.at j (by omega)
    rw [this]
    simp [List.getD_eq_getElem?_getD, show j < m * 4 by omega]⟩⟩
end
end Go.Proofs.YtddmbdigdnmfgaaGreatDoor

/- tree.put at any tree, any way. -/
namespace Go.Proofs.YtddmbdigdnmfgaaGreatDoor
open Go.RowKit
set_option maxHeartbeats 1000000
set_option maxRecDepth 100000

theorem kidAt_ins (l : PKids) (i : Nat) (s : ByteArray) (y : PNode) (h : i ≤ l.length) : kidAt (insK l i s y) i = y := by
  unfold kidAt insK
  rw [List.getElem?_append_right (by rw [List.length_take]; omega), List.length_take, Nat.min_eq_left h, Nat.sub_self]
  rfl
def PutOut (w : World) (F Gx : Nat → Prop) (pb po : Nat) (cs : List Value) (T : TypeId) (r : Int × PNode) (e : Ending) (w' : World) : Prop :=
  e = .returned (.int .i64 r.1) ∧ Keep (fun j => ¬ F j ∧ j ≠ pb) w w' ∧ (r.1 = 0 → ∃ vb vk, Blk w' pb (((cs.set po (.int .i64 r.2.kind)).set (po + 1) vb).set (po + 2) vk) T ∧ RepN w' (fun j => F j ∨ Gx j ∨ w.heap.size ≤ j) r.2 vb vk)
def PutAt (l : List ByteArray) : Prop := ∀ (w : World) (base : Nat) (F Gx Gw : Nat → Prop) (pb po : Nat) (cs : List Value) (T : TypeId) (n x : PNode) (vb vk xv : Value) (A : Option Addr) (c : Nat),
  Blk w pb cs T → cs[po]? = some (.int .i64 n.kind) → cs[po + 1]? = some vb → cs[po + 2]? = some vk → OwnN w base F n vb vk → SmallN n → ¬ F pb → base ≤ w.heap.size → (∀ j, F j → j < w.heap.size) →
  NodeV w Gx x xv → (∀ j, Gx j → ¬ F j ∧ j ≠ pb) → Sl w Gw 1 (.slice A l.length c) l.length (l.map Value.string) → (∀ j, Gw j → ¬ F j ∧ j ≠ pb) →
  Calls Tryz.prog 200 #[.pointer (some ⟨pb, po, none⟩), .slice A l.length c, xv] w (PutOut w F Gx pb po cs T (putP l n x))
theorem put200_none : PutAt [] := by
  intro w base F Gx Gw pb po cs T n x vb vk xv A c hB h0 h1 h2 hO hS hFp hb hFl hX hGx hW hGw
  obtain ⟨A1, c1, B1, d1, rfl, hrep⟩ := hX
  have HB := Fact.mk hB
  have HR := Fact.mk hrep
  have HGX := Fact.mk hGx
  have p0 := hB.cell po _ h0
  have p1 := hB.cell (po + 1) _ h1
  have p2 := hB.cell (po + 2) _ h2
  have f0 := hB.free po
  have f1 := hB.free (po + 1)
  have f2 := hB.free (po + 2)
  have hlt := hB.lt
  clear hB h0 h1 h2 hO hS hFp hb hFl hrep hGx hW hGw
  simp only [List.length_nil]
  go_enter Tryz.func200, Tryz.ntmps200
  go_wp2
  go_ret
  have hk : Keep (fun j => j ≠ pb) w ((((w.setCell ⟨pb, po, none⟩ (.int .i64 x.kind)).setCell ⟨pb, po + 1, none⟩ (.slice A1 x.bytes.length c1)).setCell ⟨pb, po + 2, none⟩ (.slice B1 x.kids.length d1)).alloc (.cells #[.int .i64 x.kind, .slice A1 x.bytes.length c1, .slice B1 x.kids.length d1] 58)) :=
    ((((Keep.refl _ w).setCell (p := ⟨pb, po, none⟩) (.inr fun h => h rfl) _).setCell (p := ⟨pb, po + 1, none⟩) (.inr fun h => h rfl) _).setCell (p := ⟨pb, po + 2, none⟩) (.inr fun h => h rfl) _).alloc _
  exact ⟨rfl, hk.mono fun j hj => hj.2, fun _ => ⟨_, _, (((HB.out.set po _).set (po + 1) _).set (po + 2) _).alloc _, (HR.out.keep (hk.mono fun j hj => (HGX.out j hj).2)).mono fun j _ hj => .inr (.inl hj)⟩⟩
theorem put200g : ∀ l, PutAt l := by
  intro l
  induction l with
  | nil => exact put200_none
  | cons s r ih =>
    have IH := Fact.mk ih
    clear ih
    intro w base F Gx Gw pb po cs T n x vb vk xv A c hB h0 h1 h2 hO hS hFp hb hFl hX hGx hW hGw
    obtain ⟨kd, b, l⟩ := n
    simp only [PNode.kind] at h0
    obtain ⟨A1, c1, B1, d1, rfl, hrep⟩ := hX
    obtain ⟨wb, wo, rfl, hgw, hs0⟩ := hW.strAt 0 (by simp)
    have hll : (l.length : Int) ≤ 1000 := by rw [SmallN] at hS; omega
    have hcw : c ≤ 9223372036854775807 ∧ (s :: r).length ≤ c := by
      obtain ⟨-, A', c', e, -, hn, hc, -⟩ := hW
      simp only [Value.slice.injEq] at e
      obtain ⟨-, -, rfl⟩ := e
      unfold maxLen at hc
      omega
    simp only [List.length_cons, List.getElem_cons_zero, Nat.add_zero] at hs0 hcw hW
    obtain ⟨hc9, hrc⟩ := hcw
    obtain ⟨m, hm⟩ : ∃ m, m = r.length + 1 := ⟨_, rfl⟩
    rw [← hm] at hrc hW
    have hr9 : (m : Int) ≤ 9223372036854775807 := by omega
    have hr0 : ¬ (m : Int) = 0 := by omega
    have hr1 : (1 : Int) ≤ m := by omega
    have hr2 : 0 < m := by omega
    have HM := Fact.mk hm
    obtain ⟨A2, c2, B2, d2, e2, e3⟩ := (OwnN.rep hO).1.forms
    simp only [PNode.bytes, PNode.kids] at e2 e3
    subst e2 e3
    have HB := Fact.mk hB
    have HC0 := Fact.mk h0
    have HC1 := Fact.mk h1
    have HC2 := Fact.mk h2
    have HX := Fact.mk hrep
    have HGX := Fact.mk hGx
    have HW := Fact.mk hW
    have HGW := Fact.mk hGw
    have HO := Fact.mk hO
    have HS := Fact.mk hS
    have HFL := Fact.mk hFl
    have p0 := hB.cell po _ h0
    have p1 := hB.cell (po + 1) _ h1
    have p2 := hB.cell (po + 2) _ h2
    have hlt := hB.lt
    have hwl := World.block_lt_of_cell? w _ hs0
    simp only at hwl
    have hwne := (hGw wb hgw).2
    have hwF := Fact.mk (hGw wb hgw).1
    have HFP := Fact.mk hFp
    clear hB h0 h1 h2 hO hS hFp hFl hrep hGx hW hGw
    simp only [List.length_cons, ← hm]
    clear hm
    by_cases hkd : kd = 4
    · subst hkd
      obtain ⟨ki, hki⟩ : ∃ k, k = findI l s := ⟨_, rfl⟩
      obtain ⟨kb, hkb⟩ : ∃ k, k = findB l s := ⟨_, rfl⟩
      have hkil : ki ≤ l.length := hki ▸ findI_le l s
      have HKB := Fact.mk hkb
      have HPUT : Fact (putP (s :: r) (.mk 4 b l) x = ((putP r (kidAt (if kb = true then l else insK l ki s (.mk 4 [] [])) ki) x).1, .mk 4 b (setK (if kb = true then l else insK l ki s (.mk 4 [] [])) ki (putP r (kidAt (if kb = true then l else insK l ki s (.mk 4 [] [])) ki) x).2))) := ⟨by
        rw [hki, hkb, putP, if_neg (by simp [PNode.kind])]
        rfl⟩
      have HC := Fact.mk (fun (w1 : World) (hk : Keep All w w1) => by
        have := find201g w1 F (.mk 4 b l) (.agg #[.int .i64 4, .slice A2 b.length c2, .slice B2 l.length d2]) s ⟨A2, c2, B2, d2, rfl, (OwnN.rep HO.out).1.keep hk.all⟩ (by show l.length ≤ 1000; omega)
        simp only [PNode.kids, ← hki, ← hkb] at this
        exact this)
      have HKI := Fact.mk hki
      have HPL : Fact (po + 2 < cs.length) := ⟨(List.getElem?_eq_some_iff.1 HC2.out).1⟩
      have HXL : Fact (∀ j, j < w.heap.size → Gx j → j < w.heap.size) := ⟨fun j h _ => h⟩
      clear hki hkb
      go_enter Tryz.func200, Tryz.ntmps200
      go_upto_region 6 with (fail)
      obtain ⟨W0, hW0⟩ : ∃ X, X = w.alloc (.cells #[.int .i64 x.kind, .slice A1 x.bytes.length c1, .slice B1 x.kids.length d1] 58) := ⟨_, rfl⟩
      have K0 : Fact (Keep All w W0) := ⟨hW0 ▸ (Keep.refl _ w).alloc _⟩
      have X0 : Fact (Blk W0 w.heap.size [.int .i64 x.kind, .slice A1 x.bytes.length c1, .slice B1 x.kids.length d1] 58) := ⟨hW0 ▸ Blk.new w _ 58⟩
      rw [← hW0]
      clear hW0
      have q0 := K0.out.cell (p := ⟨pb, po, none⟩) trivial p0
      have q1 := K0.out.cell (p := ⟨pb, po + 1, none⟩) trivial p1
      have q2 := K0.out.cell (p := ⟨pb, po + 2, none⟩) trivial p2
      have q3 := K0.out.cell (p := ⟨wb, wo, none⟩) trivial hs0
      clear p0 p1 p2 hs0
      refine wp_region_T 11 (fun w' => w'.cell? ⟨pb, po, none⟩ = some (.int .i64 4) ∧ w'.cell? ⟨pb, po + 1, none⟩ = some (.slice A2 b.length c2) ∧ w'.cell? ⟨pb, po + 2, none⟩ = some (.slice B2 l.length d2) ∧ w'.cell? ⟨wb, wo, none⟩ = some (.string s)) (by kernel_rfl) (by go_keep) (fun hHeld => ?_)
      refine takeT (i := 0) (v := ?_) rfl (by kernel_rfl) (by kernel_rfl) (by kernel_rfl) (by kernel_rfl) (fun _ _ _ h => h) rfl ?_ (by assumption) ?_
      rotate_left
      · (intro w hSw; (try dsimp only at hSw); go_simp; try with_reducible rfl)
      try simp only [Act.put, List.setIfInBounds_toArray, List.set_cons_zero, List.set_cons_succ]
      refine takeT (i := 1) (v := ?_) rfl (by kernel_rfl) (by kernel_rfl) (by kernel_rfl) (by kernel_rfl) (fun _ _ _ h => h) rfl ?_ (by assumption) ?_
      rotate_left
      · (intro w hSw; (try dsimp only at hSw); go_simp; try with_reducible rfl)
      try simp only [Act.put, List.setIfInBounds_toArray, List.set_cons_zero, List.set_cons_succ]
      refine takeT (i := 2) (v := ?_) rfl (by kernel_rfl) (by kernel_rfl) (by kernel_rfl) (by kernel_rfl) (fun _ _ _ h => h) rfl ?_ (by assumption) ?_
      rotate_left
      · (intro w hSw; (try dsimp only at hSw); go_simp; try with_reducible rfl)
      try simp only [Act.put, List.setIfInBounds_toArray, List.set_cons_zero, List.set_cons_succ]
      refine takeT (i := 3) (v := ?_) rfl (by kernel_rfl) (by kernel_rfl) (by kernel_rfl) (by kernel_rfl) (fun _ _ _ h => h) rfl ?_ (by assumption) ?_
      rotate_left
      · (intro w hSw; (try dsimp only at hSw); go_simp; try with_reducible rfl)
      try simp only [Act.put, List.setIfInBounds_toArray, List.set_cons_zero, List.set_cons_succ]
      refine takeT (i := 4) (v := ?_) rfl (by kernel_rfl) (by kernel_rfl) (by kernel_rfl) (by kernel_rfl) (fun _ _ _ h => h) rfl ?_ (by assumption) ?_
      rotate_left
      · (intro w hSw; (try dsimp only at hSw); go_simp; try with_reducible rfl)
      try simp only [Act.put, List.setIfInBounds_toArray, List.set_cons_zero, List.set_cons_succ]
      refine takeT (i := 5) (v := ?_) rfl (by kernel_rfl) (by kernel_rfl) (by kernel_rfl) (by kernel_rfl) (fun _ _ _ h => h) rfl ?_ (by assumption) ?_
      rotate_left
      · (intro w hSw; (try dsimp only at hSw); go_simp; try with_reducible rfl)
      try simp only [Act.put, List.setIfInBounds_toArray, List.set_cons_zero, List.set_cons_succ]
      refine nextT (i := 6) (by kernel_rfl) rfl (fun K hK => ?_)
      go_simp
      refine (HC.out _ K0.out.drew).mono ?_
      rintro e w1 ⟨rfl, hk⟩
      have K1 := Fact.mk (K0.out.drew.trans hk)
      have X1 := Fact.mk (X0.out.drew.keep hk trivial)
      have z0 := hk.cell (p := ⟨pb, po, none⟩) trivial q0
      have z1 := hk.cell (p := ⟨pb, po + 1, none⟩) trivial q1
      have z2 := hk.cell (p := ⟨pb, po + 2, none⟩) trivial q2
      have z3 := hk.cell (p := ⟨wb, wo, none⟩) trivial q3
      clear hk q0 q1 q2 q3 hHeld
      refine hK.out _ _ (by exact ⟨z0, z1, z2, z3⟩) (fun hHeld => ?_)
      clear hK K
      try simp only [Act.put, List.setIfInBounds_toArray, List.set_cons_zero, List.set_cons_succ]
      refine takeT (i := 7) (v := ?_) rfl (by kernel_rfl) (by kernel_rfl) (by kernel_rfl) (by kernel_rfl) (fun _ _ _ h => h) rfl ?_ (by assumption) ?_
      rotate_left
      · (intro w hSw; (try dsimp only at hSw); go_simp; try with_reducible rfl)
      try simp only [Act.put, List.setIfInBounds_toArray, List.set_cons_zero, List.set_cons_succ]
      refine takeT (i := 8) (v := ?_) rfl (by kernel_rfl) (by kernel_rfl) (by kernel_rfl) (by kernel_rfl) (fun _ _ _ h => h) rfl ?_ (by assumption) ?_
      rotate_left
      · (intro w hSw; (try dsimp only at hSw); go_simp; try with_reducible rfl)
      try simp only [Act.put, List.setIfInBounds_toArray, List.set_cons_zero, List.set_cons_succ]
      refine takeT (i := 9) (v := ?_) rfl (by kernel_rfl) (by kernel_rfl) (by kernel_rfl) (by kernel_rfl) (fun _ _ _ h => h) rfl ?_ (by assumption) ?_
      rotate_left
      · (intro w hSw; (try dsimp only at hSw); go_simp; try with_reducible rfl)
      try simp only [Act.put, List.setIfInBounds_toArray, List.set_cons_zero, List.set_cons_succ]
      refine takeT (i := 10) (v := ?_) rfl (by kernel_rfl) (by kernel_rfl) (by kernel_rfl) (by kernel_rfl) (fun _ _ _ h => h) rfl ?_ (by assumption) ?_
      rotate_left
      · (intro w hSw; (try dsimp only at hSw); go_simp; try with_reducible rfl)
      try simp only [Act.put, List.setIfInBounds_toArray, List.set_cons_zero, List.set_cons_succ]
      refine lastT (by kernel_rfl) (by kernel_rfl) rfl (fun K hK => ?_)
      go_simp
      refine hK.out _ _ ?_
      clear hK K hHeld HC K0 X0
      try simp only [Act.put, List.setIfInBounds_toArray, List.set_cons_zero, List.set_cons_succ]
      cases kb with
      | true =>
        go_upto_region 9 with (fail)
        have ho := HO.out
        rw [OwnN] at ho
        obtain ⟨Fb, Fk9, hby, cs0, hrow, hok, h4, h5, h6⟩ := ho
        have kiL : ki < l.length := by
          have := findB_lt HKB.out.symm
          rw [HKI.out]
          exact this
        obtain ⟨g9, d9, C9, hv, hbg, hblk, hd1, hd2, hd3, htk9⟩ := own_blk hrow (by omega)
        simp only [Value.slice.injEq, true_and] at hv
        obtain ⟨rfl, rfl⟩ := hv
        obtain ⟨l9, hl9⟩ : ∃ q, q = l := ⟨_, rfl⟩
        obtain ⟨n9, hn9⟩ : ∃ q, q = l.length := ⟨_, rfl⟩
        rw [← hn9] at hd1 htk9 kiL z2 HC2
        rw [← hn9]
        have HN9 : Fact (n9 = l9.length) := ⟨by rw [hl9, hn9]⟩
        have RB : Fact (Blk w1 g9 C9 71) := ⟨hblk.keep K1.out trivial⟩
        have RD1 := Fact.mk hd1
        have RD2 := Fact.mk hd2
        have RD3 := Fact.mk hd3
        have OK9 : Fact (OwnK w1 base Fk9 l9 (C9.take (n9 * 4))) := ⟨by rw [htk9, hl9]; exact OwnK.keep K1.out (fun _ _ => trivial) hok⟩
        have FK9 : Fact (∀ j, Fk9 j → F j ∧ j ≠ g9) := ⟨fun j hj => ⟨(h5 j hj).1, fun e => (h5 j hj).2 (by rw [e]; rfl)⟩⟩
        have G9 : Fact (F g9 ∨ w.heap.size ≤ g9) := ⟨.inl (h6 g9 rfl)⟩
        have hg9p : g9 ≠ pb := fun e => HFP.out (e ▸ h6 g9 rfl)
        have hg9x : g9 ≠ w.heap.size := fun e => absurd (HFL.out _ (e ▸ h6 g9 rfl)) (Nat.lt_irrefl _)
        have PB : Fact (Blk w1 pb (cs.set (po + 2) (.slice (some ⟨g9, 0, none⟩) n9 d2)) T) := ⟨by rw [set_same HC2.out]; exact HB.out.keep K1.out trivial⟩
        have K2 : Fact (Keep (fun j => ¬ F j ∧ j ≠ pb) w w1) := ⟨K1.out.all⟩
        have HBY : Fact (By w1 Fb (.slice A2 b.length c2) b) := ⟨hby.keep K1.out.all⟩
        have FB : Fact (∀ j, Fb j → F j ∧ ¬ Fk9 j ∧ j ≠ g9) := ⟨fun j hj => ⟨(h4 j hj).1, (h4 j hj).2.1, fun e => (h4 j hj).2.2 (by rw [e]; rfl)⟩⟩
        have X2 := X1
        have HP : Fact (putP (s :: r) (.mk 4 b l) x = ((putP r (kidAt l9 ki) x).1, .mk 4 b (setK l9 ki (putP r (kidAt l9 ki) x).2))) := ⟨by rw [HPUT.out, hl9]; rfl⟩
        have HSK : Fact (SmallN (kidAt l9 ki)) := ⟨by
          rw [hl9, kidAt_eq (by omega)]
          exact HS.out.kids.2 ki (by show ki < l.length; omega)⟩
        clear hby hrow hok h4 h5 h6 hbg hblk hd1 hd2 hd3 htk9 hl9 hn9 z0 z1 z2 z3
        obtain ⟨Fi, vb3, vk3, e1, e2, e3, g1, g2, g3⟩ := OwnK.hole OK9.out ki (by have := HN9.out; omega)
        have hci : ∀ (j : Nat) (v : Value), (C9.take (n9 * 4))[j]? = some v → C9[j]? = some v := fun j v h => by
          rw [List.getElem?_take] at h
          split at h
          · exact h
          · cases h
        have e1' := hci _ _ e1
        have e2' := hci _ _ e2
        have e3' := hci _ _ e3
        have G3 := Fact.mk g3
        have G2 := Fact.mk g2
        have way2 : Fact (∃ (A' : Option Addr) (c' : Nat), A' = (if c = 1 then some ⟨wb, wo, none⟩ else some ⟨wb, wo + 1, none⟩) ∧ c' = c - 1 ∧ Sl w Gw 1 (.slice A' r.length c') r.length (r.map Value.string)) := ⟨by
          have hd := Sl.drop (k := 1) HW.out (by omega)
          have hm1 : m - 1 = r.length := by have := HM.out; omega
          by_cases hc1 : c = 1
          · have := hd.1 hc1
            rw [hm1] at this
            exact ⟨_, _, rfl, rfl, by simpa [hc1] using this⟩
          · have := hd.2 hc1
            rw [hm1] at this
            exact ⟨_, _, rfl, rfl, by simpa [hc1, add_at] using this⟩⟩
        obtain ⟨A', c', hA', hc', hsl⟩ := way2.out
        obtain ⟨q, hq⟩ : ∃ q, q = putP r (kidAt l9 ki) x := ⟨_, rfl⟩
        have HCALL : Fact (Calls Tryz.prog 200 #[.pointer (some ⟨g9, ki * 4 + 1, none⟩), .slice A' r.length c', .agg #[.int .i64 x.kind, .slice A1 x.bytes.length c1, .slice B1 x.kids.length d1]] w1.drew (PutOut w1.drew Fi (fun j => Gx j ∧ j < w.heap.size) g9 (ki * 4 + 1) C9 71 q)) := ⟨by
          rw [hq]
          exact IH.out w1.drew base Fi _ (fun j => Gw j ∧ j < w.heap.size) g9 (ki * 4 + 1) C9 71 (kidAt l9 ki) x vb3 vk3 _ A' c' RB.out.drew e1' e2' e3' (OwnN.keep ((Keep.refl All w1).drew) (fun _ _ => trivial) g1) HSK.out (fun h => (FK9.out _ (g2 _ h)).2 rfl)
            (Nat.le_trans hb K2.out.size) (fun j hj => Nat.lt_of_lt_of_le (HFL.out j (FK9.out j (g2 j hj)).1) K2.out.size)
            ⟨A1, c1, B1, d1, rfl, (HX.out.mono fun j hj hg => ⟨hg, hj⟩).keep (K2.out.drew.mono fun j hj => HGX.out j hj.1)⟩
            (fun j hj => ⟨fun h => (HGX.out j hj.1).1 (FK9.out j (g2 j h)).1, fun e => by
              subst e
              rcases G9.out with h | h
              · exact (HGX.out _ hj.1).1 h
              · omega⟩)
            ((hsl.mono fun j hj hg => ⟨hg, hj⟩).keep (K2.out.drew.mono fun j hj => HGW.out j hj.1))
            (fun j hj => ⟨fun h => (HGW.out j hj.1).1 (FK9.out j (g2 j h)).1, fun e => by
              subst e
              rcases G9.out with h | h
              · exact (HGW.out _ hj.1).1 h
              · omega⟩)⟩
        have HQ := Fact.mk hq
        have HA' := Fact.mk hA'
        have HC' := Fact.mk hc'
        have HM1 : Fact (m - 1 = r.length) := ⟨by have := HM.out; omega⟩
        clear e1 e2 e3 g1 g2 g3 hci e1' e2' e3' way2 hA' hc' hsl hq
        have y2 := PB.out.cell (po + 2) _ (by rw [List.getElem?_set_self HPL.out])
        have y3 := X2.out.cell 0 _ rfl
        have y4 := X2.out.cell 1 _ rfl
        have y5 := X2.out.cell 2 _ rfl
        have kiI : (ki : Int) < n9 := by omega
        have ki0 : (0 : Int) ≤ ki := by omega
        refine wp_region_T 11 (fun w' => w'.cell? ⟨pb, po + 2, none⟩ = some (.slice (some ⟨g9, 0, none⟩) n9 d2) ∧ w'.cell? ⟨w.heap.size, 0, none⟩ = some (.int .i64 x.kind) ∧ w'.cell? ⟨w.heap.size, 1, none⟩ = some (.slice A1 x.bytes.length c1) ∧ w'.cell? ⟨w.heap.size, 2, none⟩ = some (.slice B1 x.kids.length d1)) (by kernel_rfl) (by go_keep) (fun hHeld => ?_)
        refine takeT (i := 0) (v := ?_) rfl (by kernel_rfl) (by kernel_rfl) (by kernel_rfl) (by kernel_rfl) (fun _ _ _ h => h) rfl ?_ (by assumption) ?_
        rotate_left
        · (intro w hSw; (try dsimp only at hSw); go_simp; try with_reducible rfl)
        try simp only [Act.put, List.setIfInBounds_toArray, List.set_cons_zero, List.set_cons_succ]
        refine takeT (i := 1) (v := ?_) rfl (by kernel_rfl) (by kernel_rfl) (by kernel_rfl) (by kernel_rfl) (fun _ _ _ h => h) rfl ?_ (by assumption) ?_
        rotate_left
        · (intro w hSw; (try dsimp only at hSw); go_simp; try with_reducible rfl)
        try simp only [Act.put, List.setIfInBounds_toArray, List.set_cons_zero, List.set_cons_succ]
        refine takeT (i := 2) (v := ?_) rfl (by kernel_rfl) (by kernel_rfl) (by kernel_rfl) (by kernel_rfl) (fun _ _ _ h => h) rfl ?_ (by assumption) ?_
        rotate_left
        · (intro w hSw; (try dsimp only at hSw); go_simp; try with_reducible rfl)
        try simp only [Act.put, List.setIfInBounds_toArray, List.set_cons_zero, List.set_cons_succ]
        refine takeT (i := 3) (v := ?_) rfl (by kernel_rfl) (by kernel_rfl) (by kernel_rfl) (by kernel_rfl) (fun _ _ _ h => h) rfl ?_ (by assumption) ?_
        rotate_left
        · (intro w hSw; (try dsimp only at hSw); go_simp; try with_reducible rfl)
        try simp only [Act.put, List.setIfInBounds_toArray, List.set_cons_zero, List.set_cons_succ]
        refine takeT (i := 4) (v := ?_) rfl (by kernel_rfl) (by kernel_rfl) (by kernel_rfl) (by kernel_rfl) (fun _ _ _ h => h) rfl ?_ (by assumption) ?_
        rotate_left
        · (intro w hSw; (try dsimp only at hSw); go_simp; try with_reducible rfl)
        try simp only [Act.put, List.setIfInBounds_toArray, List.set_cons_zero, List.set_cons_succ]
        refine takeT (i := 5) (v := ?_) rfl (by kernel_rfl) (by kernel_rfl) (by kernel_rfl) (by kernel_rfl) (fun _ _ _ h => h) rfl ?_ (by assumption) ?_
        rotate_left
        · (intro w hSw; (try dsimp only at hSw); go_simp; try with_reducible rfl)
        try simp only [Act.put, List.setIfInBounds_toArray, List.set_cons_zero, List.set_cons_succ]
        refine takeT (i := 6) (v := ?_) rfl (by kernel_rfl) (by kernel_rfl) (by kernel_rfl) (by kernel_rfl) (fun _ _ _ h => h) rfl ?_ (by assumption) ?_
        rotate_left
        · (intro w hSw; (try dsimp only at hSw); go_simp; try with_reducible rfl)
        try simp only [Act.put, List.setIfInBounds_toArray, List.set_cons_zero, List.set_cons_succ]
        refine takeT (i := 7) (v := ?_) rfl (by kernel_rfl) (by kernel_rfl) (by kernel_rfl) (by kernel_rfl) (fun _ _ _ h => h) rfl ?_ (by assumption) ?_
        rotate_left
        · (intro w hSw; (try dsimp only at hSw); go_simp; try with_reducible rfl)
        try simp only [Act.put, List.setIfInBounds_toArray, List.set_cons_zero, List.set_cons_succ]
        refine takeT (i := 8) (v := ?_) rfl (by kernel_rfl) (by kernel_rfl) (by kernel_rfl) (by kernel_rfl) (fun _ _ _ h => h) rfl ?_ (by assumption) ?_
        rotate_left
        · (intro w hSw; (try dsimp only at hSw); go_simp; try with_reducible rfl)
        try simp only [Act.put, List.setIfInBounds_toArray, List.set_cons_zero, List.set_cons_succ]
        refine takeT (i := 9) (v := ?_) rfl (by kernel_rfl) (by kernel_rfl) (by kernel_rfl) (by kernel_rfl) (fun _ _ _ h => h) rfl ?_ (by assumption) ?_
        rotate_left
        · (intro w hSw; (try dsimp only at hSw); go_simp; try with_reducible rfl)
        try simp only [Act.put, List.setIfInBounds_toArray, List.set_cons_zero, List.set_cons_succ]
        refine nextT (i := 10) (by kernel_rfl) rfl (fun K hK => ?_)
        go_simp
        rw [HM1.out, ← HA'.out, ← HC'.out]
        refine (HCALL.out).mono ?_
        rintro e w4 ⟨rfl, hk4, hpost⟩
        have K4 := Fact.mk hk4
        have HPO := Fact.mk hpost
        have u2 := hk4.cell (p := ⟨pb, po + 2, none⟩) ⟨fun h => HFP.out (FK9.out _ (G2.out _ h)).1, Ne.symm hg9p⟩ y2
        have u3 := hk4.cell (p := ⟨w.heap.size, 0, none⟩) ⟨fun h => absurd (HFL.out _ (FK9.out _ (G2.out _ h)).1) (Nat.lt_irrefl _), Ne.symm hg9x⟩ y3
        have u4 := hk4.cell (p := ⟨w.heap.size, 1, none⟩) ⟨fun h => absurd (HFL.out _ (FK9.out _ (G2.out _ h)).1) (Nat.lt_irrefl _), Ne.symm hg9x⟩ y4
        have u5 := hk4.cell (p := ⟨w.heap.size, 2, none⟩) ⟨fun h => absurd (HFL.out _ (FK9.out _ (G2.out _ h)).1) (Nat.lt_irrefl _), Ne.symm hg9x⟩ y5
        clear hk4 hpost y2 y3 y4 y5 hHeld HCALL
        refine hK.out _ _ (by exact ⟨u2, u3, u4, u5⟩) (fun hHeld => ?_)
        clear hK K
        try simp only [Act.put, List.setIfInBounds_toArray, List.set_cons_zero, List.set_cons_succ]
        refine lastT (by kernel_rfl) (by kernel_rfl) rfl (fun K hK => ?_)
        go_simp
        refine hK.out _ _ ?_
        clear hK K hHeld u2 u3 u4 u5
        try simp only [Act.put, List.setIfInBounds_toArray, List.set_cons_zero, List.set_cons_succ]
        go_wp2
        go_ret
        rw [HP.out, ← HQ.out]
        refine ⟨rfl, K2.out.drew.then_ K4.out fun i hi hn => ⟨fun h => hn.1 (FK9.out i (G2.out i h)).1, fun e => ?_⟩, fun h0 => ?_⟩
        · subst e
          rcases G9.out with h | h
          · exact hn.1 h
          · omega
        obtain ⟨vb4, vk4, hblk4, hrep4⟩ := HPO.out h0
        have K24 : Keep (fun j => ¬ Fi j ∧ j ≠ g9) w1 w4 := (Keep.refl _ w1).drew.trans K4.out
        refine ⟨.slice A2 b.length c2, .slice (some ⟨g9, 0, none⟩) n9 d2, ?_, ?_⟩
        · show Blk w4 pb (((cs.set po (.int .i64 4)).set (po + 1) _).set (po + 2) _) T
          rw [set_same HC0.out, set_same HC1.out]
          exact PB.out.keep K24 ⟨fun h => HFP.out (FK9.out _ (G2.out _ h)).1, Ne.symm hg9p⟩
        have hK := G3.out w4 _ (fun j => F j ∨ Gx j ∨ w.heap.size ≤ j) q.2 vb4 vk4 K24 (fun j hj hn => ⟨⟨hn, (FK9.out j hj).2⟩, .inl (FK9.out j hj).1⟩) (hrep4.mono fun j _ hj => by
          rcases hj with h | h | h
          · exact .inl (FK9.out j (G2.out j h)).1
          · exact .inr (.inl h.1)
          · exact .inr (.inr (Nat.le_trans K2.out.size h)))
        have htk : ((((C9.take (n9 * 4)).set (ki * 4 + 1) (.int .i64 q.2.kind)).set (ki * 4 + 2) vb4).set (ki * 4 + 3) vk4) = (((C9.set (ki * 4 + 1) (.int .i64 q.2.kind)).set (ki * 4 + 1 + 1) vb4).set (ki * 4 + 1 + 2) vk4).take (n9 * 4) := by
          simp only [List.take_set]
        have hln : (setK l9 ki q.2).length = n9 := by rw [setK, List.length_set, HN9.out]
        show RepN w4 _ (.mk 4 b (setK l9 ki q.2)) _ _
        rw [RepN, hln]
        refine ⟨(HBY.out.keep (K24.mono fun j hj => ⟨fun h => (FB.out j hj).2.1 (G2.out j h), (FB.out j hj).2.2⟩)).mono fun j _ hj => .inl (FB.out j hj).1, _, ?_, hK⟩
        rw [htk]
        refine hblk4.slN ?_ ?_ RD1.out RD2.out ?_
        · rcases G9.out with h | h
          · exact .inl h
          · exact .inr (.inr h)
        · simp only [List.length_set]
          rw [RD3.out]
          have := RD1.out
          omega
        · rw [← htk]
          exact RepK.one hK
      | false =>
        go_upto_region 8 with (fail)
        have ho := HO.out
        rw [OwnN] at ho
        obtain ⟨Fb, Fk9, hby, cs0, hrow, hok, h4, h5, h6⟩ := ho
        obtain ⟨kv, hkv⟩ : ∃ k : List Value, k = [.string s, .int .i64 4, .slice none 0 0, .slice none 0 0] := ⟨_, rfl⟩
        obtain ⟨WI, hWI⟩ : ∃ X, X = (w1.alloc (.cells #[.string s, .int .i64 4, .slice none 0 0, .slice none 0 0] 71)).drew := ⟨_, rfl⟩
        have KI : Fact (Keep All w WI) := ⟨hWI ▸ (K1.out.alloc _).drew⟩
        have KI1 : Fact (Keep All w1 WI) := ⟨hWI ▸ ((Keep.refl _ w1).alloc _).drew⟩
        have HII : Fact (Calls Tryz.prog 222 #[.slice B2 l.length d2, .int .i64 ki, .slice (some ⟨w1.heap.size, 0, none⟩) 1 1] WI (Inserted WI base l.length ki (.slice B2 l.length d2) cs0 kv)) := ⟨by
          have hr := own_keep hrow KI.out fun _ _ => trivial
          refine ins222g (w := WI) (base := base) (n := l.length) (xb := w1.heap.size) (i := ki) (xs := cs0) (kid := kv) (.slice B2 l.length d2) hr (Nat.le_trans hb KI.out.size) (by omega) hkil (by rw [hWI, hkv]; exact (Blk.new w1 _ 71).drew) (fun e => ?_) (by rw [hkv]; rfl) (fun u hu => ?_) (OwnK.rep hok).2
          · have := HFL.out _ (h6 _ e)
            have := K1.out.size
            omega
          · rw [hkv] at hu
            exact one4 _ _ _ _ rfl rfl u hu⟩
        have x0 := (X1.out.cell 0 _ rfl)
        have hxs : w.heap.size < w1.heap.size := X1.out.lt
        have fr2 : w1.frozen? ⟨pb, po + 2, none⟩ = false := (HB.out.keep K1.out trivial).free _
        have HWI := Fact.mk hWI
        clear hWI x0
        refine wp_region_T 15 (fun w' => w'.cell? ⟨pb, po + 2, none⟩ = some (.slice B2 l.length d2) ∧ w'.cell? ⟨wb, wo, none⟩ = some (.string s)) (by kernel_rfl) (by go_keep) (fun hHeld => ?_)
        refine takeT (i := 0) (v := ?_) rfl (by kernel_rfl) (by kernel_rfl) (by kernel_rfl) (by kernel_rfl) (fun _ _ _ h => h) rfl ?_ (by assumption) ?_
        rotate_left
        · (intro w hSw; (try dsimp only at hSw); go_simp; try with_reducible rfl)
        try simp only [Act.put, List.setIfInBounds_toArray, List.set_cons_zero, List.set_cons_succ]
        refine takeT (i := 1) (v := ?_) rfl (by kernel_rfl) (by kernel_rfl) (by kernel_rfl) (by kernel_rfl) (fun _ _ _ h => h) rfl ?_ (by assumption) ?_
        rotate_left
        · (intro w hSw; (try dsimp only at hSw); go_simp; try with_reducible rfl)
        try simp only [Act.put, List.setIfInBounds_toArray, List.set_cons_zero, List.set_cons_succ]
        refine takeT (i := 2) (v := ?_) rfl (by kernel_rfl) (by kernel_rfl) (by kernel_rfl) (by kernel_rfl) (fun _ _ _ h => h) rfl ?_ (by assumption) ?_
        rotate_left
        · (intro w hSw; (try dsimp only at hSw); go_simp; try with_reducible rfl)
        try simp only [Act.put, List.setIfInBounds_toArray, List.set_cons_zero, List.set_cons_succ]
        refine takeT (i := 3) (v := ?_) rfl (by kernel_rfl) (by kernel_rfl) (by kernel_rfl) (by kernel_rfl) (fun _ _ _ h => h) rfl ?_ (by assumption) ?_
        rotate_left
        · (intro w hSw; (try dsimp only at hSw); go_simp; try with_reducible rfl)
        try simp only [Act.put, List.setIfInBounds_toArray, List.set_cons_zero, List.set_cons_succ]
        refine takeT (i := 4) (v := ?_) rfl (by kernel_rfl) (by kernel_rfl) (by kernel_rfl) (by kernel_rfl) (fun _ _ _ h => h) rfl ?_ (by assumption) ?_
        rotate_left
        · (intro w hSw; (try dsimp only at hSw); go_simp; try with_reducible rfl)
        try simp only [Act.put, List.setIfInBounds_toArray, List.set_cons_zero, List.set_cons_succ]
        refine takeT (i := 5) (v := ?_) rfl (by kernel_rfl) (by kernel_rfl) (by kernel_rfl) (by kernel_rfl) (fun _ _ _ h => h) rfl ?_ (by assumption) ?_
        rotate_left
        · (intro w hSw; (try dsimp only at hSw); go_simp; try with_reducible rfl)
        try simp only [Act.put, List.setIfInBounds_toArray, List.set_cons_zero, List.set_cons_succ]
        refine takeT (i := 6) (v := ?_) rfl (by kernel_rfl) (by kernel_rfl) (by kernel_rfl) (by kernel_rfl) (fun _ _ _ h => h) rfl ?_ (by assumption) ?_
        rotate_left
        · (intro w hSw; (try dsimp only at hSw); go_simp; try with_reducible rfl)
        try simp only [Act.put, List.setIfInBounds_toArray, List.set_cons_zero, List.set_cons_succ]
        refine takeT (i := 7) (v := ?_) rfl (by kernel_rfl) (by kernel_rfl) (by kernel_rfl) (by kernel_rfl) (fun _ _ _ h => h) rfl ?_ (by assumption) ?_
        rotate_left
        · (intro w hSw; (try dsimp only at hSw); go_simp; try with_reducible rfl)
        try simp only [Act.put, List.setIfInBounds_toArray, List.set_cons_zero, List.set_cons_succ]
        refine takeT (i := 8) (v := ?_) rfl (by kernel_rfl) (by kernel_rfl) (by kernel_rfl) (by kernel_rfl) (fun _ _ _ h => h) rfl ?_ (by assumption) ?_
        rotate_left
        · (intro w hSw; (try dsimp only at hSw); go_simp; try with_reducible rfl)
        try simp only [Act.put, List.setIfInBounds_toArray, List.set_cons_zero, List.set_cons_succ]
        refine takeT (i := 9) (v := ?_) rfl (by kernel_rfl) (by kernel_rfl) (by kernel_rfl) (by kernel_rfl) (fun _ _ _ h => h) rfl ?_ (by assumption) ?_
        rotate_left
        · (intro w hSw; (try dsimp only at hSw); go_simp; try with_reducible rfl)
        try simp only [Act.put, List.setIfInBounds_toArray, List.set_cons_zero, List.set_cons_succ]
        refine takeT (i := 10) (v := ?_) rfl (by kernel_rfl) (by kernel_rfl) (by kernel_rfl) (by kernel_rfl) (fun _ _ _ h => h) rfl ?_ (by assumption) ?_
        rotate_left
        · (intro w hSw; (try dsimp only at hSw); go_simp; try with_reducible rfl)
        try simp only [Act.put, List.setIfInBounds_toArray, List.set_cons_zero, List.set_cons_succ]
        refine nextT (i := 11) (by kernel_rfl) rfl (fun K hK => ?_)
        go_simp
        refine hK.out _ _ (by go_keep) (fun hHeld => ?_)
        clear hK K
        try simp only [Act.put, List.setIfInBounds_toArray, List.set_cons_zero, List.set_cons_succ]
        refine nextT (i := 12) (by kernel_rfl) rfl (fun K hK => ?_)
        go_simp
        rw [← HWI.out]
        refine (HII.out).mono ?_
        rintro e w2 ⟨v', rfl, hrow2, hk2, hbk2⟩
        have KB := Fact.mk hk2
        have HR2 := Fact.mk hrow2
        have HBK2 := Fact.mk hbk2
        have hvp : (Value.slice B2 l.length d2).ownBlock ≠ some pb := fun e => HFP.out (h6 _ e)
        have hvw : (Value.slice B2 l.length d2).ownBlock ≠ some wb := fun e => hwF.out (h6 _ e)
        have PB2 := Fact.mk ((HB.out.keep KI.out trivial).keep hk2 hvp)
        have r2 := hk2.cell (p := ⟨pb, po + 2, none⟩) hvp (KI1.out.cell (p := ⟨pb, po + 2, none⟩) trivial z2)
        have r3 := hk2.cell (p := ⟨wb, wo, none⟩) hvw (KI1.out.cell (p := ⟨wb, wo, none⟩) trivial z3)
        have fr3 := PB2.out.free (po + 2)
        clear hrow2 hk2 hbk2 hHeld z0 z1 z2 z3 fr2
        refine hK.out _ _ (by exact ⟨r2, r3⟩) (fun hHeld => ?_)
        clear hK K
        try simp only [Act.put, List.setIfInBounds_toArray, List.set_cons_zero, List.set_cons_succ]
        refine nextT (i := 13) (by kernel_rfl) rfl (fun K hK => ?_)
        go_simp
        refine hK.out _ _ (by exact ⟨r2, r3⟩) (fun hHeld => ?_)
        clear hK K
        try simp only [Act.put, List.setIfInBounds_toArray, List.set_cons_zero, List.set_cons_succ]
        refine takeT (i := 14) (v := ?_) rfl (by kernel_rfl) (by kernel_rfl) (by kernel_rfl) (by kernel_rfl) (fun _ _ _ h => h) rfl ?_ (by assumption) ?_
        rotate_left
        · (intro w hSw; (try dsimp only at hSw); go_simp; try with_reducible rfl)
        try simp only [Act.put, List.setIfInBounds_toArray, List.set_cons_zero, List.set_cons_succ]
        refine lastT (by kernel_rfl) (by kernel_rfl) rfl (fun K hK => ?_)
        obtain ⟨g9, d9, C9, hv, hbg, hblk, hd1, hd2, hd3, htk9⟩ := own_blk HR2.out (by omega)
        subst hv
        go_simp
        refine hK.out _ _ ?_
        clear hK K hHeld
        try simp only [Act.put, List.setIfInBounds_toArray, List.set_cons_zero, List.set_cons_succ]
        obtain ⟨W3, hW3⟩ : ∃ X, X = w2.setCell ⟨pb, po + 2, none⟩ (.slice (some ⟨g9, 0, none⟩) (l.length + 1) d9) := ⟨_, rfl⟩
        have K3 : Fact (Keep (fun j => j ≠ pb) w2 W3) := ⟨hW3 ▸ (Keep.refl _ w2).setCell (p := ⟨pb, po + 2, none⟩) (.inr fun h => h rfl) _⟩
        have PB : Fact (Blk W3 pb (cs.set (po + 2) (.slice (some ⟨g9, 0, none⟩) (l.length + 1) d9)) T) := ⟨hW3 ▸ PB2.out.set (po + 2) _⟩
        rw [← hW3]
        clear hW3 r2 r3 fr3
        go_upto_region 9 with (fail)
        obtain ⟨l9, hl9⟩ : ∃ q, q = insK l ki s (.mk 4 [] []) := ⟨_, rfl⟩
        have hl9l : l9.length = l.length + 1 := by rw [hl9, insK_len _ _ _ _ hkil]
        obtain ⟨n9, hn9⟩ : ∃ q, q = l.length + 1 := ⟨_, rfl⟩
        have kiL : ki < n9 := by omega
        have hkb2 : Keep (fun j => (Value.slice B2 l.length d2).ownBlock ≠ some j) w w2 := KI.out.all.then_ KB.out fun i _ hi => hi
        have hG9 : F g9 ∧ (Value.slice B2 l.length d2).ownBlock = some g9 ∨ WI.heap.size ≤ g9 := by
          rcases HBK2.out with h | ⟨g', h, h'⟩
          · have : (Value.slice B2 l.length d2).ownBlock = some g9 := h ▸ rfl
            exact .inl ⟨h6 _ this, this⟩
          · have : g9 = g' := by injection h
            exact .inr (this ▸ h')
        have hwi : w.heap.size < WI.heap.size := Nat.lt_of_lt_of_le hxs KI1.out.size
        have hg9p : g9 ≠ pb := fun e => by
          rcases hG9 with h | h
          · exact HFP.out (e ▸ h.1)
          · omega
        have hg9x : g9 ≠ w.heap.size := fun e => by
          rcases hG9 with h | h
          · exact absurd (HFL.out _ (e ▸ h.1)) (Nat.lt_irrefl _)
          · omega
        rw [← hn9] at hd1 htk9 PB
        rw [← hn9]
        have HN9 : Fact (n9 = l9.length) := ⟨by rw [hl9l, hn9]⟩
        have RB : Fact (Blk W3 g9 C9 71) := ⟨hblk.keep K3.out hg9p⟩
        have RD1 := Fact.mk hd1
        have RD2 := Fact.mk hd2
        have RD3 := Fact.mk hd3
        have hkF : Keep (fun j => F j ∧ (Value.slice B2 l.length d2).ownBlock ≠ some j) w W3 := (hkb2.mono fun j hj => hj.2).then_ K3.out fun j _ hj e => HFP.out (e ▸ hj.1)
        have OK9 : Fact (OwnK W3 base Fk9 l9 (C9.take (n9 * 4))) := ⟨by
          rw [htk9, hl9, hkv]
          exact OwnK.keep hkF (fun j hj => ⟨(h5 j hj).1, (h5 j hj).2⟩) (OwnK.ins (OwnN.nil w base 4) hok ki hkil)⟩
        have FK9 : Fact (∀ j, Fk9 j → F j ∧ j ≠ g9) := ⟨fun j hj => ⟨(h5 j hj).1, fun e => by
          rcases hG9 with h | h
          · exact (h5 j hj).2 (e ▸ h.2)
          · have := HFL.out j (h5 j hj).1
            omega⟩⟩
        have G9 : Fact (F g9 ∨ w.heap.size ≤ g9) := ⟨hG9.imp (fun h => h.1) (fun h => by omega)⟩
        have K2 : Fact (Keep (fun j => ¬ F j ∧ j ≠ pb) w W3) := ⟨(hkb2.mono fun j hj e => hj.1 (h6 _ e)).then_ K3.out fun j _ hj => hj.2⟩
        have HBY : Fact (By W3 Fb (.slice A2 b.length c2) b) := ⟨hby.keep (hkF.mono fun j hj => ⟨(h4 j hj).1, (h4 j hj).2.2⟩)⟩
        have FB : Fact (∀ j, Fb j → F j ∧ ¬ Fk9 j ∧ j ≠ g9) := ⟨fun j hj => ⟨(h4 j hj).1, (h4 j hj).2.1, fun e => by
          rcases hG9 with h | h
          · exact (h4 j hj).2.2 (e ▸ h.2)
          · have := HFL.out j (h4 j hj).1
            omega⟩⟩
        have X2 : Fact (Blk W3 w.heap.size [.int .i64 x.kind, .slice A1 x.bytes.length c1, .slice B1 x.kids.length d1] 58) := ⟨((X1.out.keep KI1.out trivial).keep KB.out (fun e => absurd (HFL.out _ (h6 _ e)) (Nat.lt_irrefl _))).keep K3.out (by show w.heap.size ≠ pb; omega)⟩
        have HP : Fact (putP (s :: r) (.mk 4 b l) x = ((putP r (kidAt l9 ki) x).1, .mk 4 b (setK l9 ki (putP r (kidAt l9 ki) x).2))) := ⟨by rw [HPUT.out, hl9]; rfl⟩
        have HSK : Fact (SmallN (kidAt l9 ki)) := ⟨by
          rw [hl9, kidAt_ins _ _ _ _ hkil, SmallN, SmallK]
          decide⟩
        clear hby hrow hok h4 h5 h6 hbg hblk hd1 hd2 hd3 htk9 hl9 hn9 hkF hG9 hkb2 hwi hl9l hkv hvp hvw
        obtain ⟨Fi, vb3, vk3, e1, e2, e3, g1, g2, g3⟩ := OwnK.hole OK9.out ki (by have := HN9.out; omega)
        have hci : ∀ (j : Nat) (v : Value), (C9.take (n9 * 4))[j]? = some v → C9[j]? = some v := fun j v h => by
          rw [List.getElem?_take] at h
          split at h
          · exact h
          · cases h
        have e1' := hci _ _ e1
        have e2' := hci _ _ e2
        have e3' := hci _ _ e3
        have G3 := Fact.mk g3
        have G2 := Fact.mk g2
        have way2 : Fact (∃ (A' : Option Addr) (c' : Nat), A' = (if c = 1 then some ⟨wb, wo, none⟩ else some ⟨wb, wo + 1, none⟩) ∧ c' = c - 1 ∧ Sl w Gw 1 (.slice A' r.length c') r.length (r.map Value.string)) := ⟨by
          have hd := Sl.drop (k := 1) HW.out (by omega)
          have hm1 : m - 1 = r.length := by have := HM.out; omega
          by_cases hc1 : c = 1
          · have := hd.1 hc1
            rw [hm1] at this
            exact ⟨_, _, rfl, rfl, by simpa [hc1] using this⟩
          · have := hd.2 hc1
            rw [hm1] at this
            exact ⟨_, _, rfl, rfl, by simpa [hc1, add_at] using this⟩⟩
        obtain ⟨A', c', hA', hc', hsl⟩ := way2.out
        obtain ⟨q, hq⟩ : ∃ q, q = putP r (kidAt l9 ki) x := ⟨_, rfl⟩
        have HCALL : Fact (Calls Tryz.prog 200 #[.pointer (some ⟨g9, ki * 4 + 1, none⟩), .slice A' r.length c', .agg #[.int .i64 x.kind, .slice A1 x.bytes.length c1, .slice B1 x.kids.length d1]] W3.drew (PutOut W3.drew Fi (fun j => Gx j ∧ j < w.heap.size) g9 (ki * 4 + 1) C9 71 q)) := ⟨by
          rw [hq]
          exact IH.out W3.drew base Fi _ (fun j => Gw j ∧ j < w.heap.size) g9 (ki * 4 + 1) C9 71 (kidAt l9 ki) x vb3 vk3 _ A' c' RB.out.drew e1' e2' e3' (OwnN.keep ((Keep.refl All W3).drew) (fun _ _ => trivial) g1) HSK.out (fun h => (FK9.out _ (g2 _ h)).2 rfl)
            (Nat.le_trans hb K2.out.size) (fun j hj => Nat.lt_of_lt_of_le (HFL.out j (FK9.out j (g2 j hj)).1) K2.out.size)
            ⟨A1, c1, B1, d1, rfl, (HX.out.mono fun j hj hg => ⟨hg, hj⟩).keep (K2.out.drew.mono fun j hj => HGX.out j hj.1)⟩
            (fun j hj => ⟨fun h => (HGX.out j hj.1).1 (FK9.out j (g2 j h)).1, fun e => by
              subst e
              rcases G9.out with h | h
              · exact (HGX.out _ hj.1).1 h
              · omega⟩)
            ((hsl.mono fun j hj hg => ⟨hg, hj⟩).keep (K2.out.drew.mono fun j hj => HGW.out j hj.1))
            (fun j hj => ⟨fun h => (HGW.out j hj.1).1 (FK9.out j (g2 j h)).1, fun e => by
              subst e
              rcases G9.out with h | h
              · exact (HGW.out _ hj.1).1 h
              · omega⟩)⟩
        have HQ := Fact.mk hq
        have HA' := Fact.mk hA'
        have HC' := Fact.mk hc'
        have HM1 : Fact (m - 1 = r.length) := ⟨by have := HM.out; omega⟩
        clear e1 e2 e3 g1 g2 g3 hci e1' e2' e3' way2 hA' hc' hsl hq
        have y2 := PB.out.cell (po + 2) _ (by rw [List.getElem?_set_self HPL.out])
        have y3 := X2.out.cell 0 _ rfl
        have y4 := X2.out.cell 1 _ rfl
        have y5 := X2.out.cell 2 _ rfl
        have kiI : (ki : Int) < n9 := by omega
        have ki0 : (0 : Int) ≤ ki := by omega
        refine wp_region_T 11 (fun w' => w'.cell? ⟨pb, po + 2, none⟩ = some (.slice (some ⟨g9, 0, none⟩) n9 d9) ∧ w'.cell? ⟨w.heap.size, 0, none⟩ = some (.int .i64 x.kind) ∧ w'.cell? ⟨w.heap.size, 1, none⟩ = some (.slice A1 x.bytes.length c1) ∧ w'.cell? ⟨w.heap.size, 2, none⟩ = some (.slice B1 x.kids.length d1)) (by kernel_rfl) (by go_keep) (fun hHeld => ?_)
        refine takeT (i := 0) (v := ?_) rfl (by kernel_rfl) (by kernel_rfl) (by kernel_rfl) (by kernel_rfl) (fun _ _ _ h => h) rfl ?_ (by assumption) ?_
        rotate_left
        · (intro w hSw; (try dsimp only at hSw); go_simp; try with_reducible rfl)
        try simp only [Act.put, List.setIfInBounds_toArray, List.set_cons_zero, List.set_cons_succ]
        refine takeT (i := 1) (v := ?_) rfl (by kernel_rfl) (by kernel_rfl) (by kernel_rfl) (by kernel_rfl) (fun _ _ _ h => h) rfl ?_ (by assumption) ?_
        rotate_left
        · (intro w hSw; (try dsimp only at hSw); go_simp; try with_reducible rfl)
        try simp only [Act.put, List.setIfInBounds_toArray, List.set_cons_zero, List.set_cons_succ]
        refine takeT (i := 2) (v := ?_) rfl (by kernel_rfl) (by kernel_rfl) (by kernel_rfl) (by kernel_rfl) (fun _ _ _ h => h) rfl ?_ (by assumption) ?_
        rotate_left
        · (intro w hSw; (try dsimp only at hSw); go_simp; try with_reducible rfl)
        try simp only [Act.put, List.setIfInBounds_toArray, List.set_cons_zero, List.set_cons_succ]
        refine takeT (i := 3) (v := ?_) rfl (by kernel_rfl) (by kernel_rfl) (by kernel_rfl) (by kernel_rfl) (fun _ _ _ h => h) rfl ?_ (by assumption) ?_
        rotate_left
        · (intro w hSw; (try dsimp only at hSw); go_simp; try with_reducible rfl)
        try simp only [Act.put, List.setIfInBounds_toArray, List.set_cons_zero, List.set_cons_succ]
        refine takeT (i := 4) (v := ?_) rfl (by kernel_rfl) (by kernel_rfl) (by kernel_rfl) (by kernel_rfl) (fun _ _ _ h => h) rfl ?_ (by assumption) ?_
        rotate_left
        · (intro w hSw; (try dsimp only at hSw); go_simp; try with_reducible rfl)
        try simp only [Act.put, List.setIfInBounds_toArray, List.set_cons_zero, List.set_cons_succ]
        refine takeT (i := 5) (v := ?_) rfl (by kernel_rfl) (by kernel_rfl) (by kernel_rfl) (by kernel_rfl) (fun _ _ _ h => h) rfl ?_ (by assumption) ?_
        rotate_left
        · (intro w hSw; (try dsimp only at hSw); go_simp; try with_reducible rfl)
        try simp only [Act.put, List.setIfInBounds_toArray, List.set_cons_zero, List.set_cons_succ]
        refine takeT (i := 6) (v := ?_) rfl (by kernel_rfl) (by kernel_rfl) (by kernel_rfl) (by kernel_rfl) (fun _ _ _ h => h) rfl ?_ (by assumption) ?_
        rotate_left
        · (intro w hSw; (try dsimp only at hSw); go_simp; try with_reducible rfl)
        try simp only [Act.put, List.setIfInBounds_toArray, List.set_cons_zero, List.set_cons_succ]
        refine takeT (i := 7) (v := ?_) rfl (by kernel_rfl) (by kernel_rfl) (by kernel_rfl) (by kernel_rfl) (fun _ _ _ h => h) rfl ?_ (by assumption) ?_
        rotate_left
        · (intro w hSw; (try dsimp only at hSw); go_simp; try with_reducible rfl)
        try simp only [Act.put, List.setIfInBounds_toArray, List.set_cons_zero, List.set_cons_succ]
        refine takeT (i := 8) (v := ?_) rfl (by kernel_rfl) (by kernel_rfl) (by kernel_rfl) (by kernel_rfl) (fun _ _ _ h => h) rfl ?_ (by assumption) ?_
        rotate_left
        · (intro w hSw; (try dsimp only at hSw); go_simp; try with_reducible rfl)
        try simp only [Act.put, List.setIfInBounds_toArray, List.set_cons_zero, List.set_cons_succ]
        refine takeT (i := 9) (v := ?_) rfl (by kernel_rfl) (by kernel_rfl) (by kernel_rfl) (by kernel_rfl) (fun _ _ _ h => h) rfl ?_ (by assumption) ?_
        rotate_left
        · (intro w hSw; (try dsimp only at hSw); go_simp; try with_reducible rfl)
        try simp only [Act.put, List.setIfInBounds_toArray, List.set_cons_zero, List.set_cons_succ]
        refine nextT (i := 10) (by kernel_rfl) rfl (fun K hK => ?_)
        go_simp
        rw [HM1.out, ← HA'.out, ← HC'.out]
        refine (HCALL.out).mono ?_
        rintro e w4 ⟨rfl, hk4, hpost⟩
        have K4 := Fact.mk hk4
        have HPO := Fact.mk hpost
        have u2 := hk4.cell (p := ⟨pb, po + 2, none⟩) ⟨fun h => HFP.out (FK9.out _ (G2.out _ h)).1, Ne.symm hg9p⟩ y2
        have u3 := hk4.cell (p := ⟨w.heap.size, 0, none⟩) ⟨fun h => absurd (HFL.out _ (FK9.out _ (G2.out _ h)).1) (Nat.lt_irrefl _), Ne.symm hg9x⟩ y3
        have u4 := hk4.cell (p := ⟨w.heap.size, 1, none⟩) ⟨fun h => absurd (HFL.out _ (FK9.out _ (G2.out _ h)).1) (Nat.lt_irrefl _), Ne.symm hg9x⟩ y4
        have u5 := hk4.cell (p := ⟨w.heap.size, 2, none⟩) ⟨fun h => absurd (HFL.out _ (FK9.out _ (G2.out _ h)).1) (Nat.lt_irrefl _), Ne.symm hg9x⟩ y5
        clear hk4 hpost y2 y3 y4 y5 hHeld HCALL
        refine hK.out _ _ (by exact ⟨u2, u3, u4, u5⟩) (fun hHeld => ?_)
        clear hK K
        try simp only [Act.put, List.setIfInBounds_toArray, List.set_cons_zero, List.set_cons_succ]
        refine lastT (by kernel_rfl) (by kernel_rfl) rfl (fun K hK => ?_)
        go_simp
        refine hK.out _ _ ?_
        clear hK K hHeld u2 u3 u4 u5
        try simp only [Act.put, List.setIfInBounds_toArray, List.set_cons_zero, List.set_cons_succ]
        go_wp2
        go_ret
        rw [HP.out, ← HQ.out]
        refine ⟨rfl, K2.out.drew.then_ K4.out fun i hi hn => ⟨fun h => hn.1 (FK9.out i (G2.out i h)).1, fun e => ?_⟩, fun h0 => ?_⟩
        · subst e
          rcases G9.out with h | h
          · exact hn.1 h
          · omega
        obtain ⟨vb4, vk4, hblk4, hrep4⟩ := HPO.out h0
        have K24 : Keep (fun j => ¬ Fi j ∧ j ≠ g9) W3 w4 := (Keep.refl _ W3).drew.trans K4.out
        refine ⟨.slice A2 b.length c2, .slice (some ⟨g9, 0, none⟩) n9 d9, ?_, ?_⟩
        · show Blk w4 pb (((cs.set po (.int .i64 4)).set (po + 1) _).set (po + 2) _) T
          rw [set_same HC0.out, set_same HC1.out]
          exact PB.out.keep K24 ⟨fun h => HFP.out (FK9.out _ (G2.out _ h)).1, Ne.symm hg9p⟩
        have hK := G3.out w4 _ (fun j => F j ∨ Gx j ∨ w.heap.size ≤ j) q.2 vb4 vk4 K24 (fun j hj hn => ⟨⟨hn, (FK9.out j hj).2⟩, .inl (FK9.out j hj).1⟩) (hrep4.mono fun j _ hj => by
          rcases hj with h | h | h
          · exact .inl (FK9.out j (G2.out j h)).1
          · exact .inr (.inl h.1)
          · exact .inr (.inr (Nat.le_trans K2.out.size h)))
        have htk : ((((C9.take (n9 * 4)).set (ki * 4 + 1) (.int .i64 q.2.kind)).set (ki * 4 + 2) vb4).set (ki * 4 + 3) vk4) = (((C9.set (ki * 4 + 1) (.int .i64 q.2.kind)).set (ki * 4 + 1 + 1) vb4).set (ki * 4 + 1 + 2) vk4).take (n9 * 4) := by
          simp only [List.take_set]
        have hln : (setK l9 ki q.2).length = n9 := by rw [setK, List.length_set, HN9.out]
        show RepN w4 _ (.mk 4 b (setK l9 ki q.2)) _ _
        rw [RepN, hln]
        refine ⟨(HBY.out.keep (K24.mono fun j hj => ⟨fun h => (FB.out j hj).2.1 (G2.out j h), (FB.out j hj).2.2⟩)).mono fun j _ hj => .inl (FB.out j hj).1, _, ?_, hK⟩
        rw [htk]
        refine hblk4.slN ?_ ?_ RD1.out RD2.out ?_
        · rcases G9.out with h | h
          · exact .inl h
          · exact .inr (.inr h)
        · simp only [List.length_set]
          rw [RD3.out]
          have := RD1.out
          omega
        · rw [← htk]
          exact RepK.one hK
    · have HPUT : Fact (putP (s :: r) (.mk kd b l) x = (6, .mk kd b l)) := ⟨by rw [putP, if_pos (show (PNode.mk kd b l).kind ≠ 4 from hkd)]⟩
      go_enter Tryz.func200, Tryz.ntmps200
      go_wp2
      go_ret
      rw [HPUT.out]
      exact ⟨rfl, ((Keep.refl _ w).alloc _), fun h => absurd h (by simp)⟩
end Go.Proofs.YtddmbdigdnmfgaaGreatDoor

/- tree.Put at any trees, any way. -/
namespace Go.Proofs.YtddmbdigdnmfgaaGreatDoor
open Go.RowKit
set_option maxHeartbeats 2000000
set_option maxRecDepth 100000

noncomputable def putN (n : PNode) (s : ByteArray) (x : PNode) : Option PNode :=
  if rightP n = true ∧ rightP x = true then (match wayP s with
    | some l => if (putP (l.take 1000) n x).1 = 0 ∧ rightP (putP (l.take 1000) n x).2 = true then some (putP (l.take 1000) n x).2 else none
    | none => none) else none
theorem put164g (w : World) (G : Nat → Prop) (n x : PNode) (nv xv : Value) (s : ByteArray) (hn : NodeV w G n nv) (hx : NodeV w G x xv) (hs : s.size ≤ 1000000) : Calls Tryz.prog 164 #[nv, .string s, xv] w (NodeOr w (putN n s x)) := by
  obtain ⟨A, c, B, d, rfl, hnr⟩ := hn
  obtain ⟨A', c', B', d', rfl, hxr⟩ := hx
  obtain ⟨Wb, hwb⟩ : ∃ W, W = (((w.alloc (.cells #[.int .i64 n.kind, .slice A n.bytes.length c, .slice B n.kids.length d] 58)).alloc (.cells #[.int .i64 x.kind, .slice A' x.bytes.length c', .slice B' x.kids.length d'] 58)).alloc (.cells #[.int .i64 0, .slice none 0 0, .slice none 0 0] 58)) := ⟨_, rfl⟩
  have KB : Fact (Keep All w Wb) := ⟨hwb ▸ (((Keep.refl _ w).alloc _).alloc _).alloc _⟩
  have B3 : Fact (Blk Wb w.heap.size [.int .i64 n.kind, .slice A n.bytes.length c, .slice B n.kids.length d] 58) := ⟨hwb ▸ ((Blk.new w [.int .i64 n.kind, .slice A n.bytes.length c, .slice B n.kids.length d] 58).alloc (.cells #[.int .i64 x.kind, .slice A' x.bytes.length c', .slice B' x.kids.length d'] 58)).alloc (.cells #[.int .i64 0, .slice none 0 0, .slice none 0 0] 58)⟩
  have b5 := (Blk.new (w.alloc (.cells #[.int .i64 n.kind, .slice A n.bytes.length c, .slice B n.kids.length d] 58)) [.int .i64 x.kind, .slice A' x.bytes.length c', .slice B' x.kids.length d'] 58).alloc (.cells #[.int .i64 0, .slice none 0 0, .slice none 0 0] 58)
  have b6 := Blk.new ((w.alloc (.cells #[.int .i64 n.kind, .slice A n.bytes.length c, .slice B n.kids.length d] 58)).alloc (.cells #[.int .i64 x.kind, .slice A' x.bytes.length c', .slice B' x.kids.length d'] 58)) [.int .i64 0, .slice none 0 0, .slice none 0 0] 58
  simp only [World.size_alloc] at b5 b6
  have B5 : Fact (Blk Wb (w.heap.size + 1) [.int .i64 x.kind, .slice A' x.bytes.length c', .slice B' x.kids.length d'] 58) := ⟨hwb ▸ b5⟩
  have B6 : Fact (Blk Wb (w.heap.size + 1 + 1) [.int .i64 0, .slice none 0 0, .slice none 0 0] 58) := ⟨hwb ▸ b6⟩
  have HWB := Fact.mk hwb
  clear b5 b6 hwb
  obtain ⟨qn, hqn⟩ : ∃ q, q = rightP n := ⟨_, rfl⟩
  obtain ⟨qx, hqx⟩ : ∃ q, q = rightP x := ⟨_, rfl⟩
  have HNV : Fact (NodeV w G n (.agg #[.int .i64 n.kind, .slice A n.bytes.length c, .slice B n.kids.length d])) := ⟨⟨A, c, B, d, rfl, hnr⟩⟩
  have HXV : Fact (NodeV w G x (.agg #[.int .i64 x.kind, .slice A' x.bytes.length c', .slice B' x.kids.length d'])) := ⟨⟨A', c', B', d', rfl, hxr⟩⟩
  have C29n : Fact (∀ w1, Keep All Wb w1 → Calls Tryz.prog 29 #[.agg #[.int .i64 n.kind, .slice A n.bytes.length c, .slice B n.kids.length d]] w1 fun e w' => e = .returned (.bool qn) ∧ Keep All w1 w') := ⟨fun w1 hk => hqn ▸ right29g w1 G n _ (HNV.out.keep (KB.out.trans hk).all)⟩
  have C29x : Fact (∀ w1, Keep All Wb w1 → Calls Tryz.prog 29 #[.agg #[.int .i64 x.kind, .slice A' x.bytes.length c', .slice B' x.kids.length d']] w1 fun e w' => e = .returned (.bool qx) ∧ Keep All w1 w') := ⟨fun w1 hk => hqx ▸ right29g w1 G x _ (HXV.out.keep (KB.out.trans hk).all)⟩
  have HC198 := Fact.mk (fun w' => way198g w' s hs)
  have HQN := Fact.mk hqn
  have HQX := Fact.mk hqx
  have KW : Fact (Keep All Wb Wb) := ⟨Keep.refl _ _⟩
  clear hnr hxr hqn hqx hs
  have hne1 : w.heap.size + 1 ≠ w.heap.size := by omega
  have hne2 : w.heap.size + 1 + 1 ≠ w.heap.size := by omega
  have bn := B3.out.keep KW.out trivial; have x0 := bn.cell 0 _ rfl; have x1 := bn.cell 1 _ rfl; have x2 := bn.cell 2 _ rfl; clear bn; have bn := B5.out.keep KW.out trivial; have z0 := bn.cell 0 _ rfl; have z1 := bn.cell 1 _ rfl; have z2 := bn.cell 2 _ rfl; clear bn; have b6 := B6.out.keep KW.out trivial; have D6 := Fact.mk b6; have p0 := b6.cell 0 _ rfl; have p1 := b6.cell 1 _ rfl; have p2 := b6.cell 2 _ rfl; have q0 := b6.free 0; have q1 := b6.free 1; have q2 := b6.free 2; clear b6
  go_enter Tryz.func164, Tryz.ntmps164
  go_upto_region 1 with (fail)
  rw [← HWB.out]
  clear HWB
  cases qn with
  | false =>
    have HF : Fact (putN n s x = none) := ⟨by rw [putN, if_neg (fun h => by rw [← HQN.out] at h; cases h.1)]⟩
    go_wp2_with (first
  | (go_at_call 29; refine (C29n.out _ KW.out).mono ?_; clear C29n; rintro e v ⟨rfl, hk⟩; replace KW := Fact.mk (KW.out.trans hk); have bn := B3.out.keep KW.out trivial; have x0 := bn.cell 0 _ rfl; have x1 := bn.cell 1 _ rfl; have x2 := bn.cell 2 _ rfl; clear bn; have bn := B5.out.keep KW.out trivial; have z0 := bn.cell 0 _ rfl; have z1 := bn.cell 1 _ rfl; have z2 := bn.cell 2 _ rfl; clear bn; have b6 := B6.out.keep KW.out trivial; have D6 := Fact.mk b6; have p0 := b6.cell 0 _ rfl; have p1 := b6.cell 1 _ rfl; have p2 := b6.cell 2 _ rfl; have q0 := b6.free 0; have q1 := b6.free 1; have q2 := b6.free 2; clear b6; clear hk))
    refine bodyPost_ret (results_58_tmp rfl _ _ (w.heap.size + 1 + 1) _ _ _ rfl (D6.out.set3 _ _ _)) rfl ?_
    refine ⟨?_, (KB.out.trans KW.out).set3 _ (.inl (by omega)) _ _ _⟩
    rw [HF.out]
    exact ⟨2, by decide, rfl⟩
  | true =>
    cases qx with
    | false =>
      have HF : Fact (putN n s x = none) := ⟨by rw [putN, if_neg (fun h => by rw [← HQX.out] at h; cases h.2)]⟩
      go_wp2_with (first
  | (go_at_call 29; refine (C29n.out _ KW.out).mono ?_; clear C29n; rintro e v ⟨rfl, hk⟩; replace KW := Fact.mk (KW.out.trans hk); have bn := B3.out.keep KW.out trivial; have x0 := bn.cell 0 _ rfl; have x1 := bn.cell 1 _ rfl; have x2 := bn.cell 2 _ rfl; clear bn; have bn := B5.out.keep KW.out trivial; have z0 := bn.cell 0 _ rfl; have z1 := bn.cell 1 _ rfl; have z2 := bn.cell 2 _ rfl; clear bn; have b6 := B6.out.keep KW.out trivial; have D6 := Fact.mk b6; have p0 := b6.cell 0 _ rfl; have p1 := b6.cell 1 _ rfl; have p2 := b6.cell 2 _ rfl; have q0 := b6.free 0; have q1 := b6.free 1; have q2 := b6.free 2; clear b6; clear hk)
  | (go_at_call 29; go_must (refine (C29x.out _ KW.out).mono ?_); rintro e v ⟨rfl, hk⟩; replace KW := Fact.mk (KW.out.trans hk); have bn := B3.out.keep KW.out trivial; have x0 := bn.cell 0 _ rfl; have x1 := bn.cell 1 _ rfl; have x2 := bn.cell 2 _ rfl; clear bn; have bn := B5.out.keep KW.out trivial; have z0 := bn.cell 0 _ rfl; have z1 := bn.cell 1 _ rfl; have z2 := bn.cell 2 _ rfl; clear bn; have b6 := B6.out.keep KW.out trivial; have D6 := Fact.mk b6; have p0 := b6.cell 0 _ rfl; have p1 := b6.cell 1 _ rfl; have p2 := b6.cell 2 _ rfl; have q0 := b6.free 0; have q1 := b6.free 1; have q2 := b6.free 2; clear b6; clear hk))
      refine bodyPost_ret (results_58_tmp rfl _ _ (w.heap.size + 1 + 1) _ _ _ rfl (D6.out.set3 _ _ _)) rfl ?_
      refine ⟨?_, (KB.out.trans KW.out).set3 _ (.inl (by omega)) _ _ _⟩
      rw [HF.out]
      exact ⟨2, by decide, rfl⟩
    | true =>
      rcases hwp : wayP s with _ | l
      · have HF : Fact (putN n s x = none) := ⟨by rw [putN, if_pos ⟨HQN.out.symm, HQX.out.symm⟩, hwp]⟩
        have HWP := Fact.mk hwp
        clear hwp
        go_wp2_with (first
  | (go_at_call 29; refine (C29n.out _ KW.out).mono ?_; clear C29n; rintro e v ⟨rfl, hk⟩; replace KW := Fact.mk (KW.out.trans hk); have bn := B3.out.keep KW.out trivial; have x0 := bn.cell 0 _ rfl; have x1 := bn.cell 1 _ rfl; have x2 := bn.cell 2 _ rfl; clear bn; have bn := B5.out.keep KW.out trivial; have z0 := bn.cell 0 _ rfl; have z1 := bn.cell 1 _ rfl; have z2 := bn.cell 2 _ rfl; clear bn; have b6 := B6.out.keep KW.out trivial; have D6 := Fact.mk b6; have p0 := b6.cell 0 _ rfl; have p1 := b6.cell 1 _ rfl; have p2 := b6.cell 2 _ rfl; have q0 := b6.free 0; have q1 := b6.free 1; have q2 := b6.free 2; clear b6; clear hk)
  | (go_at_call 29; go_must (refine (C29x.out _ KW.out).mono ?_); rintro e v ⟨rfl, hk⟩; replace KW := Fact.mk (KW.out.trans hk); have bn := B3.out.keep KW.out trivial; have x0 := bn.cell 0 _ rfl; have x1 := bn.cell 1 _ rfl; have x2 := bn.cell 2 _ rfl; clear bn; have bn := B5.out.keep KW.out trivial; have z0 := bn.cell 0 _ rfl; have z1 := bn.cell 1 _ rfl; have z2 := bn.cell 2 _ rfl; clear bn; have b6 := B6.out.keep KW.out trivial; have D6 := Fact.mk b6; have p0 := b6.cell 0 _ rfl; have p1 := b6.cell 1 _ rfl; have p2 := b6.cell 2 _ rfl; have q0 := b6.free 0; have q1 := b6.free 1; have q2 := b6.free 2; clear b6; clear hk)
  | (go_at_call 198; go_must (refine (HC198.out _).mono ?_); rintro e v ⟨hp, hk⟩; rw [HWP.out] at hp; subst hp; replace KW := Fact.mk (KW.out.trans hk); have bn := B3.out.keep KW.out trivial; have x0 := bn.cell 0 _ rfl; have x1 := bn.cell 1 _ rfl; have x2 := bn.cell 2 _ rfl; clear bn; have bn := B5.out.keep KW.out trivial; have z0 := bn.cell 0 _ rfl; have z1 := bn.cell 1 _ rfl; have z2 := bn.cell 2 _ rfl; clear bn; have b6 := B6.out.keep KW.out trivial; have D6 := Fact.mk b6; have p0 := b6.cell 0 _ rfl; have p1 := b6.cell 1 _ rfl; have p2 := b6.cell 2 _ rfl; have q0 := b6.free 0; have q1 := b6.free 1; have q2 := b6.free 2; clear b6; clear hk))
        refine bodyPost_ret (results_58_tmp rfl _ _ (w.heap.size + 1 + 1) _ _ _ rfl (D6.out.set3 _ _ _)) rfl ?_
        refine ⟨?_, (KB.out.trans KW.out).set3 _ (.inl (by omega)) _ _ _⟩
        rw [HF.out]
        exact ⟨4, by decide, rfl⟩
      · have HF : Fact (putN n s x = if (putP (l.take 1000) n x).1 = 0 ∧ rightP (putP (l.take 1000) n x).2 = true then some (putP (l.take 1000) n x).2 else none) := ⟨by rw [putN, if_pos ⟨HQN.out.symm, HQX.out.symm⟩, hwp]⟩
        have HWP := Fact.mk hwp
        have HSN := Fact.mk (rightP_small HQN.out.symm)
        have HSX := Fact.mk (rightP_small HQX.out.symm)
        clear hwp
        go_upto_region 6 with (first
  | (go_at_call 29; refine (C29n.out _ KW.out).mono ?_; clear C29n; rintro e v ⟨rfl, hk⟩; replace KW := Fact.mk (KW.out.trans hk); have bn := B3.out.keep KW.out trivial; have x0 := bn.cell 0 _ rfl; have x1 := bn.cell 1 _ rfl; have x2 := bn.cell 2 _ rfl; clear bn; have bn := B5.out.keep KW.out trivial; have z0 := bn.cell 0 _ rfl; have z1 := bn.cell 1 _ rfl; have z2 := bn.cell 2 _ rfl; clear bn; have b6 := B6.out.keep KW.out trivial; have D6 := Fact.mk b6; have p0 := b6.cell 0 _ rfl; have p1 := b6.cell 1 _ rfl; have p2 := b6.cell 2 _ rfl; have q0 := b6.free 0; have q1 := b6.free 1; have q2 := b6.free 2; clear b6; clear hk)
  | (go_at_call 29; go_must (refine (C29x.out _ KW.out).mono ?_); rintro e v ⟨rfl, hk⟩; replace KW := Fact.mk (KW.out.trans hk); have bn := B3.out.keep KW.out trivial; have x0 := bn.cell 0 _ rfl; have x1 := bn.cell 1 _ rfl; have x2 := bn.cell 2 _ rfl; clear bn; have bn := B5.out.keep KW.out trivial; have z0 := bn.cell 0 _ rfl; have z1 := bn.cell 1 _ rfl; have z2 := bn.cell 2 _ rfl; clear bn; have b6 := B6.out.keep KW.out trivial; have D6 := Fact.mk b6; have p0 := b6.cell 0 _ rfl; have p1 := b6.cell 1 _ rfl; have p2 := b6.cell 2 _ rfl; have q0 := b6.free 0; have q1 := b6.free 1; have q2 := b6.free 2; clear b6; clear hk)
  | (go_at_call 198; go_must (refine (HC198.out _).mono ?_); rintro e v ⟨hp, hk⟩; rw [HWP.out] at hp; obtain ⟨Aw, cw, he, hsl⟩ := hp; subst he; have HSL := Fact.mk (hsl.mono (H := fun i => i < v.heap.size) fun i hi _ => hi); have hvw := Fact.mk (rfl : v.heap.size = v.heap.size); replace KW := Fact.mk (KW.out.trans hk); have KWay := KW; have BWay := Fact.mk (B6.out.keep KW.out trivial).lt; have bn := B3.out.keep KW.out trivial; have x0 := bn.cell 0 _ rfl; have x1 := bn.cell 1 _ rfl; have x2 := bn.cell 2 _ rfl; clear bn; have bn := B5.out.keep KW.out trivial; have z0 := bn.cell 0 _ rfl; have z1 := bn.cell 1 _ rfl; have z2 := bn.cell 2 _ rfl; clear bn; have b6 := B6.out.keep KW.out trivial; have D6 := Fact.mk b6; have p0 := b6.cell 0 _ rfl; have p1 := b6.cell 1 _ rfl; have p2 := b6.cell 2 _ rfl; have q0 := b6.free 0; have q1 := b6.free 1; have q2 := b6.free 2; clear b6; clear hk hsl))
        have COwn : Fact (Calls Tryz.prog 199 #[.agg #[.int .i64 n.kind, .slice A n.bytes.length c, .slice B n.kids.length d]] v (OwnAll v n)) := ⟨ownAt n v G _ (HNV.out.keep (KB.out.trans KW.out).all) HSN.out⟩
        go_upto_region 7 with (go_at_call 199; go_must (refine (COwn.out).mono ?_); rintro e v2 ⟨A1, c1, B1, d1, rfl, ho, hk⟩; have HO := Fact.mk ho; have KO := Fact.mk hk; replace KW := Fact.mk (KW.out.trans hk); clear ho hk)
        obtain ⟨W, hW⟩ : ∃ X, X = v2.alloc (.cells #[.int .i64 n.kind, .slice A1 n.bytes.length c1, .slice B1 n.kids.length d1] 58) := ⟨_, rfl⟩
        have KW2 : Fact (Keep All v2 W) := ⟨hW ▸ (Keep.refl _ v2).alloc _⟩
        have WB : Fact (Blk W v2.heap.size [.int .i64 n.kind, .slice A1 n.bytes.length c1, .slice B1 n.kids.length d1] 58) := ⟨hW ▸ Blk.new v2 _ 58⟩
        have WS : Fact (W.heap.size = v2.heap.size + 1) := ⟨by rw [hW]; simp⟩
        rw [← hW]
        clear hW x0 x1 x2 z0 z1 z2 p0 p1 p2 q0 q1 q2 D6 hvw hne1 hne2
        have hlc : l.length ≤ cw ∧ cw ≤ 9223372036854775807 := by
          obtain ⟨-, A0, c0, e0, -, h1, h2, -⟩ := HSL.out
          simp only [Value.slice.injEq] at e0
          obtain ⟨-, -, rfl⟩ := e0
          unfold maxLen at h2
          omega
        obtain ⟨hlc1, hlc2⟩ := hlc
        obtain ⟨k, hk⟩ : ∃ k, k = min l.length 1000 := ⟨_, rfl⟩
        have hmin : min (l.length : Int) 1000 = (k : Int) := by omega
        have hk0 : (0 : Int) ≤ k := by omega
        have hkc : (k : Int) ≤ cw := by omega
        have hll : (l.length : Int) ≤ 9223372036854775807 := by omega
        obtain ⟨l', hl'⟩ : ∃ q, q = l.take 1000 := ⟨_, rfl⟩
        have hlk : l'.length = k := by rw [hl', List.length_take, hk]; omega
        have HLK := Fact.mk hlk
        have SWy : Fact (Sl v (fun i => i < v.heap.size) 1 (.slice Aw k cw) k (l'.map Value.string)) := ⟨by
          have := HSL.out.take (k := k) (by omega)
          rw [Nat.mul_one, ← List.map_take] at this
          have e : l.take k = l' := by
            rw [hl', hk]
            rcases Nat.le_total l.length 1000 with h | h
            · rw [Nat.min_eq_left h, List.take_length, List.take_of_length_le h]
            · rw [Nat.min_eq_right h]
          rw [e] at this
          exact this⟩
        obtain ⟨r, hr⟩ : ∃ q, q = putP l' n x := ⟨_, rfl⟩
        rw [← hl', ← hr] at HF
        have HR := Fact.mk hr
        have b5 := ((B5.out.keep KW.out trivial).keep KW2.out trivial)
        have y0 := b5.cell 0 _ rfl
        have y1 := b5.cell 1 _ rfl
        have y2 := b5.cell 2 _ rfl
        have BB5 := Fact.mk b5
        have COx : Fact (Calls Tryz.prog 199 #[.agg #[.int .i64 x.kind, .slice A' x.bytes.length c', .slice B' x.kids.length d']] W.drew (OwnAll W.drew x)) := ⟨ownAt x W.drew G _ (HXV.out.keep (((KB.out.trans KW.out).trans KW2.out).drew).all) HSX.out⟩
        have vs : v.heap.size ≤ v2.heap.size := KO.out.size
        have hbw : w.heap.size + 1 + 1 < v.heap.size := BWay.out
        clear hl' hr hk hlk b5
        refine wp_region_T 8 (fun w' => w'.cell? ⟨w.heap.size + 1, 0, none⟩ = some (.int .i64 x.kind) ∧ w'.cell? ⟨w.heap.size + 1, 1, none⟩ = some (.slice A' x.bytes.length c') ∧ w'.cell? ⟨w.heap.size + 1, 2, none⟩ = some (.slice B' x.kids.length d')) (by kernel_rfl) (by go_keep) (fun hHeld => ?_)
        refine takeT (i := 0) (v := ?_) rfl (by kernel_rfl) (by kernel_rfl) (by kernel_rfl) (by kernel_rfl) (fun _ _ _ h => h) rfl ?_ (by assumption) ?_
        rotate_left
        · (intro w hSw; (try dsimp only at hSw); go_simp; try with_reducible rfl)
        try simp only [Act.put, List.setIfInBounds_toArray, List.set_cons_zero, List.set_cons_succ]
        refine takeT (i := 1) (v := ?_) rfl (by kernel_rfl) (by kernel_rfl) (by kernel_rfl) (by kernel_rfl) (fun _ _ _ h => h) rfl ?_ (by assumption) ?_
        rotate_left
        · (intro w hSw; (try dsimp only at hSw); go_simp; try with_reducible rfl)
        try simp only [Act.put, List.setIfInBounds_toArray, List.set_cons_zero, List.set_cons_succ]
        refine takeT (i := 2) (v := ?_) rfl (by kernel_rfl) (by kernel_rfl) (by kernel_rfl) (by kernel_rfl) (fun _ _ _ h => h) rfl ?_ (by assumption) ?_
        rotate_left
        · (intro w hSw; (try dsimp only at hSw); go_simp; try with_reducible rfl)
        try simp only [Act.put, List.setIfInBounds_toArray, List.set_cons_zero, List.set_cons_succ]
        refine takeT (i := 3) (v := ?_) rfl (by kernel_rfl) (by kernel_rfl) (by kernel_rfl) (by kernel_rfl) (fun _ _ _ h => h) rfl ?_ (by assumption) ?_
        rotate_left
        · (intro w hSw; (try dsimp only at hSw); go_simp; try with_reducible rfl)
        try simp only [Act.put, List.setIfInBounds_toArray, List.set_cons_zero, List.set_cons_succ]
        refine takeT (i := 4) (v := ?_) rfl (by kernel_rfl) (by kernel_rfl) (by kernel_rfl) (by kernel_rfl) (fun _ _ _ h => h) rfl ?_ (by assumption) ?_
        rotate_left
        · (intro w hSw; (try dsimp only at hSw); go_simp; try with_reducible rfl)
        try simp only [Act.put, List.setIfInBounds_toArray, List.set_cons_zero, List.set_cons_succ]
        refine takeT (i := 5) (v := ?_) rfl (by kernel_rfl) (by kernel_rfl) (by kernel_rfl) (by kernel_rfl) (fun _ _ _ h => h) rfl ?_ (by assumption) ?_
        rotate_left
        · (intro w hSw; (try dsimp only at hSw); go_simp; try with_reducible rfl)
        try simp only [Act.put, List.setIfInBounds_toArray, List.set_cons_zero, List.set_cons_succ]
        refine nextT (i := 6) (by kernel_rfl) rfl (fun K hK => ?_)
        go_simp
        refine (COx.out).mono ?_
        rintro e v3 ⟨A3, c3, B3', d3, rfl, ho3, hk3⟩
        have HO3 := Fact.mk (ho3.rep.1.mono (H := fun i => W.heap.size ≤ i) fun i _ hi => hi.1)
        have K3 := Fact.mk (KW2.out.trans ((Keep.refl _ W).drew.trans hk3))
        have WB3 := Fact.mk (WB.out.drew.keep hk3 trivial)
        have y0' := hk3.cell (p := ⟨w.heap.size + 1, 0, none⟩) trivial y0
        have y1' := hk3.cell (p := ⟨w.heap.size + 1, 1, none⟩) trivial y1
        have y2' := hk3.cell (p := ⟨w.heap.size + 1, 2, none⟩) trivial y2
        clear ho3 hk3 hHeld y0 y1 y2 COx
        refine hK.out _ _ (by exact ⟨y0', y1', y2'⟩) (fun hHeld => ?_)
        clear hK K
        try simp only [Act.put, List.setIfInBounds_toArray, List.set_cons_zero, List.set_cons_succ]
        refine nextT (i := 7) (by kernel_rfl) rfl (fun K hK => ?_)
        go_simp
        have CP : Fact (Calls Tryz.prog 200 #[.pointer (some ⟨v2.heap.size, 0, none⟩), .slice Aw k cw, .agg #[.int .i64 x.kind, .slice A3 x.bytes.length c3, .slice B3' x.kids.length d3]] v3 (PutOut v3 (fun i => v.heap.size ≤ i ∧ i < v2.heap.size) (fun i => W.heap.size ≤ i) v2.heap.size 0 [.int .i64 n.kind, .slice A1 n.bytes.length c1, .slice B1 n.kids.length d1] 58 r)) := ⟨by
          have hws := WS.out
          have hv3 : v2.heap.size < v3.heap.size := WB3.out.lt
          have h := put200g l' v3 v.heap.size (fun i => v.heap.size ≤ i ∧ i < v2.heap.size) (fun i => W.heap.size ≤ i) (fun i => i < v.heap.size) v2.heap.size 0 [.int .i64 n.kind, .slice A1 n.bytes.length c1, .slice B1 n.kids.length d1] 58 n x _ _ (.agg #[.int .i64 x.kind, .slice A3 x.bytes.length c3, .slice B3' x.kids.length d3]) Aw cw WB3.out rfl rfl rfl (HO.out.keep K3.out fun _ _ => trivial) HSN.out (by omega) (by omega) (fun j hj => by omega) ⟨A3, c3, B3', d3, rfl, HO3.out⟩ (fun j hj => by omega) (by rw [HLK.out]; exact SWy.out.keep (KO.out.trans K3.out).all) (fun j hj => by omega)
          rw [HLK.out, ← HR.out] at h
          exact h⟩
        refine (CP.out).mono ?_
        rintro e v4 ⟨rfl, hk4, hp4⟩
        have HP4 := Fact.mk hp4
        have K4 := Fact.mk hk4
        have sz3 : W.heap.size ≤ v3.heap.size := by have := WS.out; have := WB3.out.lt; omega
        have y0 := hk4.cell (p := ⟨w.heap.size + 1, 0, none⟩) (by show ¬ _ ∧ _; simp only; omega) y0'
        have y1 := hk4.cell (p := ⟨w.heap.size + 1, 1, none⟩) (by show ¬ _ ∧ _; simp only; omega) y1'
        have y2 := hk4.cell (p := ⟨w.heap.size + 1, 2, none⟩) (by show ¬ _ ∧ _; simp only; omega) y2'
        clear hk4 hp4 hHeld y0' y1' y2' CP
        refine hK.out _ _ (by exact ⟨y0, y1, y2⟩) (fun hHeld => ?_)
        clear hK K
        try simp only [Act.put, List.setIfInBounds_toArray, List.set_cons_zero, List.set_cons_succ]
        refine lastT (by kernel_rfl) (by kernel_rfl) rfl (fun K hK => ?_)
        go_simp
        refine hK.out _ _ ?_
        clear hK K hHeld y0 y1 y2
        try simp only [Act.put, List.setIfInBounds_toArray, List.set_cons_zero, List.set_cons_succ]
        have KA : Fact (Keep All w v4) := ⟨((KB.out.trans KW.out).trans K3.out).then_ K4.out fun i hi _ => by have := WS.out; omega⟩
        have D4 : Fact (Blk v4 (w.heap.size + 1 + 1) [.int .i64 0, .slice none 0 0, .slice none 0 0] 58) := ⟨((B6.out.keep KW.out trivial).keep K3.out trivial).keep K4.out (by omega)⟩
        obtain ⟨r1, r2⟩ := r
        dsimp only at HF HP4
        by_cases hr1 : r1 = 0
        · subst hr1
          obtain ⟨vb, vk, hb4, hr4⟩ := HP4.out rfl
          obtain ⟨Ab, cb, Bk, dk, rfl, rfl⟩ := hr4.forms
          have HB4 := Fact.mk (show Blk v4 v2.heap.size [.int .i64 r2.kind, .slice Ab r2.bytes.length cb, .slice Bk r2.kids.length dk] 58 from hb4)
          have HR4 := Fact.mk (hr4.mono (H := fun i => v.heap.size ≤ i) fun j _ hj => by have := WS.out; omega)
          have n0 := HB4.out.cell 0 _ rfl
          have n1 := HB4.out.cell 1 _ rfl
          have n2 := HB4.out.cell 2 _ rfl
          obtain ⟨qr, hqr⟩ : ∃ q, q = rightP r2 := ⟨_, rfl⟩
          have CR : Fact (Calls Tryz.prog 29 #[.agg #[.int .i64 r2.kind, .slice Ab r2.bytes.length cb, .slice Bk r2.kids.length dk]] v4 fun e w' => e = .returned (.bool qr) ∧ Keep All v4 w') := ⟨hqr ▸ right29g v4 _ r2 _ ⟨Ab, cb, Bk, dk, rfl, HR4.out⟩⟩
          have HQR := Fact.mk hqr
          clear hb4 hr4 hqr
          cases qr with
          | false =>
            have HF2 : Fact (putN n s x = none) := ⟨by rw [HF.out, if_neg (fun h => by rw [← HQR.out] at h; cases h.2)]⟩
            go_wp2_with (go_at_call 29; go_must (refine (CR.out).mono ?_); rintro e v5 ⟨rfl, hk⟩; have K5 := Fact.mk hk; have b6 := D4.out.keep hk trivial; have D6 := Fact.mk b6; have p0 := b6.cell 0 _ rfl; have p1 := b6.cell 1 _ rfl; have p2 := b6.cell 2 _ rfl; have q0 := b6.free 0; have q1 := b6.free 1; have q2 := b6.free 2; clear b6 hk)
            refine bodyPost_ret (results_58_tmp rfl _ _ (w.heap.size + 1 + 1) _ _ _ rfl (D6.out.set3 _ _ _)) rfl ?_
            refine ⟨?_, (KA.out.trans K5.out).set3 _ (.inl (by omega)) _ _ _⟩
            rw [HF2.out]
            exact ⟨3, by decide, rfl⟩
          | true =>
            have HF2 : Fact (putN n s x = some r2) := ⟨by rw [HF.out, if_pos ⟨rfl, HQR.out.symm⟩]⟩
            have hvn : v2.heap.size ≠ w.heap.size + 1 + 1 := by omega
            go_wp2_with (go_at_call 29; go_must (refine (CR.out).mono ?_); rintro e v5 ⟨rfl, hk⟩; have K5 := Fact.mk hk; have b6 := D4.out.keep hk trivial; have D6 := Fact.mk b6; have p0 := b6.cell 0 _ rfl; have p1 := b6.cell 1 _ rfl; have p2 := b6.cell 2 _ rfl; have q0 := b6.free 0; have q1 := b6.free 1; have q2 := b6.free 2; have bm := HB4.out.keep hk trivial; have n0 := bm.cell 0 _ rfl; have n1 := bm.cell 1 _ rfl; have n2 := bm.cell 2 _ rfl; clear b6 hk bm)
            refine bodyPost_ret (results_58_tmp rfl _ _ (w.heap.size + 1 + 1) _ _ _ rfl (D6.out.set3 _ _ _)) rfl ?_
            have hks : Keep (fun i => i ≠ w.heap.size + 1 + 1) v5 (set3 v5 (w.heap.size + 1 + 1) (.int .i64 r2.kind) (.slice Ab r2.bytes.length cb) (.slice Bk r2.kids.length dk)) := (Keep.refl _ _).set3 _ (.inr fun h => h rfl) _ _ _
            refine ⟨?_, (KA.out.trans K5.out).set3 _ (.inl (by omega)) _ _ _⟩
            rw [HF2.out]
            exact ⟨_, rfl, Ab, cb, Bk, dk, rfl, ((HR4.out.keep K5.out.all).keep (hks.mono fun i hi => by omega)).mono fun i _ hi => by omega⟩
        · have HF2 : Fact (putN n s x = none) := ⟨by rw [HF.out, if_neg (fun h => hr1 h.1)]⟩
          have b6 := D4.out
          have p0 := b6.cell 0 _ rfl
          have p1 := b6.cell 1 _ rfl
          have p2 := b6.cell 2 _ rfl
          have q0 := b6.free 0
          have q1 := b6.free 1
          have q2 := b6.free 2
          have hb0 : (r1 == 0) = false := by simpa using hr1
          clear b6
          go_wp2
          refine bodyPost_ret (results_58_tmp rfl _ _ (w.heap.size + 1 + 1) _ _ _ rfl (D4.out.set3 _ _ _)) rfl ?_
          refine ⟨?_, KA.out.set3 _ (.inl (by omega)) _ _ _⟩
          rw [HF2.out]
          exact ⟨r1, hr1, rfl⟩
end Go.Proofs.YtddmbdigdnmfgaaGreatDoor
