/- Rows of kids that are written in place: copy, append with room, clear; slices.Delete of one kid. -/
import Derived.Laws.CopyRow
import Derived.Laws.CopyOwn
import Derived.Test.YtddmbdigdnmfgaaGreatDoorQGFindT
import Derived.Test.YtddmbdigdnmfgaaGreatDoorQTailP
namespace Go.Proofs.YtddmbdigdnmfgaaGreatDoor
open Go.RowKit
set_option maxHeartbeats 1000000
set_option maxRecDepth 100000

section
variable {P : Program} {w : World} {g : Nat} {cs : List Value} {T : TypeId}
theorem Blk.setRow (h : Blk w g cs T) (vs : List Value) : Blk (w.setRow g vs.toArray) g vs T := setRow_heap w g _ _ T _ h
theorem Blk.farRow {b : Nat} {c : List Value} {U : TypeId} (h : Blk w b c U) (hb : b ≠ g) (vs : Array Value) : Blk (w.setRow g vs) b c U := (setRow_other w g b vs hb).trans h
theorem Keep.setRow {G : Nat → Prop} {a : World} (h : Keep G a w) (hg : a.heap.size ≤ g ∨ ¬ G g) (vs : Array Value) : Keep G a (w.setRow g vs) :=
  ⟨h.os, h.tape, h.output, by simpa using h.size, fun i hi hG => by
    rw [setRow_other w g i vs (by rcases hg with hg | hg; · omega
                                  · intro e; exact hg (e ▸ hG))]
    exact h.block i hi hG⟩
theorem own_blk {base e sz n : Nat} {v : Value} {xs : List Value} (h : w.ownsRow base e sz v n xs) (hn : 0 < n) : ∃ g cap cur, v = .slice (some ⟨g, 0, none⟩) n cap ∧ base ≤ g ∧ Blk w g cur e ∧ n ≤ cap ∧ cap ≤ maxLen ∧ cur.length = cap * sz ∧ cur.take (n * sz) = xs := by
  rcases h.2 with ⟨-, h0⟩ | ⟨g, cap, cur, hv, hb, hh, h1, h2, h3, h4⟩
  · omega
  · exact ⟨g, cap, cur.toList, hv, hb, by simpa [Blk] using hh, h1, h2, by simpa using h3, h4⟩
theorem blk_owns {base e sz n cap : Nat} {cur : List Value} (h : Blk w g cur e) (hb : base ≤ g) (h1 : n ≤ cap) (h2 : cap ≤ maxLen) (h3 : cur.length = cap * sz) : w.ownsRow base e sz (.slice (some ⟨g, 0, none⟩) n cap) n (cur.take (n * sz)) :=
  ⟨by rw [List.length_take, h3]; exact Nat.min_eq_left (Nat.mul_le_mul_right sz h1), .inr ⟨g, cap, cur.toArray, rfl, hb, h, h1, h2, by simpa using h3, by simp⟩⟩

/-- append with room, into a row known whole. -/
theorem wp_appR {o : Oper} {a : Act} {K : Act → World → Prop} {Q : Exit → Act → World → Prop} (s x : Operand) (t e : TypeId) (sz bytes n cap m xc : Nat) (xa : Addr) (news : List Value) (hT : SlTy P t e sz bytes)
    (ho : o.op = .call { callee := .builtin .append, args := #[s, x], argTypes := #[t, t] }) (hs : a.eval s = .slice (some ⟨g, 0, none⟩) n cap) (hx : a.eval x = .slice (some xa) m xc)
    (hb : Blk w g cs e) (hl : news.length = m * sz) (hnews : ∀ j u, news[j]? = some u → w.cell? (xa.add j) = some u) (h1 : ∀ u ∈ news, u.oneCell' = true) (hroom : n + m ≤ cap) (hfit : n * sz + news.length ≤ cs.length)
    (h : K (a.put o.dst (.slice (some ⟨g, 0, none⟩) (n + m) cap)) (w.setRow g (cs.take (n * sz) ++ news ++ cs.drop (n * sz + news.length)).toArray)) : o.wp P a w K Q := by
  obtain ⟨ht, hsz, i, z, hi, hz, hs1, hs2, hzs⟩ := hT
  subst hs1
  have hrun := run_append_room (P := P) w t o.type e i ht hi g n cap cs.toArray hb xa m xc news hl hnews h1 hroom (by simpa using hfit)
  unfold Oper.wp
  simp [execOp, ho, resolve, invoke, builtin, hs, hx, hrun, Result.andThen]
  show K _ _
  simpa using h
/-- copy into a row known whole. -/
theorem run_copyR (dT sT ty e : TypeId) (sz bytes o dLen dCap sLen sCap : Nat) (a : Addr) (news : List Value) (hT : SlTy P dT e sz bytes)
    (hb : Blk w g cs e) (hn : news.length = Nat.min sLen dLen * sz) (hnews : ∀ j u, news[j]? = some u → w.cell? (a.add j) = some u) (h1 : ∀ u ∈ news, u.oneCell' = true) (hfit : o + news.length ≤ cs.length) :
    (Builtin.copy_ #[dT, sT] ty #[.slice (some ⟨g, o, none⟩) dLen dCap, .slice (some a) sLen sCap]).run P w = .ok (goInt (Nat.min sLen dLen)) (w.setRow g (cs.take o ++ news ++ cs.drop (o + news.length)).toArray) := by
  obtain ⟨ht, hsz, i, z, hi, hz, hs1, hs2, hzs⟩ := hT
  subst hs1
  have hl := run_loadCells_list (P := P) w a news hnews
  have hst := run_storeCells_at P g o e news 0 cs.toArray w hb (by simpa using hfit) h1
  rw [hn] at hl
  simp [Builtin.copy_, run_underlying ht, Builtin.lenOf, Builtin.firstCells, sizeOf, typeInfo, hi, hl, hst]
theorem wp_copyR {oo : Oper} {a : Act} {K : Act → World → Prop} {Q : Exit → Act → World → Prop} (d s : Operand) (dT sT e : TypeId) (sz bytes o dLen dCap sLen sCap : Nat) (sa : Addr) (news : List Value) (hT : SlTy P dT e sz bytes)
    (ho : oo.op = .call { callee := .builtin .copy, args := #[d, s], argTypes := #[dT, sT] }) (hd : a.eval d = .slice (some ⟨g, o, none⟩) dLen dCap) (hs : a.eval s = .slice (some sa) sLen sCap)
    (hb : Blk w g cs e) (hn : news.length = Nat.min sLen dLen * sz) (hnews : ∀ j u, news[j]? = some u → w.cell? (sa.add j) = some u) (h1 : ∀ u ∈ news, u.oneCell' = true) (hfit : o + news.length ≤ cs.length)
    (h : K (a.put oo.dst (goInt (Nat.min sLen dLen))) (w.setRow g (cs.take o ++ news ++ cs.drop (o + news.length)).toArray)) : oo.wp P a w K Q := by
  have hrun := run_copyR (P := P) dT sT oo.type e sz bytes o dLen dCap sLen sCap sa news hT hb hn hnews h1 hfit
  unfold Oper.wp
  simp [execOp, ho, resolve, invoke, builtin, hd, hs, hrun, Result.andThen]
  show K _ _
  simpa using h
theorem wpList_copyR {ops : Array Oper} {rest : List Oper} {oo : Oper} {a : Act} {Q : Exit → Act → World → Prop} (hgd : oo.guard = none) (d s : Operand) (dT sT e : TypeId) (sz bytes o dLen dCap sLen sCap : Nat) (sa : Addr) (news : List Value) (hT : SlTy P dT e sz bytes)
    (ho : oo.op = .call { callee := .builtin .copy, args := #[d, s], argTypes := #[dT, sT] }) (hd : a.eval d = .slice (some ⟨g, o, none⟩) dLen dCap) (hs : a.eval s = .slice (some sa) sLen sCap)
    (hb : Blk w g cs e) (hn : news.length = Nat.min sLen dLen * sz) (hnews : ∀ j u, news[j]? = some u → w.cell? (sa.add j) = some u) (h1 : ∀ u ∈ news, u.oneCell' = true) (hfit : o + news.length ≤ cs.length)
    (h : wpList P ops Q rest (a.put oo.dst (goInt (Nat.min sLen dLen))) (w.setRow g (cs.take o ++ news ++ cs.drop (o + news.length)).toArray)) : wpList P ops Q (oo :: rest) a w :=
  wpList_plain hgd fun _ hK => wp_copyR d s dT sT e sz bytes o dLen dCap sLen sCap sa news hT ho hd hs hb hn hnews h1 hfit (hK _ _ h)
/-- clear of one element of a row known whole. -/
theorem run_clearR (dT ty e : TypeId) (o k c : Nat) (hk : k = 1) (z : Value) (zs : List Value) (ht : P.underlying dT = some (.slice e)) (hz : ∀ w, (zeroValue e).run P w = .ok z w) (hzs : (Builtin.zeroCells z.cells 1).toList = zs)
    (hb : Blk w g cs e) (h1 : ∀ u ∈ zs, u.oneCell' = true) (hfit : o + zs.length ≤ cs.length) :
    (Builtin.clear_ #[dT] ty #[.slice (some ⟨g, o, none⟩) k c]).run P w = .ok (.tuple #[]) (w.setRow g (cs.take o ++ zs ++ cs.drop (o + zs.length)).toArray) := by
  subst hk
  have hst := run_storeCells_at P g o e zs 0 cs.toArray w hb (by simpa using hfit) h1
  have hst' := hst
  simp only [Nat.add_zero] at hst'
  simp [Builtin.clear_, run_underlying ht, hz, hzs, hst']
end
def zeroKid : List Value := [.string ⟨#[]⟩, .int .i64 0, .slice none 0 0, .slice none 0 0]
theorem zero71 (w : World) : (zeroValue 71).run Tryz.prog w = .ok (.agg #[.string ⟨#[]⟩, .int .i64 0, .slice none 0 0, .slice none 0 0]) w := by kernel_rfl
theorem zeroCells71 : (Builtin.zeroCells (Value.agg #[.string ⟨#[]⟩, .int .i64 0, .slice none 0 0, .slice none 0 0]).cells 1).toList = zeroKid := by kernel_rfl
/-- One kid less: in the row that it was in. -/
def Deleted (w : World) (base g n cap i : Nat) (xs : List Value) (e : Ending) (w' : World) : Prop :=
  e = .returned (.slice (some ⟨g, 0, none⟩) (n - 1) cap) ∧ w'.ownsRow base 71 4 (.slice (some ⟨g, 0, none⟩) (n - 1) cap) (n - 1) (xs.take (i * 4) ++ xs.drop ((i + 1) * 4)) ∧ Keep (fun j => j ≠ g) w w'
theorem del202 (w : World) (base g n cap i : Nat) (xs : List Value) (h : w.ownsRow base 71 4 (.slice (some ⟨g, 0, none⟩) n cap) n xs) (hi : i < n) (hn : n ≤ 1000) (h1 : ∀ u ∈ xs, u.oneCell' = true) :
    Calls Tryz.prog 202 #[.slice (some ⟨g, 0, none⟩) n cap, .int .i64 i, .int .i64 ((i : Int) + 1)] w (Deleted w base g n cap i xs) := by
  obtain ⟨g', cap', cur, e, hb, hblk, hc1, hc2, hcl, htk⟩ := own_blk h (by omega)
  simp only [Value.slice.injEq, Option.some.injEq, Addr.mk.injEq, and_true, true_and] at e
  obtain ⟨rfl, rfl⟩ := e
  have HBLK := Fact.mk hblk
  have HTK := Fact.mk htk
  have HCL := Fact.mk hcl
  have H1 := Fact.mk h1
  have hc9 : cap ≤ 9223372036854775807 := by unfold maxLen at hc2; omega
  have HC2 := Fact.mk hc2
  have hgl := hblk.lt
  have i0 : (0 : Int) ≤ i := by omega
  have i1 : (i : Int) + 1 ≤ n := by omega
  have i2 : (i : Int) ≤ cap := by omega
  have i3 : (i : Int) + 1 ≤ cap := by omega
  have i4 : (n : Int) ≤ cap := by omega
  have i5 : (i : Int) ≤ (i : Int) + 1 := by omega
  have i6 : (0 : Int) ≤ (i : Int) + 1 := by omega
  have hs1 : ∀ u ∈ cur.take (n * 4), u.oneCell' = true := fun u hu => h1 u (htk ▸ hu)
  have HS1 := Fact.mk hs1
  clear hs1
  have hne : ((i : Int) == (i : Int) + 1) = false := by simp; omega
  clear h hblk htk hcl h1 hc2
  by_cases hfull : cap = i + 1
  · obtain rfl : n = i + 1 := by omega
    obtain rfl : cap = i + 1 := hfull
    clear i1 i2 i3 i4 hc9
    have hc9 : (i : Int) + 1 ≤ 9223372036854775807 := by omega
    go_enter Tryz.func202, Tryz.ntmps202
    go_upto_region 5 with (fail)
    refine wp_region_T 7 (fun _ => True) (by kernel_rfl) trivial (fun hHeld => ?_)
    refine takeT (i := 0) (v := ?_) rfl (by kernel_rfl) (by kernel_rfl) (by kernel_rfl) (by kernel_rfl) (fun _ _ _ h => h) rfl ?_ (by assumption) ?_
    rotate_left
    · (intro w hSw; (try dsimp only at hSw); go_simp; try with_reducible rfl)
    try simp only [Act.put, List.setIfInBounds_toArray, List.set_cons_zero, List.set_cons_succ]
    refine takeT (i := 1) (v := ?_) rfl (by kernel_rfl) (by kernel_rfl) (by kernel_rfl) (by kernel_rfl) (fun _ _ _ h => h) rfl ?_ (by assumption) ?_
    rotate_left
    · (intro w hSw; (try dsimp only at hSw); go_simp; try with_reducible rfl)
    try simp only [Act.put, List.setIfInBounds_toArray, List.set_cons_zero, List.set_cons_succ]
    refine takeT (i := 2) (v := ?_) rfl (by kernel_rfl) (by kernel_rfl) (by kernel_rfl) (by kernel_rfl) (fun _ _ _ h => h) rfl ?_ (by assumption) ?_
    rotate_left
    · (intro w hSw; (try dsimp only at hSw); go_simp; try with_reducible rfl)
    try simp only [Act.put, List.setIfInBounds_toArray, List.set_cons_zero, List.set_cons_succ]
    refine takeT (i := 3) (v := ?_) rfl (by kernel_rfl) (by kernel_rfl) (by kernel_rfl) (by kernel_rfl) (fun _ _ _ h => h) rfl ?_ (by assumption) ?_
    rotate_left
    · (intro w hSw; (try dsimp only at hSw); go_simp; try with_reducible rfl)
    try simp only [Act.put, List.setIfInBounds_toArray, List.set_cons_zero, List.set_cons_succ]
    refine takeT (i := 4) (v := ?_) rfl (by kernel_rfl) (by kernel_rfl) (by kernel_rfl) (by kernel_rfl) (fun _ _ _ h => h) rfl ?_ (by assumption) ?_
    rotate_left
    · (intro w hSw; (try dsimp only at hSw); go_simp; try with_reducible rfl)
    try simp only [Act.put, List.setIfInBounds_toArray, List.set_cons_zero, List.set_cons_succ]
    refine takeT (i := 5) (v := ?_) rfl (by kernel_rfl) (by kernel_rfl) (by kernel_rfl) (by kernel_rfl) (fun _ _ _ h => h) rfl ?_ (by assumption) ?_
    rotate_left
    · (intro w hSw; (try dsimp only at hSw); go_simp; try with_reducible rfl)
    try simp only [Act.put, List.setIfInBounds_toArray, List.set_cons_zero, List.set_cons_succ]
    refine nextT (i := 6) (by kernel_rfl) rfl (fun K hK => ?_)
    rw [if_pos (show Region.wanted _ _ = true by simp [Region.wanted])]
    refine wp_appR (.tmp 22) (.tmp 25) 56 71 4 72 i (i + 1) 0 0 ⟨g, 0, none⟩ [] T56 rfl rfl rfl HBLK.out.drew rfl (fun j u hu => by simp at hu) (fun u hu => by cases hu) (by omega) (by simp [HCL.out]; omega) ?_
    simp only [List.length_nil, Nat.add_zero, List.append_nil, List.take_append_drop]
    obtain ⟨W, hW⟩ : ∃ W, W = w.drew.setRow g cur.toArray := ⟨_, rfl⟩
    have BW : Fact (Blk W g cur 71) := ⟨hW ▸ HBLK.out.drew.setRow cur⟩
    have KW : Fact (Keep (fun j => j ≠ g) w W) := ⟨hW ▸ (Keep.refl _ w).drew.setRow (.inr fun h => h rfl) _⟩
    rw [← hW]
    clear hW
    refine hK.out _ _ trivial (fun hHeld => ?_)
    clear hK K
    try simp only [Act.put, List.setIfInBounds_toArray, List.set_cons_zero, List.set_cons_succ]
    refine lastT (by kernel_rfl) (by kernel_rfl) rfl (fun K hK => ?_)
    go_simp
    refine hK.out _ _ ?_
    clear hK K
    try simp only [Act.put, List.setIfInBounds_toArray, List.set_cons_zero, List.set_cons_succ]
    obtain ⟨cur3, hcur3⟩ : ∃ c, c = cur.take (i * 4) ++ zeroKid ++ cur.drop (i * 4 + zeroKid.length) := ⟨_, rfl⟩
    have hclr := run_clearR (P := Tryz.prog) 56 0 71 (i * 4) 1 1 rfl _ zeroKid Tryz.underlying56 zero71 zeroCells71 BW.out (by simp [zeroKid, Value.oneCell']) (by rw [HCL.out]; simp [zeroKid]; omega)
    rw [← hcur3] at hclr
    obtain ⟨W3, hW3⟩ : ∃ X, X = W.setRow g cur3.toArray := ⟨_, rfl⟩
    have BW3 : Fact (Blk W3 g cur3 71) := ⟨hW3 ▸ BW.out.setRow cur3⟩
    have KW3 : Fact (Keep (fun j => j ≠ g) w W3) := ⟨hW3 ▸ KW.out.setRow (.inr fun h => h rfl) _⟩
    rw [← hW3] at hclr
    have HC3 := Fact.mk hcur3
    clear hcur3 hW3
    have j3 : ¬ (i : Int) + 1 = i := by omega
    go_wp2
    go_ret
    have hl3 : cur3.length = (i + 1) * 4 := by
      rw [HC3.out]
      simp only [List.length_append, List.length_take, List.length_drop, HCL.out]
      simp [zeroKid]
      omega
    have hown := blk_owns BW3.out hb (n := i) (sz := 4) (by omega) HC2.out hl3
    have htk : cur3.take (i * 4) = xs.take (i * 4) ++ xs.drop ((i + 1) * 4) := by
      have hA : i * 4 = (cur.take (i * 4)).length := by rw [List.length_take, HCL.out]; omega
      rw [HC3.out, List.append_assoc]
      conv => lhs; arg 1; rw [hA]
      rw [List.take_left, ← HTK.out, List.take_take, Nat.min_eq_left (by omega), List.drop_eq_nil_of_le (show (cur.take ((i + 1) * 4)).length ≤ (i + 1) * 4 by rw [List.length_take]; omega), List.append_nil]
    rw [htk] at hown
    exact ⟨rfl, by simpa using hown, KW3.out⟩
  · have hf2 : ¬ (cap : Int) = (i : Int) + 1 := by omega
    go_enter Tryz.func202, Tryz.ntmps202
    go_upto_region 5 with (fail)
    refine wp_region_T 7 (fun _ => True) (by kernel_rfl) trivial (fun hHeld => ?_)
    refine takeT (i := 0) (v := ?_) rfl (by kernel_rfl) (by kernel_rfl) (by kernel_rfl) (by kernel_rfl) (fun _ _ _ h => h) rfl ?_ (by assumption) ?_
    rotate_left
    · (intro w hSw; (try dsimp only at hSw); go_simp; try with_reducible rfl)
    try simp only [Act.put, List.setIfInBounds_toArray, List.set_cons_zero, List.set_cons_succ]
    refine takeT (i := 1) (v := ?_) rfl (by kernel_rfl) (by kernel_rfl) (by kernel_rfl) (by kernel_rfl) (fun _ _ _ h => h) rfl ?_ (by assumption) ?_
    rotate_left
    · (intro w hSw; (try dsimp only at hSw); go_simp; try with_reducible rfl)
    try simp only [Act.put, List.setIfInBounds_toArray, List.set_cons_zero, List.set_cons_succ]
    refine takeT (i := 2) (v := ?_) rfl (by kernel_rfl) (by kernel_rfl) (by kernel_rfl) (by kernel_rfl) (fun _ _ _ h => h) rfl ?_ (by assumption) ?_
    rotate_left
    · (intro w hSw; (try dsimp only at hSw); go_simp; try with_reducible rfl)
    try simp only [Act.put, List.setIfInBounds_toArray, List.set_cons_zero, List.set_cons_succ]
    refine takeT (i := 3) (v := ?_) rfl (by kernel_rfl) (by kernel_rfl) (by kernel_rfl) (by kernel_rfl) (fun _ _ _ h => h) rfl ?_ (by assumption) ?_
    rotate_left
    · (intro w hSw; (try dsimp only at hSw); go_simp; try with_reducible rfl)
    try simp only [Act.put, List.setIfInBounds_toArray, List.set_cons_zero, List.set_cons_succ]
    refine takeT (i := 4) (v := ?_) rfl (by kernel_rfl) (by kernel_rfl) (by kernel_rfl) (by kernel_rfl) (fun _ _ _ h => h) rfl ?_ (by assumption) ?_
    rotate_left
    · (intro w hSw; (try dsimp only at hSw); go_simp; try with_reducible rfl)
    try simp only [Act.put, List.setIfInBounds_toArray, List.set_cons_zero, List.set_cons_succ]
    refine takeT (i := 5) (v := ?_) rfl (by kernel_rfl) (by kernel_rfl) (by kernel_rfl) (by kernel_rfl) (fun _ _ _ h => h) rfl ?_ (by assumption) ?_
    rotate_left
    · (intro w hSw; (try dsimp only at hSw); go_simp; try with_reducible rfl)
    try simp only [Act.put, List.setIfInBounds_toArray, List.set_cons_zero, List.set_cons_succ]
    refine nextT (i := 6) (by kernel_rfl) rfl (fun K hK => ?_)
    rw [if_pos (show Region.wanted _ _ = true by simp [Region.wanted])]
    have hnl : ((cur.drop ((i + 1) * 4)).take ((n - (i + 1)) * 4)).length = (n - (i + 1)) * 4 := by
      rw [List.length_take, List.length_drop, HCL.out]
      omega
    refine wp_appR (.tmp 22) (.tmp 25) 56 71 4 72 i cap (n - (i + 1)) (cap - (i + 1)) ⟨g, (i + 1) * 4, none⟩ ((cur.drop ((i + 1) * 4)).take ((n - (i + 1)) * 4)) T56 rfl rfl rfl HBLK.out.drew hnl (fun j u hu => ?_) (fun u hu => ?_) (by omega) (by rw [hnl, HCL.out]; omega) ?_
    · rw [add_at]
      have hj : j < (n - (i + 1)) * 4 := by rw [← hnl]; exact (List.getElem?_eq_some_iff.1 hu).1
      rw [List.getElem?_take, if_pos hj, List.getElem?_drop] at hu
      exact HBLK.out.drew.cell _ _ hu
    · refine HS1.out u ?_
      obtain ⟨j, hj, rfl⟩ := List.getElem_of_mem hu
      rw [List.getElem_take, List.getElem_drop]
      rw [hnl] at hj
      rw [List.mem_take_iff_getElem]
      exact ⟨(i + 1) * 4 + j, by rw [HCL.out]; omega, rfl⟩
    obtain ⟨m, hm⟩ : ∃ m, m = n - 1 := ⟨_, rfl⟩
    have HM := Fact.mk hm
    have e1 : i + (n - (i + 1)) = m := by omega
    have j0 : (0 : Int) ≤ m := by omega
    have j1 : (m : Int) ≤ n := by omega
    have j2 : (m : Int) ≤ cap := by omega
    have j3 : ¬ (cap : Int) = m := by omega
    have j4 : ¬ cap = m := by omega
    clear hm
    rw [hnl, e1]
    obtain ⟨cur2, hcur2⟩ : ∃ c, c = cur.take (i * 4) ++ (cur.drop ((i + 1) * 4)).take ((n - (i + 1)) * 4) ++ cur.drop (i * 4 + (n - (i + 1)) * 4) := ⟨_, rfl⟩
    rw [← hcur2]
    obtain ⟨W, hW⟩ : ∃ W, W = w.drew.setRow g cur2.toArray := ⟨_, rfl⟩
    have BW : Fact (Blk W g cur2 71) := ⟨hW ▸ HBLK.out.drew.setRow cur2⟩
    have KW : Fact (Keep (fun j => j ≠ g) w W) := ⟨hW ▸ (Keep.refl _ w).drew.setRow (.inr fun h => h rfl) _⟩
    have HC2L := Fact.mk hcur2
    rw [← hW]
    clear hW hcur2 hnl e1
    refine hK.out _ _ trivial (fun hHeld => ?_)
    clear hK K
    try simp only [Act.put, List.setIfInBounds_toArray, List.set_cons_zero, List.set_cons_succ]
    refine lastT (by kernel_rfl) (by kernel_rfl) rfl (fun K hK => ?_)
    go_simp
    refine hK.out _ _ ?_
    clear hK K
    try simp only [Act.put, List.setIfInBounds_toArray, List.set_cons_zero, List.set_cons_succ]
    have hl2 : cur2.length = cap * 4 := by
      rw [HC2L.out]
      simp only [List.length_append, List.length_take, List.length_drop, HCL.out]
      have := HM.out
      omega
    have HL2 := Fact.mk hl2
    clear hl2
    obtain ⟨cur3, hcur3⟩ : ∃ c, c = cur2.take (m * 4) ++ zeroKid ++ cur2.drop (m * 4 + zeroKid.length) := ⟨_, rfl⟩
    have hclr := run_clearR (P := Tryz.prog) 56 0 71 (m * 4) (n - m) (cap - m) (by have := HM.out; omega) _ zeroKid Tryz.underlying56 zero71 zeroCells71 BW.out (by simp [zeroKid, Value.oneCell']) (by have := HM.out; rw [HL2.out]; simp [zeroKid]; omega)
    rw [← hcur3] at hclr
    obtain ⟨W3, hW3⟩ : ∃ X, X = W.setRow g cur3.toArray := ⟨_, rfl⟩
    have BW3 : Fact (Blk W3 g cur3 71) := ⟨hW3 ▸ BW.out.setRow cur3⟩
    have KW3 : Fact (Keep (fun j => j ≠ g) w W3) := ⟨hW3 ▸ KW.out.setRow (.inr fun h => h rfl) _⟩
    rw [← hW3] at hclr
    have HC3 := Fact.mk hcur3
    clear hcur3 hW3
    go_wp2
    go_ret
    have hm := HM.out
    have hl3 : cur3.length = cap * 4 := by
      rw [HC3.out]
      simp only [List.length_append, List.length_take, List.length_drop, HL2.out]
      simp [zeroKid]
      omega
    have hown := blk_owns BW3.out hb (n := m) (sz := 4) (by omega) HC2.out hl3
    have htk : cur3.take (m * 4) = xs.take (i * 4) ++ xs.drop ((i + 1) * 4) := by
      rw [HC3.out, List.append_assoc, List.take_append_of_le_length (by rw [List.length_take, HL2.out]; omega), List.take_take, Nat.min_self, HC2L.out, ← HTK.out]
      have hA : (cur.take (i * 4)).length = i * 4 := by rw [List.length_take, HCL.out]; omega
      have hB : ((cur.drop ((i + 1) * 4)).take ((n - (i + 1)) * 4)).length = (n - (i + 1)) * 4 := by rw [List.length_take, List.length_drop, HCL.out]; omega
      have hAB : m * 4 = (cur.take (i * 4) ++ (cur.drop ((i + 1) * 4)).take ((n - (i + 1)) * 4)).length := by rw [List.length_append, hA, hB]; omega
      rw [hAB, List.take_left, List.take_take, Nat.min_eq_left (by omega), List.drop_take, show n * 4 - (i + 1) * 4 = (n - (i + 1)) * 4 by omega]
    rw [htk, hm] at hown
    exact ⟨by rw [← hm]; rfl, hown, KW3.out⟩
end Go.Proofs.YtddmbdigdnmfgaaGreatDoor
