/- tree.Take, plain; and the way down to a kid by pointers, with what its change makes of the whole. -/
import Derived.Test.YtddmbdigdnmfgaaGreatDoorQGPut3
namespace Go.Proofs.YtddmbdigdnmfgaaGreatDoor
open Go.RowKit
set_option maxHeartbeats 1000000
set_option maxRecDepth 100000

def delN : PNode → List ByteArray → PNode
  | x, [] => x
  | .mk k b l, [s] => .mk k b (lessK l (findI l s))
  | .mk k b l, s :: s' :: r => .mk k b (setK l (findI l s) (delN (kidAt l (findI l s)) (s' :: r)))
noncomputable def takeP (n : PNode) (s : ByteArray) : Option PNode := match findP n s with
  | some _ => if s = ⟨#[]⟩ then none else (match wayP s with
    | some l => some (delN n l)
    | none => none)
  | none => none
section
variable {w : World}
/-- One kid less. -/
theorem RepK.less {G : Nat → Prop} : ∀ {l : PKids} {cs : List Value}, RepK w G l cs → ∀ i, i < l.length → RepK w G (lessK l i) (cs.take (i * 4) ++ cs.drop ((i + 1) * 4))
  | [], cs, h, i, hi => absurd hi (by simp)
  | (s, x) :: r, cs, h, 0, _ => by
    rw [RepK] at h
    obtain ⟨vb, vk, d, rfl, h2, h3⟩ := h
    exact h3
  | (s, x) :: r, cs, h, i + 1, hi => by
    rw [RepK] at h
    obtain ⟨vb, vk, d, rfl, h2, h3⟩ := h
    have ih := RepK.less h3 i (by simpa using hi)
    show RepK w G ((s, x) :: lessK r i) _
    rw [RepK]
    refine ⟨vb, vk, d.take (i * 4) ++ d.drop ((i + 1) * 4), ?_, h2, ih⟩
    rw [show (i + 1) * 4 = i * 4 + 1 + 1 + 1 + 1 by omega, show (i + 1 + 1) * 4 = (i + 1) * 4 + 1 + 1 + 1 + 1 by omega]
    simp only [List.take_succ_cons, List.drop_succ_cons, List.cons_append]
    rw [show i * 4 + 1 + 1 + 1 + 1 = (i + 1) * 4 by omega]
end
/-- What stands at a pointer to a node, of which all of r is to be gone down; and what its change makes of the whole. -/
structure Down (wr : World) (P ob : Nat) (n : PNode) (l : List ByteArray) (y : PNode) (r : List ByteArray) (pb po : Nat) (cs : List Value) (T : TypeId) (vb vk : Value) (F : Nat → Prop) : Prop where
  blk : Blk wr pb cs T
  c0 : cs[po]? = some (.int .i64 y.kind)
  c1 : cs[po + 1]? = some vb
  c2 : cs[po + 2]? = some vk
  own : OwnN wr P F y vb vk
  out : ¬ F pb
  small : SmallN y
  found : ∃ z, findN y r = some z
  from_ : ∀ i, F i → P ≤ i
  pbs : P ≤ pb
  wand : ∀ (w' : World) (vb' vk' : Value), Keep (fun i => ¬ F i ∧ i ≠ pb) wr w' → Blk w' pb (((cs.set po (.int .i64 (delN y r).kind)).set (po + 1) vb').set (po + 2) vk') T →
    RepN w' (fun i => P ≤ i) (delN y r) vb' vk' → ∃ VB VK, Blk w' ob [.int .i64 (delN n l).kind, VB, VK] 58 ∧ RepN w' (fun i => P ≤ i) (delN n l) VB VK
section
variable {wr wr' : World} {P ob pb po : Nat} {n y : PNode} {l r : List ByteArray} {cs : List Value} {T : TypeId} {vb vk : Value} {F : Nat → Prop} {s : ByteArray}
theorem Down.keep (h : Down wr P ob n l y r pb po cs T vb vk F) (k : Keep All wr wr') : Down wr' P ob n l y r pb po cs T vb vk F :=
  ⟨h.blk.keep k trivial, h.c0, h.c1, h.c2, OwnN.keep k (fun _ _ => trivial) h.own, h.out, h.small, h.found, h.from_, h.pbs, fun w' vb' vk' hk => h.wand w' vb' vk' (k.all.trans hk)⟩
theorem Down.start (hb : Blk wr ob [.int .i64 n.kind, vb, vk] 58) (ho : OwnN wr P F n vb vk) (hF : ¬ F ob) (hs : SmallN n) (hf : ∃ z, findN n l = some z) (hP : ∀ i, F i → P ≤ i) (hp : P ≤ ob) : Down wr P ob n l n l ob 0 [.int .i64 n.kind, vb, vk] 58 vb vk F :=
  ⟨hb, rfl, rfl, rfl, ho, hF, hs, hf, hP, hp, fun _ vb' vk' _ h1 h2 => ⟨vb', vk', h1, h2⟩⟩
theorem findN_cons {z : PNode} (h : findN y (s :: r) = some z) : findB y.kids s = true ∧ findI y.kids s < y.kids.length ∧ findN (kidAt y.kids (findI y.kids s)) r = some z := by
  rw [findN] at h
  split at h
  · rename_i hb
    have hl := findB_lt hb
    rw [List.getElem?_eq_getElem hl] at h
    exact ⟨hb, hl, by rw [kidAt_eq hl]; exact h⟩
  · cases h
/-- The whole is what it was but for the kids of y. -/
theorem Down.row (h : Down wr P ob n l y (s :: r) pb po cs T vb vk F) : findB y.kids s = true ∧ findI y.kids s < y.kids.length ∧ y.kids.length ≤ 200 ∧ ∃ (g d : Nat) (C : List Value) (Fb Fk : Nat → Prop), vk = .slice (some ⟨g, 0, none⟩) y.kids.length d ∧
    P ≤ g ∧ Blk wr g C 71 ∧ y.kids.length ≤ d ∧ d ≤ maxLen ∧ C.length = d * 4 ∧ OwnK wr P Fk y.kids (C.take (y.kids.length * 4)) ∧ By wr Fb vb y.bytes ∧ (∀ i, Fb i → F i ∧ ¬ Fk i ∧ i ≠ g) ∧ (∀ i, Fk i → F i ∧ i ≠ g) ∧ F g := by
  obtain ⟨z, hz⟩ := h.found
  obtain ⟨h1, h2, h3⟩ := findN_cons hz
  have ho := h.own
  have hsm := h.small
  obtain ⟨k, b, kk⟩ := y
  rw [OwnN] at ho
  obtain ⟨Fb, Fk, hby, cs0, hrow, hok, h4, h5, h6⟩ := ho
  simp only [PNode.kids] at h1 h2 ⊢
  obtain ⟨g, d, C, rfl, hbg, hblk, hd1, hd2, hd3, htk⟩ := own_blk hrow (by omega)
  exact ⟨h1, h2, hsm.kids.1, g, d, C, Fb, Fk, rfl, hbg, hblk, hd1, hd2, hd3, by rw [htk]; exact hok, hby, fun i hi => ⟨(h4 i hi).1, (h4 i hi).2.1, fun e => (h4 i hi).2.2 (by rw [e]; rfl)⟩, fun i hi => ⟨(h5 i hi).1, fun e => (h5 i hi).2 (by rw [e]; rfl)⟩, h6 g rfl⟩
theorem Down.step {s' : ByteArray} (h : Down wr P ob n l y (s :: s' :: r) pb po cs T vb vk F) : findB y.kids s = true ∧ findI y.kids s < y.kids.length ∧ y.kids.length ≤ 200 ∧ ∃ (g d : Nat), vk = .slice (some ⟨g, 0, none⟩) y.kids.length d ∧
    ∃ C vb' vk' F', Down wr P ob n l (kidAt y.kids (findI y.kids s)) (s' :: r) g (findI y.kids s * 4 + 1) C 71 vb' vk' F' := by
  obtain ⟨z, hz⟩ := h.found
  obtain ⟨h1, h2, hlen, g, d, C, Fb, Fk, rfl, hg, hblk, hd1, hd2, hd3, hok, hby, hFb, hFk, hFg⟩ := h.row
  obtain ⟨-, -, hz'⟩ := findN_cons hz
  refine ⟨h1, h2, hlen, g, d, rfl, C, ?_⟩
  obtain ⟨Fi, vb', vk', e1, e2, e3, g1, g2, g3⟩ := OwnK.hole hok _ h2
  have hci : ∀ (j : Nat) (v : Value), (C.take (y.kids.length * 4))[j]? = some v → C[j]? = some v := fun j v h => by
    rw [List.getElem?_take] at h
    split at h
    · exact h
    · cases h
  refine ⟨vb', vk', Fi, hblk, hci _ _ e1, hci _ _ e2, hci _ _ e3, g1, fun h => (hFk _ (g2 _ h)).2 rfl, ?_, ⟨z, hz'⟩, fun i hi => h.from_ i (hFk i (g2 i hi)).1, hg, fun w' vb2 vk2 hk hb2 hr2 => ?_⟩
  · rw [kidAt_eq h2]; exact h.small.kids.2 _ h2
  have hdel : delN y (s :: s' :: r) = .mk y.kind y.bytes (setK y.kids (findI y.kids s) (delN (kidAt y.kids (findI y.kids s)) (s' :: r))) := by
    obtain ⟨k, b, kk⟩ := y
    rw [delN]; rfl
  have hgp : g ≠ pb := fun e => h.out (e ▸ hFg)
  refine h.wand w' vb (.slice (some ⟨g, 0, none⟩) y.kids.length d) (hk.mono fun i hi => ⟨fun hh => hi.1 (hFk i (g2 i hh)).1, fun e => hi.1 (e ▸ hFg)⟩) ?_ ?_
  · rw [hdel]
    show Blk w' pb (((cs.set po (.int .i64 y.kind)).set (po + 1) _).set (po + 2) _) T
    rw [set_same h.c0, set_same h.c1, set_same h.c2]
    exact h.blk.keep hk ⟨fun hh => h.out (hFk _ (g2 _ hh)).1, Ne.symm hgp⟩
  · rw [hdel, RepN]
    have hK := g3 w' _ (fun i => P ≤ i) _ vb2 vk2 hk (fun j hj hn => ⟨⟨hn, (hFk j hj).2⟩, h.from_ j (hFk j hj).1⟩) hr2
    have hln : (setK y.kids (findI y.kids s) (delN (kidAt y.kids (findI y.kids s)) (s' :: r))).length = y.kids.length := by rw [setK, List.length_set]
    rw [hln]
    refine ⟨(hby.keep (hk.mono fun j hj => ⟨fun hh => (hFb j hj).2.1 (g2 j hh), (hFb j hj).2.2⟩)).mono fun j _ hj => h.from_ j (hFb j hj).1, _, ?_, hK⟩
    simp only [← List.take_set] at hK ⊢
    refine hb2.slN hg ?_ hd1 hd2 (RepK.one hK)
    simp only [List.length_set]
    omega
theorem Down.last (h : Down wr P ob n l y [s] pb po cs T vb vk F) : findB y.kids s = true ∧ findI y.kids s < y.kids.length ∧ y.kids.length ≤ 200 ∧ ∃ (g d : Nat) (xs : List Value), vk = .slice (some ⟨g, 0, none⟩) y.kids.length d ∧
    wr.ownsRow P 71 4 (.slice (some ⟨g, 0, none⟩) y.kids.length d) y.kids.length xs ∧ (∀ u ∈ xs, u.oneCell' = true) ∧ g ≠ pb ∧ P ≤ g ∧
    ∀ (w1 : World), w1.ownsRow P 71 4 (.slice (some ⟨g, 0, none⟩) (y.kids.length - 1) d) (y.kids.length - 1) (xs.take (findI y.kids s * 4) ++ xs.drop ((findI y.kids s + 1) * 4)) → Keep (fun j => j ≠ g) wr w1 →
      ∃ VB VK, Blk (w1.setCell ⟨pb, po + 2, none⟩ (.slice (some ⟨g, 0, none⟩) (y.kids.length - 1) d)) ob [.int .i64 (delN n l).kind, VB, VK] 58 ∧ RepN (w1.setCell ⟨pb, po + 2, none⟩ (.slice (some ⟨g, 0, none⟩) (y.kids.length - 1) d)) (fun i => P ≤ i) (delN n l) VB VK := by
  obtain ⟨h1, h2, hlen, g, d, C, Fb, Fk, rfl, hg, hblk, hd1, hd2, hd3, hok, hby, hFb, hFk, hFg⟩ := h.row
  have hgp : g ≠ pb := fun e => h.out (e ▸ hFg)
  have hrep := OwnK.rep hok
  refine ⟨h1, h2, hlen, g, d, C.take (y.kids.length * 4), rfl, blk_owns hblk hg hd1 hd2 hd3, hrep.2, hgp, hg, fun w1 hrow hk => ?_⟩
  obtain ⟨w2, hw2⟩ : ∃ X, X = w1.setCell ⟨pb, po + 2, none⟩ (.slice (some ⟨g, 0, none⟩) (y.kids.length - 1) d) := ⟨_, rfl⟩
  rw [← hw2]
  have k2 : Keep (fun j => j ≠ pb) w1 w2 := hw2 ▸ (Keep.refl _ w1).setCell (p := ⟨pb, po + 2, none⟩) (.inr fun h => h rfl) _
  have k12 : Keep (fun j => j ≠ g ∧ j ≠ pb) wr w2 := (hk.mono fun j hj => hj.1).then_ k2 fun j _ hj => hj.2
  have hdel : delN y [s] = .mk y.kind y.bytes (lessK y.kids (findI y.kids s)) := by
    obtain ⟨k, b, kk⟩ := y
    rw [delN]; rfl
  have hll : (lessK y.kids (findI y.kids s)).length = y.kids.length - 1 := by
    simp only [lessK, List.length_append, List.length_take, List.length_drop]
    omega
  refine h.wand w2 vb (.slice (some ⟨g, 0, none⟩) (y.kids.length - 1) d) (k12.mono fun i hi => ⟨fun e => hi.1 (e ▸ hFg), hi.2⟩) ?_ ?_
  · rw [hdel]
    show Blk w2 pb (((cs.set po (.int .i64 y.kind)).set (po + 1) _).set (po + 2) _) T
    rw [set_same h.c0, set_same h.c1, hw2]
    exact (h.blk.keep hk (Ne.symm hgp)).set (po + 2) _
  · rw [hdel, RepN, hll]
    have hK := RepK.less hrep.1 _ h2
    have hK2 := (hK.keep (k12.mono fun j hj => ⟨(hFk j hj).2, fun e => h.out (e ▸ (hFk j hj).1)⟩)).mono (H := fun i => P ≤ i) fun j _ hj => h.from_ j (hFk j hj).1
    refine ⟨(hby.keep (k12.mono fun j hj => ⟨(hFb j hj).2.2, fun e => h.out (e ▸ (hFb j hj).1)⟩)).mono fun j _ hj => h.from_ j (hFb j hj).1, _, ?_, hK2⟩
    exact Sl.of_own (own_keep hrow k2 fun g' hg' => by cases hg'; exact hgp) (RepK.one hK)
end
end Go.Proofs.YtddmbdigdnmfgaaGreatDoor

/- tree.Take at any tree, any way. -/
namespace Go.Proofs.YtddmbdigdnmfgaaGreatDoor
open Go.RowKit
set_option maxHeartbeats 2000000
set_option maxRecDepth 100000

theorem findP_some {n z : PNode} {s : ByteArray} (h : findP n s = some z) : rightP n = true ∧ ∃ l, wayP s = some l ∧ findN n l = some z := by
  unfold findP at h
  split at h
  · rename_i hr
    split at h
    · rename_i l hl
      exact ⟨hr, l, hl, h⟩
    · cases h
  · cases h
theorem wayP_pos {s : ByteArray} {l : List ByteArray} (h : wayP s = some l) (hs : s ≠ ⟨#[]⟩) : 0 < l.length := by
  unfold wayP at h
  split at h
  · rename_i h0
    refine absurd ?_ hs
    obtain ⟨d⟩ := s
    have : d.size = 0 := h0
    rw [Array.size_eq_zero_iff.1 this]
  · split at h
    · cases h
      exact partsS_pos s
    · cases h
theorem take166 (w : World) (G : Nat → Prop) (n : PNode) (nv : Value) (s : ByteArray) (hn : NodeV w G n nv) (hs : s.size ≤ 1000000) : Calls Tryz.prog 166 #[nv, .string s] w (NodeOr w (takeP n s)) := by
  obtain ⟨A, c, B, d, rfl, hnr⟩ := hn
  obtain ⟨Wb, hwb⟩ : ∃ W, W = ((w.alloc (.cells #[.int .i64 n.kind, .slice A n.bytes.length c, .slice B n.kids.length d] 58)).alloc (.cells #[.int .i64 0, .slice none 0 0, .slice none 0 0] 58)) := ⟨_, rfl⟩
  have KB : Fact (Keep All w Wb) := ⟨hwb ▸ ((Keep.refl _ w).alloc _).alloc _⟩
  have B1 : Fact (Blk Wb w.heap.size [.int .i64 n.kind, .slice A n.bytes.length c, .slice B n.kids.length d] 58) := ⟨hwb ▸ (Blk.new w [.int .i64 n.kind, .slice A n.bytes.length c, .slice B n.kids.length d] 58).alloc (.cells #[.int .i64 0, .slice none 0 0, .slice none 0 0] 58)⟩
  have b6 := Blk.new (w.alloc (.cells #[.int .i64 n.kind, .slice A n.bytes.length c, .slice B n.kids.length d] 58)) [.int .i64 0, .slice none 0 0, .slice none 0 0] 58
  simp only [World.size_alloc] at b6
  have B2 : Fact (Blk Wb (w.heap.size + 1) [.int .i64 0, .slice none 0 0, .slice none 0 0] 58) := ⟨hwb ▸ b6⟩
  have HWB := Fact.mk hwb
  clear b6 hwb
  have HNV : Fact (NodeV w G n (.agg #[.int .i64 n.kind, .slice A n.bytes.length c, .slice B n.kids.length d])) := ⟨⟨A, c, B, d, rfl, hnr⟩⟩
  have C165 : Fact (∀ w1, Keep All Wb w1 → Calls Tryz.prog 165 #[.agg #[.int .i64 n.kind, .slice A n.bytes.length c, .slice B n.kids.length d], .string s] w1 (NodeOr w1 (findP n s))) := ⟨fun w1 hk => find165 w1 G n _ s (HNV.out.keep (KB.out.trans hk).all) hs⟩
  have HC198 := Fact.mk (fun w' => way198g w' s hs)
  have KW : Fact (Keep All Wb Wb) := ⟨Keep.refl _ _⟩
  clear hnr hs
  have hne1 : w.heap.size + 1 ≠ w.heap.size := by omega
  have bn := B1.out.keep KW.out trivial; have x0 := bn.cell 0 _ rfl; have x1 := bn.cell 1 _ rfl; have x2 := bn.cell 2 _ rfl; clear bn; have b6 := B2.out.keep KW.out trivial; have D6 := Fact.mk b6; have hrl := b6.lt; have p0 := b6.cell 0 _ rfl; have p1 := b6.cell 1 _ rfl; have p2 := b6.cell 2 _ rfl; have q0 := b6.free 0; have q1 := b6.free 1; have q2 := b6.free 2; clear b6
  go_enter Tryz.func166, Tryz.ntmps166
  go_upto_region 1 with (fail)
  rw [← HWB.out]
  clear HWB
  rcases hfp : findP n s with _ | z
  · have HF : Fact (takeP n s = none) := ⟨by rw [takeP, hfp]⟩
    have HFP := Fact.mk hfp
    clear hfp
    go_wp2_with (first
  | (go_at_call 165; go_must (refine (C165.out _ KW.out).mono ?_); rintro e v ⟨hp, hk⟩; rw [HFP.out] at hp; obtain ⟨er, her, hp⟩ := hp; rw [show zeroNode = .agg #[.int .i64 0, .slice none 0 0, .slice none 0 0] from rfl] at hp; subst hp; have HER := Fact.mk her; have hb0 : (er == 0) = false := (by simpa using her); replace KW := Fact.mk (KW.out.trans hk); have KV := Fact.mk (Keep.refl All v); have bn := B1.out.keep KW.out trivial; have x0 := bn.cell 0 _ rfl; have x1 := bn.cell 1 _ rfl; have x2 := bn.cell 2 _ rfl; clear bn; have b6 := B2.out.keep KW.out trivial; have D6 := Fact.mk b6; have hrl := b6.lt; have p0 := b6.cell 0 _ rfl; have p1 := b6.cell 1 _ rfl; have p2 := b6.cell 2 _ rfl; have q0 := b6.free 0; have q1 := b6.free 1; have q2 := b6.free 2; clear b6; clear hk her))

    refine bodyPost_ret (results_58_tmp rfl _ _ (w.heap.size + 1) _ _ _ rfl ((D6.out.set3 _ _ _).alloc _)) rfl ?_
    refine ⟨?_, ((KB.out.trans KW.out).set3 _ (.inl (by omega)) _ _ _).alloc _⟩
    rw [HF.out]
    exact ⟨er, HER.out, rfl⟩
  · have HFP := Fact.mk hfp
    by_cases hs0 : s = ⟨#[]⟩
    · have HF : Fact (takeP n s = none) := ⟨by rw [takeP, hfp]; simp only [if_pos hs0]⟩
      clear hfp
      subst hs0
      go_wp2_with (first
  | (go_at_call 165; go_must (refine (C165.out _ KW.out).mono ?_); rintro e v ⟨hp, hk⟩; rw [HFP.out] at hp; obtain ⟨vz, hp, Az, cz, Bz, dz, rfl, hrz⟩ := hp; subst hp; replace KW := Fact.mk (KW.out.trans hk); have bn := B1.out.keep KW.out trivial; have x0 := bn.cell 0 _ rfl; have x1 := bn.cell 1 _ rfl; have x2 := bn.cell 2 _ rfl; clear bn; have b6 := B2.out.keep KW.out trivial; have D6 := Fact.mk b6; have hrl := b6.lt; have p0 := b6.cell 0 _ rfl; have p1 := b6.cell 1 _ rfl; have p2 := b6.cell 2 _ rfl; have q0 := b6.free 0; have q1 := b6.free 1; have q2 := b6.free 2; clear b6; clear hk hrz))
      refine bodyPost_ret (results_58_tmp rfl _ _ (w.heap.size + 1) _ _ _ rfl ((D6.out.set3 _ _ _).alloc _)) rfl ?_
      refine ⟨?_, ((KB.out.trans KW.out).set3 _ (.inl (by omega)) _ _ _).alloc _⟩
      rw [HF.out]
      exact ⟨5, by decide, rfl⟩
    · obtain ⟨hrt, l, hwp, hfn⟩ := findP_some hfp
      have HF : Fact (takeP n s = some (delN n l)) := ⟨by rw [takeP, hfp]; simp only [if_neg hs0, hwp]⟩
      have hse : s.toList.isEmpty = false := by
        rw [Bool.eq_false_iff]
        intro h
        refine hs0 ?_
        have h1 : s.toList = [] := List.isEmpty_iff.1 h
        have h2 : s.data.toList = [] := by rw [← h1]; simp [ByteArray.toList_eq]
        obtain ⟨d⟩ := s
        have h3 : d = #[] := by simpa using h2
        rw [h3]
      have HWP := Fact.mk hwp
      have hlp := wayP_pos hwp hs0
      have HSN := Fact.mk (rightP_small hrt)
      have HFN := Fact.mk hfn
      clear hfp hwp hrt hfn
      go_upto_region 6 with (first
  | (go_at_call 165; go_must (refine (C165.out _ KW.out).mono ?_); rintro e v ⟨hp, hk⟩; rw [HFP.out] at hp; obtain ⟨vz, hp, Az, cz, Bz, dz, rfl, hrz⟩ := hp; subst hp; replace KW := Fact.mk (KW.out.trans hk); have bn := B1.out.keep KW.out trivial; have x0 := bn.cell 0 _ rfl; have x1 := bn.cell 1 _ rfl; have x2 := bn.cell 2 _ rfl; clear bn; have b6 := B2.out.keep KW.out trivial; have D6 := Fact.mk b6; have hrl := b6.lt; have p0 := b6.cell 0 _ rfl; have p1 := b6.cell 1 _ rfl; have p2 := b6.cell 2 _ rfl; have q0 := b6.free 0; have q1 := b6.free 1; have q2 := b6.free 2; clear b6; clear hk hrz))
      obtain ⟨V0, hV0⟩ : ∃ X, X = v.alloc (.cells #[.int .i64 z.kind, .slice Az z.bytes.length cz, .slice Bz z.kids.length dz] 58) := ⟨_, rfl⟩
      have K0 : Fact (Keep All Wb V0) := ⟨hV0 ▸ KW.out.alloc _⟩
      rw [← hV0]
      clear hV0 x0 x1 x2 p0 p1 p2 q0 q1 q2 D6 hrl
      obtain ⟨k, hk⟩ : ∃ k, l.length = k + 1 := ⟨l.length - 1, by omega⟩
      have HK := Fact.mk hk
      clear hk
      have bn := B1.out.keep K0.out trivial
      have x0 := bn.cell 0 _ rfl
      have x1 := bn.cell 1 _ rfl
      have x2 := bn.cell 2 _ rfl
      clear bn
      go_upto_region 7 with (first
        | (go_at_call 198; go_must (refine (HC198.out _).mono ?_); rintro e v1 ⟨hp, hk⟩; rw [HWP.out] at hp; obtain ⟨Aw, cw, he, hsl⟩ := hp; rw [HK.out] at he hsl; subst he; have HSL := Fact.mk (hsl.mono (H := fun i => i < v1.heap.size) fun i hi _ => hi); have K1 := Fact.mk (K0.out.trans hk); have BWay := Fact.mk (B2.out.keep K1.out trivial).lt; have bn := B1.out.keep K1.out trivial; have x0 := bn.cell 0 _ rfl; have x1 := bn.cell 1 _ rfl; have x2 := bn.cell 2 _ rfl; clear hk hsl bn))
      have COwn : Fact (Calls Tryz.prog 199 #[.agg #[.int .i64 n.kind, .slice A n.bytes.length c, .slice B n.kids.length d]] v1 (OwnAll v1 n)) := ⟨ownAt n v1 G _ (HNV.out.keep (KB.out.trans K1.out).all) HSN.out⟩
      have hcw : k + 1 ≤ cw ∧ cw ≤ 9223372036854775807 := by
        obtain ⟨-, A0, c0, e0, -, h1, h2, -⟩ := HSL.out
        simp only [Value.slice.injEq] at e0
        obtain ⟨-, -, rfl⟩ := e0
        unfold maxLen at h2
        omega
      obtain ⟨hcw1, hcw2⟩ := hcw
      go_upto_region 9 with (go_at_call 199; go_must (refine (COwn.out).mono ?_); rintro e v2 ⟨A1, c1, B1', d1, rfl, ho, hk⟩; have HO := Fact.mk ho; have KO := Fact.mk hk; clear ho hk)
      obtain ⟨W, hW⟩ : ∃ X, X = v2.alloc (.cells #[.int .i64 n.kind, .slice A1 n.bytes.length c1, .slice B1' n.kids.length d1] 58) := ⟨_, rfl⟩
      have KW2 : Fact (Keep All v2 W) := ⟨hW ▸ (Keep.refl _ v2).alloc _⟩
      have WB : Fact (Blk W v2.heap.size [.int .i64 n.kind, .slice A1 n.bytes.length c1, .slice B1' n.kids.length d1] 58) := ⟨hW ▸ Blk.new v2 _ 58⟩
      rw [← hW]
      clear hW x0 x1 x2 hne1
      have vs : v1.heap.size ≤ v2.heap.size := KO.out.size
      have hbw : w.heap.size + 1 < v1.heap.size := BWay.out
      have D0 : Fact (Down W v1.heap.size v2.heap.size n l n l v2.heap.size 0 [.int .i64 n.kind, .slice A1 n.bytes.length c1, .slice B1' n.kids.length d1] 58 (.slice A1 n.bytes.length c1) (.slice B1' n.kids.length d1) (fun i => v1.heap.size ≤ i ∧ i < v2.heap.size)) :=
        ⟨Down.start WB.out (OwnN.keep KW2.out (fun _ _ => trivial) HO.out) (by omega) HSN.out ⟨z, HFN.out⟩ (fun i hi => hi.1) vs⟩
      have HSW := Fact.mk (HSL.out.keep ((KO.out.trans KW2.out).all))
      have hk0 : (0 : Int) ≤ k := by omega
      have hkc : (k : Int) ≤ cw := by omega
      have hk9 : (k : Int) + 1 ≤ 9223372036854775807 := by omega
      go_wp2
      go_loopg [44, 11] k (fun g vi vp wr => ∃ (j : Nat) (y : PNode) (pb po : Nat) (cs : List Value) (T : TypeId) (vb vk : Value) (F : Nat → Prop), j + g = k ∧ vi = .int .i64 j ∧ vp = .pointer (some ⟨pb, po, none⟩) ∧ Fact (Down wr v1.heap.size v2.heap.size n l y (l.drop j) pb po cs T vb vk F) ∧ Fact (Keep All W wr))
      case atStart => exact ⟨0, n, v2.heap.size, 0, _, 58, _, _, _, by omega, rfl, rfl, D0, ⟨Keep.refl _ _⟩⟩
      case round =>
        obtain ⟨j, y, pb, po, cs, T, vb, vk, F, hj, rfl, rfl, hd, hkp⟩ := hrel
        have HJ := Fact.mk hj
        have hjl : j < l.length := by have := HK.out; omega
        obtain ⟨nm, hnm⟩ : ∃ s, s = l[j] := ⟨_, rfl⟩
        obtain ⟨wb, wo, e1, hgw, hnc⟩ := HSW.out.strAt j hjl
        subst e1
        have e0 := hkp.out.cell (p := ⟨wb, wo + j, none⟩) trivial hnc
        rw [← hnm] at e0
        obtain ⟨Ab, cb, Bk, dk, rfl, rfl⟩ := (OwnN.rep hd.out.own).1.forms
        have y0 := hd.out.blk.cell po _ hd.out.c0
        have y1 := hd.out.blk.cell (po + 1) _ hd.out.c1
        have y2 := hd.out.blk.cell (po + 2) _ hd.out.c2
        obtain ⟨ki, hki⟩ : ∃ q, q = findI y.kids nm := ⟨_, rfl⟩
        have CF : Fact (∀ w1, Keep All wr w1 → Calls Tryz.prog 201 #[.agg #[.int .i64 y.kind, .slice Ab y.bytes.length cb, .slice Bk y.kids.length dk], .string nm] w1 fun e w' => e = .returned (.tuple #[.int .i64 ki, .bool (findB y.kids nm)]) ∧ Keep All w1 w') := ⟨fun w1 hk => by
          rw [hki]
          exact find201g w1 _ y _ nm ⟨Ab, cb, Bk, dk, rfl, (OwnN.rep hd.out.own).1.keep hk.all⟩ (by have := hd.out.small.kids.1; omega)⟩
        have HKI := Fact.mk hki
        have HNM := Fact.mk hnm
        clear hj hnc hnm hki
        by_cases hlt : j < k
        · have hdr : l.drop j = nm :: l[j + 1]'(by have := HK.out; omega) :: l.drop (j + 2) := by
            rw [HNM.out, List.drop_eq_getElem_cons hjl, List.drop_eq_getElem_cons (show j + 1 < l.length by have := HK.out; omega)]
          obtain ⟨hkb, hkl, hyl, g, d, hvk, C, vb', vk', F', hdn⟩ := (hdr ▸ hd.out).step
          rw [← HKI.out] at hkl hdn
          have HKB := Fact.mk hkb
          have hdn' : Fact (Down wr v1.heap.size v2.heap.size n l (kidAt y.kids ki) (l.drop (j + 1)) g (ki * 4 + 1) C 71 vb' vk' F') := ⟨by
            rw [List.drop_eq_getElem_cons (show j + 1 < l.length by have := HK.out; omega)]
            exact hdn⟩
          simp only [Value.slice.injEq, true_and] at hvk
          obtain ⟨rfl, rfl⟩ := hvk
          have hki0 : (0 : Int) ≤ ki := by omega
          have hkil : (ki : Int) < y.kids.length := by omega
          clear hdr hdn hkb hyl
          go_wp2_with (go_at_call 201; go_must (refine (CF.out _ (Keep.refl _ _)).mono ?_); rintro e w3 ⟨rfl, hk3⟩; have K3 := Fact.mk hk3; have y2' := hk3.cell (p := ⟨pb, po + 2, none⟩) trivial y2; clear hk3)
          go_roundg (gk - 1)
          case measure => have := HJ.out; omega
          case rel => exact ⟨j + 1, kidAt y.kids ki, g, ki * 4 + 1, C, 71, vb', vk', F', by have := HJ.out; omega, by go_num, by first | rfl | (simp), ⟨hdn'.out.keep K3.out⟩, ⟨hkp.out.trans K3.out⟩⟩
        · obtain rfl : j = k := by have := HJ.out; omega
          have hdr : l.drop j = [nm] := by
            rw [HNM.out, List.drop_eq_getElem_cons hjl, List.drop_eq_nil_of_le (by have := HK.out; omega)]
          have hdl := hd.out
          rw [hdr] at hdl
          have HDL := Fact.mk hdl
          clear hdr hdl
          go_upto_region 15 with (fail)
          have hwr : IntKind.i64.wrap (j : Int) = (j : Int) := by rw [IntKind.wrap_i64]; omega
          have hj1 : (j : Int) < (j : Int) + 1 := by omega
          have hj2 : j < j + 1 := by omega
          refine wp_region_T 14 (fun w' => w'.cell? ⟨pb, po, none⟩ = some (.int .i64 y.kind) ∧ w'.cell? ⟨pb, po + 1, none⟩ = some (.slice Ab y.bytes.length cb) ∧ w'.cell? ⟨pb, po + 2, none⟩ = some (.slice Bk y.kids.length dk) ∧ w'.cell? ⟨wb, wo + j, none⟩ = some (.string nm)) (by kernel_rfl) (by go_keep) (fun hHeld => ?_)
          refine takeT (i := 0) (v := ?_) rfl (by kernel_rfl) (by kernel_rfl) (by kernel_rfl) (by kernel_rfl) (fun _ _ _ h => h) rfl ?_ (by assumption) ?_
          rotate_left
          · (intro w hSw; (try dsimp only at hSw); go_simp; try with_reducible rfl)
          try simp only [Act.put, List.setIfInBounds_toArray, List.set_cons_zero, List.set_cons_succ]
          refine takeT (i := 1) (v := ?_) rfl (by kernel_rfl) (by kernel_rfl) (by kernel_rfl) (by kernel_rfl) (fun _ _ _ h => h) rfl ?_ (by assumption) ?_
          rotate_left
          · (intro w hSw; (try dsimp only at hSw); go_simp; try with_reducible rfl)
          try simp only [Act.put, List.setIfInBounds_toArray, List.set_cons_zero, List.set_cons_succ]
          refine takeT (i := 2) (v := ?_) rfl (by kernel_rfl) (by kernel_rfl) (by kernel_rfl) (by kernel_rfl) (fun _ _ _ h => h) rfl ?_ (by assumption) ?_
          rotate_left
          · (intro w hSw; (try dsimp only at hSw); go_simp; try with_reducible rfl)
          try simp only [Act.put, List.setIfInBounds_toArray, List.set_cons_zero, List.set_cons_succ]
          refine takeT (i := 3) (v := ?_) rfl (by kernel_rfl) (by kernel_rfl) (by kernel_rfl) (by kernel_rfl) (fun _ _ _ h => h) rfl ?_ (by assumption) ?_
          rotate_left
          · (intro w hSw; (try dsimp only at hSw); go_simp; try with_reducible rfl)
          try simp only [Act.put, List.setIfInBounds_toArray, List.set_cons_zero, List.set_cons_succ]
          refine takeT (i := 4) (v := ?_) rfl (by kernel_rfl) (by kernel_rfl) (by kernel_rfl) (by kernel_rfl) (fun _ _ _ h => h) rfl ?_ (by assumption) ?_
          rotate_left
          · (intro w hSw; (try dsimp only at hSw); go_simp; try with_reducible rfl)
          try simp only [Act.put, List.setIfInBounds_toArray, List.set_cons_zero, List.set_cons_succ]
          refine takeT (i := 5) (v := ?_) rfl (by kernel_rfl) (by kernel_rfl) (by kernel_rfl) (by kernel_rfl) (fun _ _ _ h => h) rfl ?_ (by assumption) ?_
          rotate_left
          · (intro w hSw; (try dsimp only at hSw); go_simp; try with_reducible rfl)
          try simp only [Act.put, List.setIfInBounds_toArray, List.set_cons_zero, List.set_cons_succ]
          refine takeT (i := 6) (v := ?_) rfl (by kernel_rfl) (by kernel_rfl) (by kernel_rfl) (by kernel_rfl) (fun _ _ _ h => h) rfl ?_ (by assumption) ?_
          rotate_left
          · (intro w hSw; (try dsimp only at hSw); go_simp; try with_reducible rfl)
          try simp only [Act.put, List.setIfInBounds_toArray, List.set_cons_zero, List.set_cons_succ]
          refine takeT (i := 7) (v := ?_) rfl (by kernel_rfl) (by kernel_rfl) (by kernel_rfl) (by kernel_rfl) (fun _ _ _ h => h) rfl ?_ (by assumption) ?_
          rotate_left
          · (intro w hSw; (try dsimp only at hSw); go_simp; try with_reducible rfl)
          try simp only [Act.put, List.setIfInBounds_toArray, List.set_cons_zero, List.set_cons_succ]
          refine takeT (i := 8) (v := ?_) rfl (by kernel_rfl) (by kernel_rfl) (by kernel_rfl) (by kernel_rfl) (fun _ _ _ h => h) rfl ?_ (by assumption) ?_
          rotate_left
          · (intro w hSw; (try dsimp only at hSw); go_simp; try with_reducible rfl)
          try simp only [Act.put, List.setIfInBounds_toArray, List.set_cons_zero, List.set_cons_succ]
          refine nextT (i := 9) (by kernel_rfl) rfl (fun K hK => ?_)
          go_simp
          refine (CF.out _ (Keep.refl _ wr).drew).mono ?_
          rintro e w3 ⟨rfl, hk3⟩
          have K3 := Fact.mk ((Keep.refl _ wr).drew.trans hk3)
          have z0 := hk3.cell (p := ⟨pb, po, none⟩) trivial y0
          have z1 := hk3.cell (p := ⟨pb, po + 1, none⟩) trivial y1
          have z2 := hk3.cell (p := ⟨pb, po + 2, none⟩) trivial y2
          have z3 := hk3.cell (p := ⟨wb, wo + j, none⟩) trivial e0
          clear hk3 hHeld y0 y1 y2 e0
          refine hK.out _ _ (by exact ⟨z0, z1, z2, z3⟩) (fun hHeld => ?_)
          clear hK K
          try simp only [Act.put, List.setIfInBounds_toArray, List.set_cons_zero, List.set_cons_succ]
          refine takeT (i := 10) (v := ?_) rfl (by kernel_rfl) (by kernel_rfl) (by kernel_rfl) (by kernel_rfl) (fun _ _ _ h => h) rfl ?_ (by assumption) ?_
          rotate_left
          · (intro w hSw; (try dsimp only at hSw); go_simp; try with_reducible rfl)
          try simp only [Act.put, List.setIfInBounds_toArray, List.set_cons_zero, List.set_cons_succ]
          refine takeT (i := 11) (v := ?_) rfl (by kernel_rfl) (by kernel_rfl) (by kernel_rfl) (by kernel_rfl) (fun _ _ _ h => h) rfl ?_ (by assumption) ?_
          rotate_left
          · (intro w hSw; (try dsimp only at hSw); go_simp; try with_reducible rfl)
          try simp only [Act.put, List.setIfInBounds_toArray, List.set_cons_zero, List.set_cons_succ]
          refine takeT (i := 12) (v := ?_) rfl (by kernel_rfl) (by kernel_rfl) (by kernel_rfl) (by kernel_rfl) (fun _ _ _ h => h) rfl ?_ (by assumption) ?_
          rotate_left
          · (intro w hSw; (try dsimp only at hSw); go_simp; try with_reducible rfl)
          try simp only [Act.put, List.setIfInBounds_toArray, List.set_cons_zero, List.set_cons_succ]
          refine takeT (i := 13) (v := ?_) rfl (by kernel_rfl) (by kernel_rfl) (by kernel_rfl) (by kernel_rfl) (fun _ _ _ h => h) rfl ?_ (by assumption) ?_
          rotate_left
          · (intro w hSw; (try dsimp only at hSw); go_simp; try with_reducible rfl)
          try simp only [Act.put, List.setIfInBounds_toArray, List.set_cons_zero, List.set_cons_succ]
          refine lastT (by kernel_rfl) (by kernel_rfl) rfl (fun K hK => ?_)
          go_simp
          refine hK.out _ _ ?_
          clear hK K hHeld z0 z1 z3
          try simp only [Act.put, List.setIfInBounds_toArray, List.set_cons_zero, List.set_cons_succ]
          have HD3 := Fact.mk (HDL.out.keep K3.out)
          obtain ⟨hkb, hkl, hyl, g, d', xs, hvk, hrow, hx1, hgp, hgP, hlast⟩ := HD3.out.last
          rw [← HKI.out] at hkl hlast
          simp only [Value.slice.injEq, true_and] at hvk
          obtain ⟨rfl, rfl⟩ := hvk
          have hfz := HD3.out.blk.free (po + 2)
          have HB3 := Fact.mk HD3.out.blk
          have HPB := Fact.mk HD3.out.pbs
          have CD : Fact (Calls Tryz.prog 202 #[.slice (some ⟨g, 0, none⟩) y.kids.length dk, .int .i64 ki, .int .i64 ((ki : Int) + 1)] w3 (Deleted w3 v1.heap.size g y.kids.length dk ki xs)) := ⟨del202 w3 v1.heap.size g y.kids.length dk ki xs hrow hkl (by omega) hx1⟩
          have HLAST := Fact.mk hlast
          have hki9 : (ki : Int) ≤ 1000 := by omega
          have hki0 : (0 : Int) ≤ ki := by omega
          clear hrow hx1 hlast hkb HD3 HDL
          go_upto_region 17 with (go_at_call 202; go_must (refine (CD.out).mono ?_); rintro e w4 ⟨rfl, hrow4, hk4⟩; have HR4 := Fact.mk hrow4; have K4 := Fact.mk hk4; have z2 := hk4.cell (p := ⟨pb, po + 2, none⟩) (Ne.symm hgp) z2; have hfz := (HB3.out.keep hk4 (Ne.symm hgp)).free (po + 2); clear hrow4 hk4)
          obtain ⟨VB, VK, hb5, hr5⟩ := HLAST.out w4 HR4.out K4.out
          obtain ⟨W5, hW5⟩ : ∃ X, X = w4.setCell ⟨pb, po + 2, none⟩ (.slice (some ⟨g, 0, none⟩) (y.kids.length - 1) dk) := ⟨_, rfl⟩
          have K5 : Fact (Keep (fun i => i ≠ pb) w4 W5) := ⟨hW5 ▸ (Keep.refl _ w4).setCell (p := ⟨pb, po + 2, none⟩) (.inr fun h => h rfl) _⟩
          rw [← hW5] at hb5 hr5 ⊢
          obtain ⟨Q1, q1, Q2, q2, rfl, rfl⟩ := hr5.forms
          have HB5 := Fact.mk hb5
          have HR5 := Fact.mk hr5
          have hpb := HPB.out
          have KA : Fact (Keep All w W5) := ⟨((((((KB.out.trans K1.out).trans KO.out).trans KW2.out).trans hkp.out).trans K3.out).then_ K4.out fun i hi _ => by show i ≠ g; omega).then_ K5.out fun i hi _ => by show i ≠ pb; omega⟩
          have b6 := (((((((B2.out.keep K1.out trivial).keep KO.out trivial).keep KW2.out trivial).keep hkp.out trivial).keep K3.out trivial).keep K4.out (by show w.heap.size + 1 ≠ g; omega)).keep K5.out (by show w.heap.size + 1 ≠ pb; omega))
          have D6 := Fact.mk b6
          have p0 := b6.cell 0 _ rfl
          have p1 := b6.cell 1 _ rfl
          have p2 := b6.cell 2 _ rfl
          have f0 := b6.free 0
          have f1 := b6.free 1
          have f2 := b6.free 2
          have u0 := hb5.cell 0 _ rfl
          have u1 := hb5.cell 1 _ rfl
          have u2 := hb5.cell 2 _ rfl
          clear hW5 hb5 hr5 b6 hfz z2
          go_wp2
          refine bodyPost_ret (results_58_tmp rfl _ _ (w.heap.size + 1) _ _ _ rfl (D6.out.set3 _ _ _)) rfl ?_
          have hks : Keep (fun i => i ≠ w.heap.size + 1) W5 (set3 W5 (w.heap.size + 1) (.int .i64 (delN n l).kind) (.slice Q1 (delN n l).bytes.length q1) (.slice Q2 (delN n l).kids.length q2)) := (Keep.refl _ _).set3 _ (.inr fun h => h rfl) _ _ _
          refine ⟨?_, KA.out.set3 _ (.inl (by omega)) _ _ _⟩
          rw [HF.out]
          exact ⟨_, rfl, Q1, q1, Q2, q2, rfl, ((HR5.out.mono (H := fun i => i ≠ w.heap.size + 1 ∧ w.heap.size ≤ i) fun i _ hi => by omega).keep (hks.mono fun i hi => hi.1)).mono fun i _ hi => hi.2⟩
end Go.Proofs.YtddmbdigdnmfgaaGreatDoor
