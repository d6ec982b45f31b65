/- The builder's state: a pile of any trees; take, put, told, leaf, text. -/
import Derived.Test.YtddmbdigdnmfgaaGreatDoorQGTake
import Derived.Test.YtddmbdigdnmfgaaGreatDoorQGPut3
import Derived.Test.YtddmbdigdnmfgaaGreatDoorQGEqual
import Derived.Test.YtddmbdigdnmfgaaGreatDoorQRec7
namespace Go.Proofs.YtddmbdigdnmfgaaGreatDoor
open Go.RowKit
set_option maxHeartbeats 1000000
set_option maxRecDepth 100000

def errFail : Ending := .panicked [{ v := .iface 28 (.int .i64 19), recovered := false }]
theorem must111_not (w : World) : Calls Tryz.prog 111 #[.bool false] w fun e w' => e = errFail ∧ w = w' := by
  go_enter Tryz.func111, Tryz.ntmps111
  go_wp2
  exact ⟨rfl, rfl, rfl⟩
def RepL (w : World) (G : Nat → Prop) : List PNode → List Value → Prop
  | [], cs => cs = []
  | x :: r, cs => ∃ vb vk d, cs = .int .i64 x.kind :: vb :: vk :: d ∧ RepN w G x vb vk ∧ RepL w G r d
section
variable {w w' : World} {G H : Nat → Prop}
theorem RepL.keep (k : Keep G w w') : ∀ {l : List PNode} {cs : List Value}, RepL w G l cs → RepL w' G l cs
  | [], _, h => h
  | _ :: _, _, ⟨vb, vk, d, h1, h2, h3⟩ => ⟨vb, vk, d, h1, h2.keep k, RepL.keep k h3⟩
theorem RepL.mono (hi : ∀ i, i < w.heap.size → G i → H i) : ∀ {l : List PNode} {cs : List Value}, RepL w G l cs → RepL w H l cs
  | [], _, h => h
  | _ :: _, _, ⟨vb, vk, d, h1, h2, h3⟩ => ⟨vb, vk, d, h1, h2.mono hi, RepL.mono hi h3⟩
theorem RepL.len : ∀ {l : List PNode} {cs : List Value}, RepL w G l cs → cs.length = l.length * 3
  | [], _, h => by rw [RepL] at h; subst h; rfl
  | _ :: r, _, ⟨vb, vk, d, h1, h2, h3⟩ => by
    have := RepL.len h3
    subst h1
    simp only [List.length_cons]
    omega
theorem RepL.app : ∀ {l l' : List PNode} {cs cs' : List Value}, RepL w G l cs → RepL w G l' cs' → RepL w G (l ++ l') (cs ++ cs')
  | [], l', cs, cs', h, h' => by rw [RepL] at h; subst h; exact h'
  | _ :: r, l', _, cs', ⟨vb, vk, d, h1, h2, h3⟩, h' => by
    subst h1
    exact ⟨vb, vk, d ++ cs', rfl, h2, RepL.app h3 h'⟩
theorem RepL.split : ∀ {l l' : List PNode} {cs : List Value}, RepL w G (l ++ l') cs → ∃ c1 c2, cs = c1 ++ c2 ∧ RepL w G l c1 ∧ RepL w G l' c2
  | [], l', cs, h => ⟨[], cs, rfl, rfl, h⟩
  | x :: r, l', cs, h => by
    obtain ⟨vb, vk, d, h1, h2, h3⟩ := h
    obtain ⟨c1, c2, e, h4, h5⟩ := RepL.split h3
    subst h1 e
    exact ⟨.int .i64 x.kind :: vb :: vk :: c1, c2, rfl, ⟨vb, vk, c1, rfl, h2, h4⟩, h5⟩
theorem RepL.one : ∀ {l : List PNode} {cs : List Value}, RepL w G l cs → ∀ u ∈ cs, u.oneCell' = true
  | [], _, h, u, hu => by rw [RepL] at h; subst h; cases hu
  | _ :: r, _, ⟨vb, vk, d, h1, h2, h3⟩, u, hu => by
    subst h1
    obtain ⟨A, c, B, d', rfl, rfl⟩ := h2.forms
    simp only [List.mem_cons] at hu
    rcases hu with rfl | rfl | rfl | hu
    · rfl
    · rfl
    · rfl
    · exact RepL.one h3 u hu
theorem RepL.get : ∀ {l : List PNode} {cs : List Value}, RepL w G l cs → ∀ k (hk : k < l.length), ∃ A c B d, cs[k * 3]? = some (.int .i64 l[k].kind) ∧ cs[k * 3 + 1]? = some (.slice A l[k].bytes.length c) ∧ cs[k * 3 + 2]? = some (.slice B l[k].kids.length d) ∧ RepN w G l[k] (.slice A l[k].bytes.length c) (.slice B l[k].kids.length d)
  | [], _, _, k, hk => absurd hk (by simp)
  | x :: r, _, ⟨vb, vk, d, h1, h2, h3⟩, 0, _ => by
    subst h1
    obtain ⟨A, c, B, d', rfl, rfl⟩ := h2.forms
    exact ⟨A, c, B, d', rfl, rfl, rfl, h2⟩
  | x :: r, _, ⟨vb, vk, d, h1, h2, h3⟩, k + 1, hk => by
    subst h1
    obtain ⟨A, c, B, d', e0, e1, e2, h4⟩ := RepL.get h3 k (by simpa using hk)
    refine ⟨A, c, B, d', ?_, ?_, ?_, h4⟩
    · rw [show (k + 1) * 3 = k * 3 + 3 by omega]; exact e0
    · rw [show (k + 1) * 3 + 1 = k * 3 + 1 + 3 by omega]; exact e1
    · rw [show (k + 1) * 3 + 2 = k * 3 + 2 + 3 by omega]; exact e2
end
/-- Neither the builder nor the pile's own block. -/
def Gp (p : Nat) (pv : Value) (i : Nat) : Prop := i ≠ p ∧ pv.ownBlock ≠ some i
structure BSt (w : World) (p base used fuel at_ : Nat) (ov : Value) (rest : List Value) (pile : List PNode) (pv : Value) : Prop where
  blk : BlkB w p used fuel pv ov at_ rest
  pb : p < base
  size : base ≤ w.heap.size
  used_ : used ≤ fuel
  fuel_ : fuel ≤ 1000000
  len_ : pile.length ≤ 16
  right_ : pile.all rightP = true
  row : ∃ cs, w.ownsRow base 58 3 pv pile.length cs ∧ RepL w (Gp p pv) pile cs
def cntL (l : List PNode) : Nat := (l.map PNode.cnt).sum
noncomputable def putR (pile ys : List PNode) (at_ : Nat) : Option (List PNode × Nat × Nat) := if ys.all rightP = true ∧ pile.length + ys.length ≤ 16 then some (pile ++ ys, cntL ys, at_) else none
def Kb (base p i : Nat) : Prop := i < base ∧ i ≠ p
/-- What an operation leaves. -/
def OpOut (K : Nat → Prop) (w : World) (p base used fuel : Nat) (ov : Value) (rest : List Value) (r : Option (List PNode × Nat × Nat)) (e : Ending) (w' : World) : Prop :=
  (match r with
   | none => e = errFail ∧ ∃ pv at_, BlkB w' p used fuel pv ov at_ rest
   | some q => if used + q.2.1 ≤ fuel then e = .returned (.tuple #[]) ∧ ∃ pv, BSt w' p base (used + q.2.1) fuel q.2.2 ov rest q.1 pv else e = outOfFuel ∧ ∃ pv at_, BlkB w' p fuel fuel pv ov at_ rest) ∧ Keep K w w'
section
variable {K : Nat → Prop} {w w' : World} {p base used fuel at_ : Nat} {ov pv : Value} {rest : List Value} {pile : List PNode} {r : Option (List PNode × Nat × Nat)} {e : Ending}
theorem BSt.row_lt (h : BSt w p base used fuel at_ ov rest pile pv) {g : Nat} (hg : pv.ownBlock = some g) : base ≤ g ∧ g < w.heap.size := by
  obtain ⟨cs, h1, -⟩ := h.row
  exact h1.lt g hg
theorem BSt.keep (h : BSt w p base used fuel at_ ov rest pile pv) (k : Keep All w w') : BSt w' p base used fuel at_ ov rest pile pv := by
  obtain ⟨h1, h2, h3, h4, h5, hl, hr, cs, h6, h7⟩ := h
  exact ⟨Blk.keep h1 k trivial, h2, Nat.le_trans h3 k.size, h4, h5, hl, hr, cs, own_keep h6 k fun _ _ => trivial, h7.keep k.all⟩
theorem OpOut.from_ {K' : Nat → Prop} {w0 : World} (h : OpOut K w p base used fuel ov rest r e w') (k : Keep K' w0 w) (hi : ∀ i, K' i → K i) : OpOut K' w0 p base used fuel ov rest r e w' :=
  ⟨h.1, k.trans (h.2.mono hi)⟩
theorem BSt.rightTop {xs : List PNode} {x : PNode} (h : BSt w p base used fuel at_ ov rest (xs ++ [x]) pv) : rightP x = true := List.all_eq_true.1 h.right_ x (by simp)
theorem BSt.kb (h : BSt w p base used fuel at_ ov rest pile pv) (i : Nat) (hi : Kb base p i) : Gp p pv i := ⟨hi.2, fun e => by have := (h.row_lt e).1; have := hi.1; omega⟩
theorem OpOut.ends (h : OpOut K w p base used fuel ov rest r e w') : e = .returned (.tuple #[]) ∨ e = errFail ∨ e = outOfFuel := by
  obtain ⟨h, -⟩ := h
  split at h
  · exact .inr (.inl h.1)
  · split at h
    · exact .inl h.1
    · exact .inr (.inr h.1)
theorem opout_fail (h : BlkB w' p used fuel pv ov at_ rest) (k : Keep K w w') : OpOut K w p base used fuel ov rest none errFail w' := ⟨⟨rfl, pv, at_, h⟩, k⟩
end
/-- An error, and all but the builder as it was. -/
def FailB (w : World) (p used fuel : Nat) (ov : Value) (rest : List Value) (e : Ending) (w' : World) : Prop := e = errFail ∧ (∃ pv at_, BlkB w' p used fuel pv ov at_ rest) ∧ Keep (fun i => i ≠ p) w w'
theorem FailB.opout {K : Nat → Prop} {w w' : World} {p base used fuel : Nat} {ov : Value} {rest : List Value} {e : Ending} (h : FailB w p used fuel ov rest e w') (hi : ∀ i, K i → i ≠ p) : OpOut K w p base used fuel ov rest none e w' := ⟨⟨h.1, h.2.1⟩, h.2.2.mono hi⟩
/-- The topmost tree is taken. -/
def TookG (w : World) (p base used fuel at_ : Nat) (ov : Value) (rest : List Value) (xs : List PNode) (x : PNode) (pv : Value) (e : Ending) (w' : World) : Prop :=
  ∃ v pv', e = .returned v ∧ BSt w' p base used fuel at_ ov rest xs pv' ∧ pv'.ownBlock = pv.ownBlock ∧ NodeV w' (Gp p pv') x v ∧ Keep (fun i => i ≠ p) w w'
section
variable (w : World) (p base used fuel at_ : Nat) (ov pv : Value) (rest : List Value)
theorem take162g (xs : List PNode) (x : PNode) (h : BSt w p base used fuel at_ ov rest (xs ++ [x]) pv) : Calls Tryz.prog 162 #[.pointer (some ⟨p, 0, none⟩)] w (TookG w p base used fuel at_ ov rest xs x pv) := by
  obtain ⟨hb, hpb, hbs, hu, hf, hl16, hra, cs, hrow, hrep⟩ := h
  obtain ⟨c1, c2, rfl, hr1, hr2⟩ := hrep.split
  obtain ⟨vb, vk, d, rfl, hrx, hd⟩ := hr2
  rw [RepL] at hd
  subst hd
  obtain ⟨Ax, cx, Bx, dx, rfl, rfl⟩ := hrx.forms
  rw [List.length_append, List.length_singleton] at hrow
  obtain ⟨g, pc, cur, rfl, hbg, hgb, hpc, hpm, -, -⟩ := own_blk hrow (by omega)
  obtain ⟨n, hn⟩ : ∃ n, n = xs.length := ⟨_, rfl⟩
  rw [← hn] at hrow hpc ⊢ hb
  have hx : c1.length = n * 3 := by rw [hr1.len, hn]
  have H := Fact.mk hb
  have HROW := Fact.mk hrow
  have HR1 := Fact.mk hr1
  have HRX := Fact.mk hrx
  have HX := Fact.mk hx
  have HN := Fact.mk hn
  have c2 := Blk.cell hb 2 _ rfl
  have f2 := Blk.free hb 2
  have hlt := hb.lt
  have hg := hgb.lt
  have hn9 : n + 1 ≤ 9223372036854775807 := by unfold maxLen at hpm; omega
  have hn8 : (n : Int) + 1 ≤ 9223372036854775807 := by omega
  have hgp : g ≠ p := by omega
  have q0 : w.cell? ⟨g, n * 3, none⟩ = some (.int .i64 x.kind) := (hrow.cellAt (n * 3) (by omega)).trans (by rw [List.getElem?_append_right (by omega), hx]; simp)
  have q1 : w.cell? ⟨g, n * 3 + 1, none⟩ = some (.slice Ax x.bytes.length cx) := (hrow.cellAt (n * 3 + 1) (by omega)).trans (by rw [List.getElem?_append_right (by omega), hx]; simp)
  have q2 : w.cell? ⟨g, n * 3 + 2, none⟩ = some (.slice Bx x.kids.length dx) := (hrow.cellAt (n * 3 + 2) (by omega)).trans (by rw [List.getElem?_append_right (by omega), hx]; simp)
  clear hb hrow hr1 hrx hgb hpm hx hn hrep
  go_enter Tryz.func162, Tryz.ntmps162
  go_wp2_with (go_at_call 111; go_must (refine (must111 _).mono ?_); rintro e v ⟨rfl, rfl⟩)
  have hB := Blk.new (w.setCell ⟨p, 2, none⟩ (.slice (some ⟨g, 0, none⟩) n pc)) [.int .i64 x.kind, .slice Ax x.bytes.length cx, .slice Bx x.kids.length dx] 58
  rw [show (w.setCell ⟨p, 2, none⟩ (.slice (some ⟨g, 0, none⟩) n pc)).heap.size = w.heap.size from by simp [World.setCell]] at hB
  refine bodyPost_ret (results_58 rfl _ _ w.heap.size _ _ _ rfl (hB.alloc _)) rfl ?_
  have hK : Keep (fun i => i ≠ p) w (w.setCell ⟨p, 2, none⟩ (.slice (some ⟨g, 0, none⟩) n pc)) := (Keep.refl _ w).setCell (p := ⟨p, 2, none⟩) (.inr fun h => h rfl) _
  have hK2 := (hK.alloc (.cells #[.int .i64 x.kind, .slice Ax x.bytes.length cx, .slice Bx x.kids.length dx] 58)).alloc (.cells #[.int .i64 x.kind, .slice Ax x.bytes.length cx, .slice Bx x.kids.length dx] 58)
  refine ⟨_, .slice (some ⟨g, 0, none⟩) n pc, rfl, ⟨((Blk.set H.out 2 _).alloc _).alloc _, hpb, Nat.le_trans hbs hK2.size, hu, hf, by rw [List.length_append] at hl16; omega, by rw [List.all_append, Bool.and_eq_true] at hra; exact hra.1, c1, ?_, ?_⟩, rfl, ⟨Ax, cx, Bx, dx, rfl, ?_⟩, hK2⟩
  · rw [← HN.out]
    exact own_keep (row_shrink HROW.out HX.out) hK2 (fun g' hg' => by cases hg'; exact hgp)
  · exact (HR1.out.keep (hK2.mono fun i hi => hi.1)).mono fun i _ hi => hi
  · exact (HRX.out.keep (hK2.mono fun i hi => hi.1)).mono fun i _ hi => hi
theorem take162_nil (h : BSt w p base used fuel at_ ov rest [] pv) : Calls Tryz.prog 162 #[.pointer (some ⟨p, 0, none⟩)] w (FailB w p used fuel ov rest) := by
  obtain ⟨hb, hpb, hbs, hu, hf, hl16, hra, cs, hrow, hrep⟩ := h
  obtain ⟨A, c, rfl⟩ := own_form hrow
  have H := Fact.mk hb
  have c2 := Blk.cell hb 2 _ rfl
  have hlt := hb.lt
  clear hb hrow hrep
  simp only [List.length_nil] at c2 H ⊢
  go_enter Tryz.func162, Tryz.ntmps162
  go_wp2_with (go_at_call 111; go_must (refine (must111_not _).mono ?_); rintro e v ⟨he, rfl⟩; unfold errFail at he; subst he)
  exact ⟨rfl, rfl, ⟨_, _, Blk.alloc H.out _⟩, (Keep.refl _ w).alloc _⟩
end
end Go.Proofs.YtddmbdigdnmfgaaGreatDoor

/- Trees put on the pile, whatever they are: as many as there are, or an error. -/
namespace Go.Proofs.YtddmbdigdnmfgaaGreatDoor
open Go.RowKit
set_option maxHeartbeats 1000000
set_option maxRecDepth 100000

theorem cntL_take {ys : List PNode} {j : Nat} (h : j < ys.length) : cntL (ys.take (j + 1)) = cntL (ys.take j) + ys[j].cnt := by
  unfold cntL
  rw [List.take_succ_eq_append_getElem h, List.map_append, List.sum_append]
  simp
theorem all_take {ys : List PNode} {j : Nat} (h : j < ys.length) (ha : (ys.take j).all rightP = true) (hb : rightP ys[j] = true) : (ys.take (j + 1)).all rightP = true := by
  rw [List.take_succ_eq_append_getElem h, List.all_append, ha]
  simpa using hb
theorem all_not {ys : List PNode} {j : Nat} (h : j < ys.length) (hb : rightP ys[j] = false) : ys.all rightP = false := by
  rw [Bool.eq_false_iff]
  intro ha
  have := List.all_eq_true.1 ha _ (List.getElem_mem h)
  rw [this] at hb
  cases hb
section
variable (w : World) (p base used fuel at_ : Nat) (ov pv : Value) (rest : List Value)
theorem put171g (Gs : Nat → Prop) (pile ys : List PNode) (cells : List Value) (A : Option Addr) (c : Nat) (h : BSt w p base used fuel at_ ov rest pile pv) (hs : Sl w Gs 3 (.slice A ys.length c) ys.length cells) (hr : RepL w Gs ys cells) (hG : ∀ i, Gs i → Gp p pv i)
    (hm0 : 0 < ys.length) (hm4 : ys.length ≤ 4) : Calls Tryz.prog 171 #[.pointer (some ⟨p, 0, none⟩), .slice A ys.length c] w (OpOut (Gp p pv) w p base used fuel ov rest (putR pile ys at_)) := by
  have hlenc := hr.len
  have HSL := Fact.mk (hs.mono (H := fun i => Gs i ∧ i < w.heap.size) fun i hi hg => ⟨hg, hi⟩)
  obtain ⟨h1c, A', c', he, hcl, hcw, hcm, hA, hx⟩ := id hs
  simp only [Value.slice.injEq, true_and] at he
  obtain ⟨rfl, rfl⟩ := he
  obtain ⟨nb, no, rfl, hg, hat⟩ := hx (by omega)
  have HAT : Fact (∀ j (hj : j < ys.length), ∃ Ax cx Bx dx, w.cell? ⟨nb, no + j * 3, none⟩ = some (.int .i64 ys[j].kind) ∧ w.cell? ⟨nb, no + j * 3 + 1, none⟩ = some (.slice Ax ys[j].bytes.length cx) ∧ w.cell? ⟨nb, no + j * 3 + 2, none⟩ = some (.slice Bx ys[j].kids.length dx) ∧
      RepN w Gs ys[j] (.slice Ax ys[j].bytes.length cx) (.slice Bx ys[j].kids.length dx)) := ⟨fun j hj => by
    obtain ⟨Ax, cx, Bx, dx, e0, e1, e2, h4⟩ := hr.get j hj
    have i0 := hat.get _ _ e0
    have i1 := hat.get _ _ e1
    have i2 := hat.get _ _ e2
    simp only [← Nat.add_assoc] at i1 i2
    exact ⟨Ax, cx, Bx, dx, i0, i1, i2, h4⟩⟩
  obtain ⟨m, hm⟩ : ∃ m, m = ys.length := ⟨_, rfl⟩
  have H := Fact.mk h
  have HM := Fact.mk hm
  have HREP := Fact.mk (hr.mono (H := fun i => Gs i ∧ i < w.heap.size) fun i hi hg => ⟨hg, hi⟩)
  have HG := Fact.mk hG
  have hm0' : 0 < m := by omega
  have hm4' : m ≤ 4 := by omega
  have hnl : nb < w.heap.size := hat.lt (by omega)
  rw [← hm] at HSL ⊢
  clear h hs hr hG hg hat hx hA hcm hcw hcl h1c hm hm0 hm4 hlenc
  go_enter Tryz.func171, Tryz.ntmps171
  go_wp2
  go_loopg [4, 12] m (fun g vs vj w' => ∃ (j s : Nat), j + g = m ∧ vs = .int .i64 s ∧ vj = .int .i64 j ∧ s = cntL (ys.take j) ∧ s ≤ 200 * j ∧ Fact ((ys.take j).all rightP = true) ∧ Fact (Keep All w w'))
  case atStart => exact ⟨0, 0, by omega, rfl, rfl, rfl, by omega, ⟨rfl⟩, ⟨Keep.refl _ _⟩⟩
  case round =>
    obtain ⟨j, s, hj, rfl, rfl, hsum, hs200, hall, hkp⟩ := hrel
    have HJ := Fact.mk hj
    have HSUM := Fact.mk hsum
    clear hj hsum
    by_cases hlt : j < m
    · have hjl : j < ys.length := by have := HM.out; omega
      obtain ⟨Ax, cx, Bx, dx, a0, a1, a2, hrj⟩ := HAT.out j hjl
      have e0 := hkp.out.cell (p := ⟨nb, no + j * 3, none⟩) trivial a0
      have e1 := hkp.out.cell (p := ⟨nb, no + j * 3 + 1, none⟩) trivial a1
      have e2 := hkp.out.cell (p := ⟨nb, no + j * 3 + 2, none⟩) trivial a2
      obtain ⟨kj, hkj⟩ : ∃ q, q = ys[j] := ⟨_, rfl⟩
      rw [← hkj] at e0 e1 e2 hrj
      obtain ⟨qr, hqr⟩ : ∃ q, q = rightP kj := ⟨_, rfl⟩
      have NV : Fact (∀ w1, Keep All wr w1 → NodeV w1 Gs kj (.agg #[.int .i64 kj.kind, .slice Ax kj.bytes.length cx, .slice Bx kj.kids.length dx])) := ⟨fun w1 hk => ⟨Ax, cx, Bx, dx, rfl, hrj.keep (hkp.out.trans hk).all⟩⟩
      have HKJ := Fact.mk hkj
      have C29 : Fact (Calls Tryz.prog 29 #[.agg #[.int .i64 kj.kind, .slice Ax kj.bytes.length cx, .slice Bx kj.kids.length dx]] (wr.alloc (.cells #[.int .i64 kj.kind, .slice Ax kj.bytes.length cx, .slice Bx kj.kids.length dx] 58)) fun e w' => e = .returned (.bool qr) ∧ Keep All (wr.alloc (.cells #[.int .i64 kj.kind, .slice Ax kj.bytes.length cx, .slice Bx kj.kids.length dx] 58)) w') := ⟨hqr ▸ right29g _ _ kj _ (NV.out _ ((Keep.refl _ _).alloc _))⟩
      have HQR := Fact.mk hqr
      clear a0 a1 a2 hrj hkj hqr
      cases qr with
      | false =>
        have HF : Fact (putR pile ys at_ = none) := ⟨by
          have : ys.all rightP = false := all_not hjl (by rw [← HKJ.out]; exact HQR.out.symm)
          rw [putR, if_neg (fun h => by rw [this] at h; cases h.1)]⟩
        go_wp2_with (first
          | (go_at_call 29; go_must (refine (C29.out).mono ?_); rintro e w1 ⟨rfl, hk⟩; have K1 := Fact.mk (((Keep.refl All wr).alloc _).trans hk); clear hk)
          | (go_at_call 111; go_must (refine (must111_not _).mono ?_); rintro e v ⟨he, rfl⟩; unfold errFail at he; subst he))
        refine ⟨rfl, ?_⟩
        rw [HF.out]
        have hk := hkp.out.trans K1.out
        exact opout_fail (Blk.keep H.out.blk hk trivial) hk.all
      | true =>
        have hct : kj.cnt ≤ 200 := rightP_cnt HQR.out.symm
        go_wp2_with (first
          | (go_at_call 29; go_must (refine (C29.out).mono ?_); rintro e w1 ⟨rfl, hk⟩; have K1 := Fact.mk (((Keep.refl All wr).alloc _).trans hk); have B1 := (Blk.new wr [.int .i64 kj.kind, .slice Ax kj.bytes.length cx, .slice Bx kj.kids.length dx] 58).keep hk trivial; have t0 := B1.cell 0 _ rfl; have t1 := B1.cell 1 _ rfl; have t2 := B1.cell 2 _ rfl; clear hk B1)
          | (go_at_call 111; go_must (refine (must111 _).mono ?_); rintro e v ⟨rfl, rfl⟩)
          | (go_at_call 204; go_must (refine (count204g _ Gs kj _ (NV.out _ K1.out) HQR.out.symm).mono ?_); rintro e w2 ⟨⟨dp, bts, rfl⟩, hk⟩; have K2 := Fact.mk (K1.out.trans hk); clear hk))
        go_roundg (gk - 1)
        case measure => have := HJ.out; omega
        case rel =>
          exact ⟨j + 1, s + kj.cnt, by have := HJ.out; omega, by go_num, by go_num, by rw [cntL_take hjl, HSUM.out, HKJ.out], by omega, ⟨all_take hjl hall.out (by rw [← HKJ.out]; exact HQR.out.symm)⟩, ⟨hkp.out.trans K2.out⟩⟩
    · obtain rfl : j = m := by have := HJ.out; omega
      have hall' : ys.all rightP = true := by
        have := hall.out
        rwa [HM.out, List.take_length] at this
      have HALL := Fact.mk hall'
      have HSUM2 : Fact (s = cntL ys) := ⟨by
        have := HSUM.out
        rwa [HM.out, List.take_length] at this⟩
      have HB := Fact.mk (H.out.keep hkp.out)
      obtain ⟨hbk, hpb, hbs, hu, hf, hl16, hra, cs, hrow, hrepp⟩ := H.out.keep hkp.out
      obtain ⟨PA, pc, rfl⟩ := own_form hrow
      obtain ⟨n, hn⟩ : ∃ n, n = pile.length := ⟨_, rfl⟩
      rw [← hn] at hrow hbk hrepp HB HG
      have hs800 : s ≤ 800 := by omega
      have hn9 : (n : Int) + j ≤ 9223372036854775807 := by omega
      have c2 := Blk.cell hbk 2 _ rfl
      have hlt := hbk.lt
      have H2 := Fact.mk hbk
      have HROW := Fact.mk hrow
      have HRP := Fact.mk (hrepp.mono (H := fun i => Gp p (.slice PA n pc) i ∧ i < wr.heap.size) fun i hi hg => ⟨hg, hi⟩)
      have HPV : Fact ((Value.slice PA n pc).ownBlock ≠ some p) := ⟨fun e => by have := (hrow.lt p e).1; omega⟩
      have HN := Fact.mk hn
      clear hbk hrow hrepp hall' hn
      by_cases hlen : n + j ≤ 16
      · have hn' : (n : Int) + j ≤ 16 := by omega
        have HF : Fact (putR pile ys at_ = some (pile ++ ys, cntL ys, at_)) := ⟨by
          rw [putR, if_pos ⟨HALL.out, by rw [← HN.out, ← HM.out]; exact hlen⟩]⟩
        have HSM : Fact (Small (used + s)) := ⟨Small.of (by omega)⟩
        by_cases hfu : used + s ≤ fuel
        · go_wp2_with (first
            | (go_at_call 111; go_must (refine (must111 _).mono ?_); rintro e v ⟨rfl, rfl⟩)
            | (go_at_call 112; go_must (refine (spend112 _ p used fuel s at_ _ ov rest H2.out HSM.out hfu).mono ?_); rintro e w3 ⟨rfl, h3, hk⟩; have H3 := Fact.mk h3; have K3 := Fact.mk hk; have c3 := Blk.cell h3 2 _ rfl; have HROW3 := Fact.mk (own_keep HROW.out hk (fun g hg => by have := (HROW.out.lt g hg).1; show g ≠ p; omega)); have HN3 := Fact.mk ((HSL.out.keep hkp.out.all).keep (hk.mono fun i hi => (HG.out i hi.1).1)); clear hk h3)
            | (at_builtin; go_must (refine wpList_ap rfl _ _ 131 58 3 56 base n j HROW3.out HN3.out rfl T131 rfl rfl (Fits.of (n := n) (m := j) (Small.of (by omega)) 56 (by decide)) (Nat.le_trans hbs K3.out.size) ?_); intro v' w4 ho hg hb; have HO := Fact.mk ho; have HBK := Fact.mk hb; have H4 := Fact.mk (Blk.grown H3.out hg HPV.out); have HGR := Fact.mk hg; obtain ⟨A4, c4, rfl⟩ := own_form ho; have f4 := Blk.free H4.out 2; have c4' := Blk.cell H4.out 2 _ rfl; clear ho hg hb))
          go_end0
          have hsc : ∀ (X : World) (q : Addr) (u : Value), (X.setCell q u).heap.size = X.heap.size := fun X q u => by simp [World.setCell]
          have k5 : Keep (fun i => i ≠ p ∧ (Value.slice PA n pc).ownBlock ≠ some i) wr (w4.setCell ⟨p, 2, none⟩ (.slice A4 (n + j) c4)) :=
            ((K3.out.mono fun i hi => hi.1).grown HGR.out (fun q hq => .inr fun h => h.2 hq)).setCell (p := ⟨p, 2, none⟩) (.inr fun h => h.1 rfl) _
          have hne : ∀ g, (Value.slice A4 (n + j) c4).ownBlock = some g → g ≠ p := fun g hg => by
            have := (HO.out.lt g hg).1
            omega
          have hgp : ∀ i, i < wr.heap.size → Gp p (.slice PA n pc) i → Gp p (.slice A4 (n + j) c4) i := fun i hi hgi => ⟨hgi.1, fun e => by
            rcases HBK.out with h1 | h1
            · exact hgi.2 (h1 ▸ e)
            · rw [h1] at e
              cases e
              have := K3.out.size
              omega⟩
          have hws : w.heap.size ≤ wr.heap.size := hkp.out.size
          refine ⟨?_, hkp.out.all.then_ k5 fun i hi hb => ⟨hb.1, by rw [HN.out]; exact hb.2⟩⟩
          rw [HF.out]
          dsimp only
          rw [← HSUM2.out, if_pos hfu]
          refine ⟨rfl, .slice A4 (n + j) c4, Blk.set H4.out 2 _, hpb, Nat.le_trans hbs k5.size, hfu, hf, by rw [List.length_append, ← HN.out, ← HM.out]; exact hlen, by rw [List.all_append, hra, HALL.out]; rfl, cs ++ cells, ?_, ?_⟩
          · have := own_keep HO.out (G := fun i => i ≠ p) ((Keep.refl _ _).setCell (p := ⟨p, 2, none⟩) (.inr fun h => h rfl) (.slice A4 (n + j) c4)) hne
            rw [List.length_append, ← HN.out, ← HM.out]
            exact this
          · refine RepL.app ?_ ?_
            · exact (HRP.out.keep (k5.mono fun i hi => hi.1)).mono fun i _ hi => hgp i hi.2 hi.1
            · refine ((HREP.out.keep hkp.out.all).keep (k5.mono fun i hi => HG.out i hi.1)).mono fun i _ hi => hgp i (by omega) (HG.out i hi.1)
        · have hfu' : fuel < used + s := by omega
          go_wp2_with (first
            | (go_at_call 111; go_must (refine (must111 _).mono ?_); rintro e v ⟨rfl, rfl⟩)
            | (go_at_call 112; go_must (refine (spend112_out _ p used fuel s at_ _ ov rest H2.out HSM.out hfu').mono ?_); rintro e w3 ⟨he, h3, hk⟩; unfold outOfFuel at he; subst he; have H3 := Fact.mk h3; have K3 := Fact.mk hk; clear hk h3))
          refine ⟨rfl, ?_⟩
          rw [HF.out]
          refine ⟨?_, hkp.out.all.trans (K3.out.mono fun i hi => hi.1)⟩
          dsimp only
          rw [← HSUM2.out, if_neg hfu]
          exact ⟨rfl, _, _, H3.out⟩
      · have hn' : ¬ (n : Int) + j ≤ 16 := by omega
        have HF : Fact (putR pile ys at_ = none) := ⟨by
          rw [putR, if_neg (fun h => hlen (by rw [HN.out, HM.out]; exact h.2))]⟩
        go_wp2_with (go_at_call 111; go_must (refine (must111_not _).mono ?_); rintro e v ⟨he, rfl⟩; unfold errFail at he; subst he)
        refine ⟨rfl, ?_⟩
        rw [HF.out]
        exact opout_fail H2.out hkp.out.all
end
end Go.Proofs.YtddmbdigdnmfgaaGreatDoor

/- told, leaf, text, jump, same of the builder, at any pile. -/
namespace Go.Proofs.YtddmbdigdnmfgaaGreatDoor
open Go.RowKit
set_option maxHeartbeats 1000000
set_option maxRecDepth 100000

section
variable (w : World) (p base used fuel at_ : Nat) (ov pv : Value) (rest : List Value)
theorem BSt.ge {w : World} {p base used fuel at_ : Nat} {ov pv : Value} {rest : List Value} {pile : List PNode} (h : BSt w p base used fuel at_ ov rest pile pv) {i : Nat} (hi : w.heap.size ≤ i) : Gp p pv i := by
  refine ⟨by have := h.pb; have := h.size; omega, fun e => ?_⟩
  have := (h.row_lt e).2
  omega
theorem OpOut.ret {K : Nat → Prop} {w w' : World} {p base used fuel : Nat} {ov : Value} {rest : List Value} {r : Option (List PNode × Nat × Nat)} {v : Value} (h : OpOut K w p base used fuel ov rest r (.returned v) w') : OpOut K w p base used fuel ov rest r (.returned (.tuple #[])) w' := by
  have he := h.ends
  simp only [errFail, outOfFuel, reduceCtorEq, or_false, Ending.returned.injEq] at he
  exact he ▸ h
theorem OpOut.no {K : Nat → Prop} {w w' : World} {p base used fuel : Nat} {ov : Value} {rest : List Value} {r : Option (List PNode × Nat × Nat)} (h : OpOut K w p base used fuel ov rest r .outgrown w') : False := by
  have he := h.ends
  simp [errFail, outOfFuel] at he
noncomputable def toldR (pile : List PNode) (x : PNode) (er : Int) (at_ : Nat) : Option (List PNode × Nat × Nat) := if er = 0 then putR pile [x] at_ else none
theorem told163g (pile : List PNode) (x : PNode) (v : Value) (er : Int) (h : BSt w p base used fuel at_ ov rest pile pv) (hv : NodeV w (Gp p pv) x v) :
    Calls Tryz.prog 163 #[.pointer (some ⟨p, 0, none⟩), v, .int .i64 er] w (OpOut (Gp p pv) w p base used fuel ov rest (toldR pile x er at_)) := by
  obtain ⟨A, c, B, d, rfl, hrep⟩ := hv
  obtain ⟨W, hW⟩ : ∃ X, X = (w.alloc (.cells #[.int .i64 x.kind, .slice A x.bytes.length c, .slice B x.kids.length d] 58)).alloc (.cells #[.int .i64 x.kind, .slice A x.bytes.length c, .slice B x.kids.length d] 58) := ⟨_, rfl⟩
  have KW : Fact (Keep All w W) := ⟨hW ▸ ((Keep.refl _ w).alloc _).alloc _⟩
  have SW : Fact (Sl W (fun i => i = w.heap.size + 1) 3 (.slice (some ⟨w.heap.size + 1, 0, none⟩) 1 1) 1 [.int .i64 x.kind, .slice A x.bytes.length c, .slice B x.kids.length d]) := ⟨by
    have := Sl.new (w.alloc (.cells #[.int .i64 x.kind, .slice A x.bytes.length c, .slice B x.kids.length d] 58)) 58 3 1 [.int .i64 x.kind, .slice A x.bytes.length c, .slice B x.kids.length d] rfl (by decide) (by simp [Value.oneCell'])
    rw [World.size_alloc] at this
    rw [hW]
    exact this.mono fun i hi hg => by simp at hi hg; omega⟩
  have H := Fact.mk h
  have HREP := Fact.mk hrep
  have CP : Fact (Calls Tryz.prog 171 #[.pointer (some ⟨p, 0, none⟩), .slice (some ⟨w.heap.size + 1, 0, none⟩) 1 1] W (OpOut (Gp p pv) W p base used fuel ov rest (putR pile [x] at_))) := ⟨by
    refine put171g W p base used fuel at_ ov pv rest (Gp p pv) pile [x] [.int .i64 x.kind, .slice A x.bytes.length c, .slice B x.kids.length d] _ 1 (h.keep KW.out) (SW.out.mono fun i _ hi => by subst hi; exact h.ge (by omega)) ⟨_, _, [], rfl, hrep.keep KW.out.all, rfl⟩ (fun _ hi => hi) (by simp) (by simp)⟩
  have HW := Fact.mk hW
  clear h hrep hW
  by_cases her : er = 0
  · subst her
    go_enter Tryz.func163, Tryz.ntmps163
    go_wp2_with (first
      | (go_at_call 111; go_must (refine (must111 _).mono ?_); rintro e v ⟨rfl, rfl⟩)
      | (go_at_call 171; rw [← HW.out]; go_must (refine (CP.out).mono ?_); intro e w2 hq; have HQ := Fact.mk hq; clear hq))
    all_goals rw [show toldR pile x 0 at_ = putR pile [x] at_ by rw [toldR, if_pos rfl]]
    · go_end0
      exact (HQ.out.from_ KW.out.all fun _ h => h).ret
    · exact ⟨rfl, HQ.out.from_ KW.out.all fun _ h => h⟩
    · exact HQ.out.no.elim
  · have hb0 : (er == 0) = false := by simpa using her
    go_enter Tryz.func163, Tryz.ntmps163
    go_wp2_with (go_at_call 111; go_must (refine (must111_not _).mono ?_); rintro e v ⟨he, rfl⟩; unfold errFail at he; subst he)
    refine ⟨rfl, ?_⟩
    have hF : toldR pile x er at_ = none := by rw [toldR, if_neg her]
    rw [hF]
    exact opout_fail (Blk.alloc H.out.blk _) ((Keep.refl _ w).alloc _)
/-- A leaf goes onto the pile. -/
theorem leaf168g (Gb : Nat → Prop) (pile : List PNode) (k : Int) (b : List UInt8) (A : Option Addr) (c : Nat) (h : BSt w p base used fuel at_ ov rest pile pv) (hb : By w Gb (.slice A b.length c) b) (hs : Small b.length) :
    Calls Tryz.prog 168 #[.pointer (some ⟨p, 0, none⟩), .int .i64 k, .slice A b.length c] w (OpOut (Gp p pv) w p base used fuel ov rest (putR pile [.mk k b []] at_)) := by
  have H := Fact.mk h
  have HB := Fact.mk hb
  have HS := Fact.mk hs
  clear h hb hs
  go_enter Tryz.func168, Tryz.ntmps168
  go_wp2_with (first
    | (go_at_call 72; go_must (refine (clone72 _ Gb _ _ HB.out HS.out).mono ?_); rintro e w1 ⟨A1, c1, rfl, hby, hk⟩; have HY := Fact.mk hby; have K1 := Fact.mk hk; clear hby hk)
    | (go_at_call 171; go_must (refine (put171g _ p base used fuel at_ ov pv rest (Gp p pv) pile [.mk k b []] [.int .i64 k, .slice A1 b.length c1, .slice none 0 0] _ 1 (H.out.keep (K1.out.alloc _)) ((Sl.new w1 58 3 1 [.int .i64 k, .slice A1 b.length c1, .slice none 0 0] rfl (by decide) (by simp [Value.oneCell'])).mono fun i hi hg => (H.out.keep K1.out).ge hg)
        ⟨_, _, [], rfl, by rw [RepN]; exact ⟨(HY.out.keep ((Keep.refl _ _).alloc _)).mono fun i _ hi => H.out.ge hi, [], Sl.nil _ _ _, by rw [RepK]⟩, rfl⟩ (fun _ hi => hi) (by simp) (by simp)).mono ?_); intro e w2 hq; have HQ := Fact.mk hq; clear hq))
  · go_end0
    exact (HQ.out.from_ (K1.out.alloc _).all fun _ h => h).ret
  · exact ⟨rfl, HQ.out.from_ (K1.out.alloc _).all fun _ h => h⟩
  · exact HQ.out.no.elim
/-- A text is taken: the topmost tree must be a leaf of kind 1. -/
def TextG (pile : List PNode) (e : Ending) (w' : World) : Prop :=
  ∃ xs x, pile = xs ++ [x] ∧ ∃ A c pv', e = .returned (.slice A x.bytes.length c) ∧ BSt w' p base used fuel at_ ov rest xs pv' ∧ pv'.ownBlock = pv.ownBlock ∧ By w' (Gp p pv') (.slice A x.bytes.length c) x.bytes ∧ Keep (fun i => i ≠ p) w w'
theorem text167g (xs : List PNode) (x : PNode) (h : BSt w p base used fuel at_ ov rest (xs ++ [x]) pv) (hk : x.kind = 1) : Calls Tryz.prog 167 #[.pointer (some ⟨p, 0, none⟩)] w (TextG w p base used fuel at_ ov pv rest (xs ++ [x])) := by
  have H := Fact.mk h
  have HK := Fact.mk hk
  clear h hk
  go_enter Tryz.func167, Tryz.ntmps167
  go_wp2_with (first
    | (go_at_call 111; go_must (refine (must111 _).mono ?_); rintro e v ⟨rfl, rfl⟩)
    | (go_at_call 162; go_must (refine (take162g _ p base used fuel at_ ov pv rest xs x H.out).mono ?_); rintro e w1 ⟨v, pv', rfl, hb, hpv, ⟨Ax, cx, Bx, dx, rfl, hrx⟩, hk⟩; have hk1 := HK.out; have HB := Fact.mk hb; have HR := Fact.mk hrx; have K1 := Fact.mk hk; have HPV := Fact.mk hpv; clear hb hrx hk hpv))
  go_ret
  have hk := (Keep.refl All w1).alloc (.cells #[.int .i64 1, .slice Ax x.bytes.length cx, .slice Bx x.kids.length dx] 58)
  exact ⟨xs, x, rfl, Ax, cx, pv', rfl, HB.out.keep hk, HPV.out, (HR.out.open).2.2.2.2.2.2.1.keep hk.all, K1.out.alloc _⟩
theorem text167_not (xs : List PNode) (x : PNode) (h : BSt w p base used fuel at_ ov rest (xs ++ [x]) pv) (hk : x.kind ≠ 1) : Calls Tryz.prog 167 #[.pointer (some ⟨p, 0, none⟩)] w (FailB w p used fuel ov rest) := by
  have H := Fact.mk h
  have hb0 : (x.kind == 1) = false := by simpa using hk
  clear h
  go_enter Tryz.func167, Tryz.ntmps167
  go_wp2_with (first
    | (go_at_call 111; go_must (refine (must111_not _).mono ?_); rintro e v ⟨he, rfl⟩; unfold errFail at he; subst he)
    | (go_at_call 162; go_must (refine (take162g _ p base used fuel at_ ov pv rest xs x H.out).mono ?_); rintro e w1 ⟨v, pv', rfl, hb, hpv, ⟨Ax, cx, Bx, dx, rfl, hrx⟩, hk⟩; have HB := Fact.mk hb; have K1 := Fact.mk hk; clear hb hrx hk hpv))
  exact ⟨rfl, rfl, ⟨_, _, Blk.alloc HB.out.blk _⟩, K1.out.alloc _⟩
theorem text167_nil (h : BSt w p base used fuel at_ ov rest [] pv) : Calls Tryz.prog 167 #[.pointer (some ⟨p, 0, none⟩)] w (FailB w p used fuel ov rest) := by
  have H := Fact.mk h
  clear h
  go_enter Tryz.func167, Tryz.ntmps167
  go_wp2_with (go_at_call 162; go_must (refine (take162_nil _ p base used fuel at_ ov pv rest H.out).mono ?_); rintro e v ⟨he, hb⟩; unfold errFail at he; subst he; have HB := Fact.mk hb; clear hb)
  exact ⟨rfl, rfl, HB.out⟩
end
end Go.Proofs.YtddmbdigdnmfgaaGreatDoor

/- place: Put, Find, Take of the builder, at any pile. -/
namespace Go.Proofs.YtddmbdigdnmfgaaGreatDoor
open Go.RowKit
set_option maxHeartbeats 1000000
set_option maxRecDepth 100000

/- A drawn region behind which nothing need stand: n is no number of it; S holds throughout. -/
section
variable {P : Program} {ops : Array Oper} {Q : Exit → Act → World → Prop} {md : Region.Mode} {S : World → Prop} {n : Nat}
theorem wpAnyT_firstH {i : Nat} {oi : Oper} {v : Value} (hi : ops[i]? = some oi) (hsel : ∀ (j : Nat) (o : Oper) cs b, ops[j]? = some o → o.op ≠ .select cs b)
    (hQ : ∀ c a w, Q (.panic c) (a.put oi.dst v) w → Q (.panic c) a w) (hnn : ops[n]? = none) :
    ∀ (fuel : Nat) (listed : Array Bool) (a : Act) (w : World),
      (∀ j oj, ops[j]? = some oj → j ≠ i → listed.getD j true = false → (∀ e ∈ oj.after, Region.binds md e = true → e.on ≠ i) → oi.apart ops oj = true) →
      i ∈ Region.ready md ops listed → YieldsIf P ops S oi v a → S w →
      wpAnyT P md ops Q S n fuel (listed.setIfInBounds i true) (a.put oi.dst v) w → wpAnyT P md ops Q S n (fuel + 1) listed a w := by
  intro fuel
  induction fuel with
  | zero =>
    intro listed a w _ hr hy hS H
    refine ⟨fun h => (by rw [h] at hr; cases hr), fun j hj => ?_⟩
    by_cases hji : j = i
    · subst hji; exact hy.wpOp hi hS ⟨fun _ => hS, H⟩
    · have := ready_mono hj hji
      rw [H.1] at this
      cases this
  | succ fuel ih =>
    intro listed a w hfree hr hy hS H
    refine ⟨fun h => (by rw [h] at hr; cases hr), fun j hj => ?_⟩
    by_cases hji : j = i
    · subst hji; exact hy.wpOp hi hS ⟨fun _ => hS, H⟩
    · have h1 := H.2 j (ready_mono hj hji)
      obtain ⟨hjun, oj, hoj, hall⟩ := mem_ready.1 hj
      have hjn : j ≠ n := fun e => by rw [e, hnn] at hoj; cases hoj
      have hnot : ∀ e ∈ oj.after, Region.binds md e = true → e.on ≠ i := fun e he hb heq => by
        have h1 := hall e he hb
        have h0 := (mem_ready.1 hr).1
        rw [heq] at h1
        rcases Nat.lt_or_ge i listed.size with h' | h'
        · simp [h'] at h0 h1; rw [h0] at h1; cases h1
        · simp [Array.getElem?_eq_none h'] at h1
      have h2 := wpOp_putIf hoj (hfree j oj hoj hji hjun hnot) (fun cs b => hsel i oi cs b hi) (fun cs b => hsel j oj cs b hoj) hQ hy h1
      have hfree' : ∀ k ok, ops[k]? = some ok → k ≠ i → (listed.setIfInBounds j true).getD k true = false →
          (∀ e ∈ ok.after, Region.binds md e = true → e.on ≠ i) → oi.apart ops ok = true := fun k ok hk hki hun hno => by
        refine hfree k ok hk hki ?_ hno
        by_cases hjk : j = k
        · subst hjk; exact hjun
        · rw [getD_set_ne true hjk] at hun; exact hun
      refine wpOp_mono (fun a' w' h3 => ⟨fun h => h3.2.1 h, ih (listed.setIfInBounds j true) a' w' hfree' (ready_mono hr (Ne.symm hji)) h3.1 (h3.2.1 hjn) ?_⟩) h2
      rw [Array.setIfInBounds_comm _ _ hji]
      exact h3.2.2
end
section
variable {P : Program} {l : List Oper} {Q : Exit → Act → World → Prop} {md : Region.Mode} {S : World → Prop} {n : Nat}
theorem takeH {i : Nat} {oi : Oper} {v : Value} {fuel : Nat} {listed : Array Bool} {a : Act} {w : World} (hi : l[i]? = some oi)
    (hs : Region.noSelect l.toArray = true) (hf : Region.free md l.toArray listed i = true) (hr : (Region.ready md l.toArray listed).contains i = true) (hn : l[n]? = none)
    (hQ : ∀ c a w, Q (.panic c) (a.put oi.dst v) w → Q (.panic c) a w) (hw : Region.wanted oi (yielded l.toArray a.tmps) = true)
    (hy : ∀ w, S w → (execOp a.eval oi).run P w = .ok (.value v) w) (hS : S w)
    (h : wpAnyT P md l.toArray Q S n fuel (listed.setIfInBounds i true) (a.put oi.dst v) w) : wpAnyT P md l.toArray Q S n (fuel + 1) listed a w :=
  wpAnyT_firstH (by simpa using hi) (Region.noSelect_spec hs) hQ (by simpa using hn) fuel listed a w (Region.free_spec (by simpa using hi) hf) (by simpa using hr) (.inl ⟨hw, hy⟩) hS h
end
theorem by_stringA {w : World} {G : Nat → Prop} {v : Value} {l : List UInt8} (h : By w G v l) : (convert 23 9 v).run Tryz.prog w = .ok (.string ⟨l.toArray⟩) w := by
  rcases Nat.eq_zero_or_pos l.length with h0 | h0
  · obtain rfl : l = [] := List.eq_nil_of_length_eq_zero h0
    obtain ⟨A, c, rfl, -⟩ := h.open
    cases A with
    | none =>
      show (convert 23 9 (.slice none 0 c)).run Tryz.prog w = _
      rw [run_convert_bytes_string w 23 9 5 none 0 c Tryz.underlying23 Tryz.underlying5 Tryz.underlying9]
      rfl
    | some a => exact run_convert_bytes_back w 23 9 5 a c [] Tryz.underlying23 Tryz.underlying5 Tryz.underlying9 fun j hj => absurd hj (by simp)
  · exact by_string h h0
def OrIs (o : Option PNode) (er : Int) (y : PNode) : Prop := match o with
  | some z => er = 0 ∧ y = z
  | none => er ≠ 0
theorem NodeOr.node {w w' : World} {o : Option PNode} {e : Ending} (h : NodeOr w o e w') : ∃ (v : Value) (y : PNode) (er : Int), e = .returned (.tuple #[v, .int .i64 er]) ∧ NodeV w' (fun i => w.heap.size ≤ i) y v ∧ OrIs o er y ∧ Keep All w w' := by
  obtain ⟨h1, h2⟩ := h
  cases o with
  | some y =>
    obtain ⟨v, he, hv⟩ := h1
    exact ⟨v, y, 0, he, hv, ⟨rfl, rfl⟩, h2⟩
  | none =>
    obtain ⟨x, hx, he⟩ := h1
    exact ⟨zeroNode, .mk 0 [] [], x, he, nodeV_zero _ _, hx, h2⟩
noncomputable def orR (pile : List PNode) (o : Option PNode) (at_ : Nat) : Option (List PNode × Nat × Nat) := match o with
  | some y => putR pile [y] at_
  | none => none
theorem toldR_or {pile : List PNode} {o : Option PNode} {y : PNode} {er : Int} {at_ : Nat} (h : OrIs o er y) : toldR pile y er at_ = orR pile o at_ := by
  cases o with
  | some z => obtain ⟨rfl, rfl⟩ := h; rw [toldR, if_pos rfl, orR]
  | none => rw [toldR, if_neg h, orR]
noncomputable def placeR (k : Int) (pile : List PNode) (t : ByteArray) (at_ : Nat) : Option (List PNode × Nat × Nat) :=
  if k = 5 then match pile.reverse with
    | x :: d :: r => orR r.reverse (putN d t x) at_
    | _ => none
  else match pile.reverse with
    | d :: r => orR r.reverse (if k = 6 then findP d t else takeP d t) at_
    | _ => none
theorem pile_cases (pile : List PNode) : pile = [] ∨ ∃ xs x, pile = xs ++ [x] := by
  rcases List.eq_nil_or_concat pile with h | ⟨xs, x, h⟩
  · exact .inl h
  · exact .inr ⟨xs, x, by simpa using h⟩
section
variable (w : World) (p base used fuel at_ : Nat) (ov pv : Value) (rest : List Value)
theorem place5 (Gt : Nat → Prop) (pile : List PNode) (on om : Int) (l : List UInt8) (tA : Option Addr) (tc : Nat) (h : BSt w p base used fuel at_ ov rest pile pv) (ht : By w Gt (.slice tA l.length tc) l) (hl : l.length ≤ 1000000) : Calls Tryz.prog 113 #[.pointer (some ⟨p, 0, none⟩), .agg #[.int .i64 5, .int .i64 on, .int .i64 om, .slice tA l.length tc]] w (OpOut (Kb base p) w p base used fuel ov rest (placeR 5 pile ⟨l.toArray⟩ at_)) := by
  have H := Fact.mk h
  have hcv := by_stringA (ht.keep ((Keep.refl Gt w).alloc (.cells #[.int .i64 5, .int .i64 on, .int .i64 om, .slice tA l.length tc] 25)))
  have KB : Fact (Keep All w (w.alloc (.cells #[.int .i64 5, .int .i64 on, .int .i64 om, .slice tA l.length tc] 25))) := ⟨(Keep.refl _ w).alloc _⟩
  have hsz : (⟨l.toArray⟩ : ByteArray).size ≤ 1000000 := by simpa [ByteArray.size] using hl
  obtain ⟨t, hte⟩ : ∃ t : ByteArray, t = ⟨l.toArray⟩ := ⟨_, rfl⟩
  rw [← hte] at hcv hsz ⊢
  have HSZ := Fact.mk hsz
  obtain ⟨RR, hRR⟩ : ∃ q, q = placeR 5 pile t at_ := ⟨_, rfl⟩
  rw [← hRR]
  have HRR := Fact.mk hRR
  clear h ht hte hsz hl hRR
  rcases pile_cases pile with rfl | ⟨xs, x, rfl⟩
  · have HF : Fact (RR = none) := ⟨by rw [HRR.out]; simp [placeR]⟩
    go_enter Tryz.func113, Tryz.ntmps113
    go_wp2_with (go_at_call 162; go_must (refine (take162_nil _ p base used fuel at_ ov pv rest (H.out.keep KB.out)).mono ?_); rintro e v ⟨he, hb⟩; unfold errFail at he; subst he; have HB := Fact.mk hb; clear hb)
    refine ⟨rfl, ?_⟩
    rw [HF.out]
    have hq := HB.out
    exact ⟨⟨rfl, hq.1⟩, KB.out.all.trans (hq.2.mono fun i hi => hi.2)⟩
  · go_enter Tryz.func113, Tryz.ntmps113
    go_upto_region 6 with (go_at_call 162; go_must (refine (take162g _ p base used fuel at_ ov pv rest xs x (H.out.keep KB.out)).mono ?_); rintro e w1 ⟨v, pv1, rfl, hb, hpv, ⟨Ax, cx, Bx, dx, rfl, hrx⟩, hk⟩; have HB1 := Fact.mk hb; have HR := Fact.mk hrx; have K1 := Fact.mk (KB.out.all.trans hk); clear hb hrx hk)
    obtain ⟨W, hW⟩ : ∃ X, X = w1.alloc (.cells #[.int .i64 x.kind, .slice Ax x.bytes.length cx, .slice Bx x.kids.length dx] 58) := ⟨_, rfl⟩
    have KW : Fact (Keep All w1 W) := ⟨hW ▸ (Keep.refl _ w1).alloc _⟩
    have BX : Fact (Blk W w1.heap.size [.int .i64 x.kind, .slice Ax x.bytes.length cx, .slice Bx x.kids.length dx] 58) := ⟨hW ▸ Blk.new w1 _ 58⟩
    rw [← hW]
    clear hW hcv
    have y0 := BX.out.cell 0 _ rfl
    have y1 := BX.out.cell 1 _ rfl
    have y2 := BX.out.cell 2 _ rfl
    have HBW := Fact.mk (HB1.out.keep KW.out.drew)
    refine wp_region_T 99 (fun w' => w'.cell? ⟨w1.heap.size, 0, none⟩ = some (.int .i64 x.kind) ∧ w'.cell? ⟨w1.heap.size, 1, none⟩ = some (.slice Ax x.bytes.length cx) ∧ w'.cell? ⟨w1.heap.size, 2, none⟩ = some (.slice Bx x.kids.length dx)) (by kernel_rfl) (by go_keep) (fun hHeld => ?_)
    refine takeH (i := 0) (v := ?_) rfl (by kernel_rfl) (by kernel_rfl) (by kernel_rfl) rfl (fun _ _ _ h => h) rfl ?_ (by assumption) ?_
    rotate_left
    · (intro w hSw; (try dsimp only at hSw); go_simp; try with_reducible rfl)
    try simp only [Act.put, List.setIfInBounds_toArray, List.set_cons_zero, List.set_cons_succ]
    refine takeH (i := 1) (v := ?_) rfl (by kernel_rfl) (by kernel_rfl) (by kernel_rfl) rfl (fun _ _ _ h => h) rfl ?_ (by assumption) ?_
    rotate_left
    · (intro w hSw; (try dsimp only at hSw); go_simp; try with_reducible rfl)
    try simp only [Act.put, List.setIfInBounds_toArray, List.set_cons_zero, List.set_cons_succ]
    refine takeH (i := 2) (v := ?_) rfl (by kernel_rfl) (by kernel_rfl) (by kernel_rfl) rfl (fun _ _ _ h => h) rfl ?_ (by assumption) ?_
    rotate_left
    · (intro w hSw; (try dsimp only at hSw); go_simp; try with_reducible rfl)
    try simp only [Act.put, List.setIfInBounds_toArray, List.set_cons_zero, List.set_cons_succ]
    refine takeH (i := 3) (v := ?_) rfl (by kernel_rfl) (by kernel_rfl) (by kernel_rfl) rfl (fun _ _ _ h => h) rfl ?_ (by assumption) ?_
    rotate_left
    · (intro w hSw; (try dsimp only at hSw); go_simp; try with_reducible rfl)
    try simp only [Act.put, List.setIfInBounds_toArray, List.set_cons_zero, List.set_cons_succ]
    refine takeH (i := 4) (v := ?_) rfl (by kernel_rfl) (by kernel_rfl) (by kernel_rfl) rfl (fun _ _ _ h => h) rfl ?_ (by assumption) ?_
    rotate_left
    · (intro w hSw; (try dsimp only at hSw); go_simp; try with_reducible rfl)
    try simp only [Act.put, List.setIfInBounds_toArray, List.set_cons_zero, List.set_cons_succ]
    refine takeH (i := 5) (v := ?_) rfl (by kernel_rfl) (by kernel_rfl) (by kernel_rfl) rfl (fun _ _ _ h => h) rfl ?_ (by assumption) ?_
    rotate_left
    · (intro w hSw; (try dsimp only at hSw); go_simp; try with_reducible rfl)
    try simp only [Act.put, List.setIfInBounds_toArray, List.set_cons_zero, List.set_cons_succ]
    refine takeH (i := 7) (v := ?_) rfl (by kernel_rfl) (by kernel_rfl) (by kernel_rfl) rfl (fun _ _ _ h => h) rfl ?_ (by assumption) ?_
    rotate_left
    · (intro w hSw; (try dsimp only at hSw); go_simp; try with_reducible rfl)
    try simp only [Act.put, List.setIfInBounds_toArray, List.set_cons_zero, List.set_cons_succ]
    refine takeH (i := 8) (v := ?_) rfl (by kernel_rfl) (by kernel_rfl) (by kernel_rfl) rfl (fun _ _ _ h => h) rfl ?_ (by assumption) ?_
    rotate_left
    · (intro w hSw; (try dsimp only at hSw); go_simp; try with_reducible rfl)
    try simp only [Act.put, List.setIfInBounds_toArray, List.set_cons_zero, List.set_cons_succ]
    refine nextT (i := 6) (by kernel_rfl) rfl (fun K hK => ?_)
    go_simp
    rcases pile_cases xs with rfl | ⟨xs, d, rfl⟩
    · refine (take162_nil _ p base used fuel at_ ov pv1 rest HBW.out).mono ?_
      rintro e v ⟨he, hb⟩
      unfold errFail at he
      subst he
      have HF : RR = none := by rw [HRR.out]; simp [placeR]
      refine ⟨rfl, ?_⟩
      rw [HF]
      exact ⟨⟨rfl, hb.1⟩, ((K1.out.mono fun i hi => hi.2).trans KW.out.drew.all).trans (hb.2.mono fun i hi => hi.2)⟩
    · have HF : Fact (RR = orR xs (putN d t x) at_) := ⟨by rw [HRR.out]; simp [placeR]⟩
      refine (take162g _ p base used fuel at_ ov pv1 rest xs d HBW.out).mono ?_
      rintro e w2 ⟨vd, pv2, rfl, hb, hpv2, hvd, hk⟩
      have HB2 := Fact.mk hb
      have HVD := Fact.mk hvd
      have K2 := Fact.mk hk
      have hxp : w1.heap.size ≠ p := by have := HB1.out.pb; have := HB1.out.size; omega
      have y0' := hk.cell (p := ⟨w1.heap.size, 0, none⟩) hxp y0
      have y1' := hk.cell (p := ⟨w1.heap.size, 1, none⟩) hxp y1
      have y2' := hk.cell (p := ⟨w1.heap.size, 2, none⟩) hxp y2
      clear hb hvd hk hHeld y0 y1 y2
      refine hK.out _ _ (by exact ⟨y0', y1', y2'⟩) (fun hHeld => ?_)
      clear hK K
      try simp only [Act.put, List.setIfInBounds_toArray, List.set_cons_zero, List.set_cons_succ]
      refine nextT (i := 9) (by kernel_rfl) rfl (fun K hK => ?_)
      go_simp
      have HVX : Fact (NodeV w2 (Gp p pv2) x (.agg #[.int .i64 x.kind, .slice Ax x.bytes.length cx, .slice Bx x.kids.length dx])) := ⟨⟨Ax, cx, Bx, dx, rfl, ((HR.out.keep KW.out.drew.all).keep (K2.out.mono fun i hi => hi.1)).mono fun i _ hi => ⟨hi.1, by rw [hpv2]; exact hi.2⟩⟩⟩
      refine (put164g w2 (Gp p pv2) d x vd _ t HVD.out HVX.out HSZ.out).mono ?_
      rintro e w3 hno
      obtain ⟨vy, y, er, rfl, hvy, her, hk3⟩ := hno.node
      have HVY := Fact.mk hvy
      have HER := Fact.mk her
      have K3 := Fact.mk hk3
      have HB3 := Fact.mk (HB2.out.keep hk3)
      have u0 := hk3.cell (p := ⟨w1.heap.size, 0, none⟩) trivial y0'
      have u1 := hk3.cell (p := ⟨w1.heap.size, 1, none⟩) trivial y1'
      have u2 := hk3.cell (p := ⟨w1.heap.size, 2, none⟩) trivial y2'
      clear hvy her hk3 hno hHeld y0' y1' y2'
      refine hK.out _ _ (by exact ⟨u0, u1, u2⟩) (fun hHeld => ?_)
      clear hK K
      try simp only [Act.put, List.setIfInBounds_toArray, List.set_cons_zero, List.set_cons_succ]
      refine takeH (i := 10) (v := ?_) rfl (by kernel_rfl) (by kernel_rfl) (by kernel_rfl) rfl (fun _ _ _ h => h) rfl ?_ (by assumption) ?_
      rotate_left
      · (intro w hSw; (try dsimp only at hSw); go_simp; try with_reducible rfl)
      try simp only [Act.put, List.setIfInBounds_toArray, List.set_cons_zero, List.set_cons_succ]
      refine takeH (i := 11) (v := ?_) rfl (by kernel_rfl) (by kernel_rfl) (by kernel_rfl) rfl (fun _ _ _ h => h) rfl ?_ (by assumption) ?_
      rotate_left
      · (intro w hSw; (try dsimp only at hSw); go_simp; try with_reducible rfl)
      try simp only [Act.put, List.setIfInBounds_toArray, List.set_cons_zero, List.set_cons_succ]
      refine nextT (i := 12) (by kernel_rfl) rfl (fun K hK => ?_)
      go_simp
      have KF : Fact (Keep (Kb base p) w w3) := ⟨(((K1.out.mono fun i hi => hi.2).trans KW.out.drew.all).trans (K2.out.mono fun i hi => hi.2)).trans K3.out.all⟩
      refine (told163g w3 p base used fuel at_ ov pv2 rest xs y vy er HB3.out (HVY.out.mono fun i _ hi => HB2.out.ge hi)).mono ?_
      intro e w4 hq
      have HQ := Fact.mk hq
      clear hq
      cases e with
      | returned u =>
        refine hK.out _ _ (by have hx : Gp p pv2 w1.heap.size := ⟨hxp, by rw [hpv2]; exact (HB1.out.ge (Nat.le_refl _)).2⟩; exact ⟨HQ.out.2.cell (p := ⟨w1.heap.size, 0, none⟩) hx u0, HQ.out.2.cell (p := ⟨w1.heap.size, 1, none⟩) hx u1, HQ.out.2.cell (p := ⟨w1.heap.size, 2, none⟩) hx u2⟩) (fun hHeld => ⟨by kernel_rfl, ?_⟩)
        clear hK K
        try simp only [Act.put, List.setIfInBounds_toArray, List.set_cons_zero, List.set_cons_succ]
        go_wp2
        go_end0
        rw [HF.out, ← toldR_or HER.out]
        exact (HQ.out.from_ KF.out HB2.out.kb).ret
      | panicked ch =>
        dsimp only
        rw [HF.out, ← toldR_or HER.out]
        exact ⟨rfl, HQ.out.from_ KF.out HB2.out.kb⟩
      | outgrown => exact HQ.out.no.elim
theorem place6 (Gt : Nat → Prop) (pile : List PNode) (on om : Int) (l : List UInt8) (tA : Option Addr) (tc : Nat) (h : BSt w p base used fuel at_ ov rest pile pv) (ht : By w Gt (.slice tA l.length tc) l) (hl : l.length ≤ 1000000) : Calls Tryz.prog 113 #[.pointer (some ⟨p, 0, none⟩), .agg #[.int .i64 6, .int .i64 on, .int .i64 om, .slice tA l.length tc]] w (OpOut (Kb base p) w p base used fuel ov rest (placeR 6 pile ⟨l.toArray⟩ at_)) := by
  have H := Fact.mk h
  have hcv := by_stringA (ht.keep ((Keep.refl Gt w).alloc (.cells #[.int .i64 6, .int .i64 on, .int .i64 om, .slice tA l.length tc] 25)))
  have KB : Fact (Keep All w (w.alloc (.cells #[.int .i64 6, .int .i64 on, .int .i64 om, .slice tA l.length tc] 25))) := ⟨(Keep.refl _ w).alloc _⟩
  have hsz : (⟨l.toArray⟩ : ByteArray).size ≤ 1000000 := by simpa [ByteArray.size] using hl
  obtain ⟨t, hte⟩ : ∃ t : ByteArray, t = ⟨l.toArray⟩ := ⟨_, rfl⟩
  rw [← hte] at hcv hsz ⊢
  have HSZ := Fact.mk hsz
  obtain ⟨RR, hRR⟩ : ∃ q, q = placeR 6 pile t at_ := ⟨_, rfl⟩
  rw [← hRR]
  have HRR := Fact.mk hRR
  clear h ht hte hsz hl hRR
  rcases pile_cases pile with rfl | ⟨xs, d, rfl⟩
  all_goals
    go_enter Tryz.func113, Tryz.ntmps113
    go_upto_region 8 with (fail)
    obtain ⟨W, hW⟩ : ∃ X, X = w.alloc (.cells #[.int .i64 6, .int .i64 on, .int .i64 om, .slice tA l.length tc] 25) := ⟨_, rfl⟩
    rw [← hW] at KB ⊢
    clear hW hcv
    have HBW := Fact.mk (H.out.keep KB.out.drew)
    refine wp_region_T 99 (fun _ => True) (by kernel_rfl) trivial (fun hHeld => ?_)
    refine takeH (i := 0) (v := ?_) rfl (by kernel_rfl) (by kernel_rfl) (by kernel_rfl) rfl (fun _ _ _ h => h) rfl ?_ (by assumption) ?_
    rotate_left
    · (intro w hSw; (try dsimp only at hSw); go_simp; try with_reducible rfl)
    try simp only [Act.put, List.setIfInBounds_toArray, List.set_cons_zero, List.set_cons_succ]
    refine takeH (i := 1) (v := ?_) rfl (by kernel_rfl) (by kernel_rfl) (by kernel_rfl) rfl (fun _ _ _ h => h) rfl ?_ (by assumption) ?_
    rotate_left
    · (intro w hSw; (try dsimp only at hSw); go_simp; try with_reducible rfl)
    try simp only [Act.put, List.setIfInBounds_toArray, List.set_cons_zero, List.set_cons_succ]
    refine takeH (i := 2) (v := ?_) rfl (by kernel_rfl) (by kernel_rfl) (by kernel_rfl) rfl (fun _ _ _ h => h) rfl ?_ (by assumption) ?_
    rotate_left
    · (intro w hSw; (try dsimp only at hSw); go_simp; try with_reducible rfl)
    try simp only [Act.put, List.setIfInBounds_toArray, List.set_cons_zero, List.set_cons_succ]
    refine takeH (i := 3) (v := ?_) rfl (by kernel_rfl) (by kernel_rfl) (by kernel_rfl) rfl (fun _ _ _ h => h) rfl ?_ (by assumption) ?_
    rotate_left
    · (intro w hSw; (try dsimp only at hSw); go_simp; try with_reducible rfl)
    try simp only [Act.put, List.setIfInBounds_toArray, List.set_cons_zero, List.set_cons_succ]
    refine takeH (i := 4) (v := ?_) rfl (by kernel_rfl) (by kernel_rfl) (by kernel_rfl) rfl (fun _ _ _ h => h) rfl ?_ (by assumption) ?_
    rotate_left
    · (intro w hSw; (try dsimp only at hSw); go_simp; try with_reducible rfl)
    try simp only [Act.put, List.setIfInBounds_toArray, List.set_cons_zero, List.set_cons_succ]
    refine takeH (i := 5) (v := ?_) rfl (by kernel_rfl) (by kernel_rfl) (by kernel_rfl) rfl (fun _ _ _ h => h) rfl ?_ (by assumption) ?_
    rotate_left
    · (intro w hSw; (try dsimp only at hSw); go_simp; try with_reducible rfl)
    try simp only [Act.put, List.setIfInBounds_toArray, List.set_cons_zero, List.set_cons_succ]
    refine takeH (i := 7) (v := ?_) rfl (by kernel_rfl) (by kernel_rfl) (by kernel_rfl) rfl (fun _ _ _ h => h) rfl ?_ (by assumption) ?_
    rotate_left
    · (intro w hSw; (try dsimp only at hSw); go_simp; try with_reducible rfl)
    try simp only [Act.put, List.setIfInBounds_toArray, List.set_cons_zero, List.set_cons_succ]
    refine nextT (i := 6) (by kernel_rfl) rfl (fun K hK => ?_)
    go_simp
  · refine (take162_nil _ p base used fuel at_ ov pv rest HBW.out).mono ?_
    rintro e v ⟨he, hb⟩
    unfold errFail at he
    subst he
    have HF : RR = none := by rw [HRR.out]; simp [placeR]
    refine ⟨rfl, ?_⟩
    rw [HF]
    exact ⟨⟨rfl, hb.1⟩, KB.out.drew.all.trans (hb.2.mono fun i hi => hi.2)⟩
  · have HF : Fact (RR = orR xs (findP d t) at_) := ⟨by rw [HRR.out]; simp [placeR]⟩
    refine (take162g _ p base used fuel at_ ov pv rest xs d HBW.out).mono ?_
    rintro e w2 ⟨vd, pv2, rfl, hb, hpv2, hvd, hk⟩
    have HB2 := Fact.mk hb
    have HVD := Fact.mk hvd
    have K2 := Fact.mk hk
    clear hb hvd hk hHeld
    refine hK.out _ _ (trivial) (fun hHeld => ?_)
    clear hK K
    try simp only [Act.put, List.setIfInBounds_toArray, List.set_cons_zero, List.set_cons_succ]
    refine nextT (i := 8) (by kernel_rfl) rfl (fun K hK => ?_)
    go_simp
    refine (find165 w2 (Gp p pv2) d vd t HVD.out HSZ.out).mono ?_
    rintro e w3 hno
    obtain ⟨vy, y, er, rfl, hvy, her, hk3⟩ := hno.node
    have HVY := Fact.mk hvy
    have HER := Fact.mk her
    have K3 := Fact.mk hk3
    have HB3 := Fact.mk (HB2.out.keep hk3)
    clear hvy her hk3 hno hHeld
    refine hK.out _ _ (trivial) (fun hHeld => ?_)
    clear hK K
    try simp only [Act.put, List.setIfInBounds_toArray, List.set_cons_zero, List.set_cons_succ]
    refine takeH (i := 9) (v := ?_) rfl (by kernel_rfl) (by kernel_rfl) (by kernel_rfl) rfl (fun _ _ _ h => h) rfl ?_ (by assumption) ?_
    rotate_left
    · (intro w hSw; (try dsimp only at hSw); go_simp; try with_reducible rfl)
    try simp only [Act.put, List.setIfInBounds_toArray, List.set_cons_zero, List.set_cons_succ]
    refine takeH (i := 10) (v := ?_) rfl (by kernel_rfl) (by kernel_rfl) (by kernel_rfl) rfl (fun _ _ _ h => h) rfl ?_ (by assumption) ?_
    rotate_left
    · (intro w hSw; (try dsimp only at hSw); go_simp; try with_reducible rfl)
    try simp only [Act.put, List.setIfInBounds_toArray, List.set_cons_zero, List.set_cons_succ]
    refine nextT (i := 11) (by kernel_rfl) rfl (fun K hK => ?_)
    go_simp
    have KF : Fact (Keep (Kb base p) w w3) := ⟨(KB.out.drew.all.trans (K2.out.mono fun i hi => hi.2)).trans K3.out.all⟩
    refine (told163g w3 p base used fuel at_ ov pv2 rest xs y vy er HB3.out (HVY.out.mono fun i _ hi => HB2.out.ge hi)).mono ?_
    intro e w4 hq
    have HQ := Fact.mk hq
    clear hq
    cases e with
    | returned u =>
      refine hK.out _ _ (trivial) (fun hHeld => ⟨by kernel_rfl, ?_⟩)
      clear hK K
      try simp only [Act.put, List.setIfInBounds_toArray, List.set_cons_zero, List.set_cons_succ]
      go_wp2
      go_end0
      rw [HF.out, ← toldR_or HER.out]
      exact (HQ.out.from_ KF.out HB2.out.kb).ret
    | panicked ch =>
      dsimp only
      rw [HF.out, ← toldR_or HER.out]
      exact ⟨rfl, HQ.out.from_ KF.out HB2.out.kb⟩
    | outgrown => exact HQ.out.no.elim
theorem place7 (Gt : Nat → Prop) (pile : List PNode) (on om : Int) (l : List UInt8) (tA : Option Addr) (tc : Nat) (h : BSt w p base used fuel at_ ov rest pile pv) (ht : By w Gt (.slice tA l.length tc) l) (hl : l.length ≤ 1000000) (k : Int) (hk5 : k ≠ 5) (hk6 : k ≠ 6) : Calls Tryz.prog 113 #[.pointer (some ⟨p, 0, none⟩), .agg #[.int .i64 k, .int .i64 on, .int .i64 om, .slice tA l.length tc]] w (OpOut (Kb base p) w p base used fuel ov rest (placeR k pile ⟨l.toArray⟩ at_)) := by
  have H := Fact.mk h
  have hcv := by_stringA (ht.keep ((Keep.refl Gt w).alloc (.cells #[.int .i64 k, .int .i64 on, .int .i64 om, .slice tA l.length tc] 25)))
  have KB : Fact (Keep All w (w.alloc (.cells #[.int .i64 k, .int .i64 on, .int .i64 om, .slice tA l.length tc] 25))) := ⟨(Keep.refl _ w).alloc _⟩
  have hsz : (⟨l.toArray⟩ : ByteArray).size ≤ 1000000 := by simpa [ByteArray.size] using hl
  obtain ⟨t, hte⟩ : ∃ t : ByteArray, t = ⟨l.toArray⟩ := ⟨_, rfl⟩
  rw [← hte] at hcv hsz ⊢
  have HSZ := Fact.mk hsz
  obtain ⟨RR, hRR⟩ : ∃ q, q = placeR k pile t at_ := ⟨_, rfl⟩
  rw [← hRR]
  have HRR := Fact.mk hRR
  clear h ht hte hsz hl hRR
  have b5 : (k == 5) = false := by simpa using hk5
  have b6 : (k == 6) = false := by simpa using hk6
  rcases pile_cases pile with rfl | ⟨xs, d, rfl⟩
  all_goals
    go_enter Tryz.func113, Tryz.ntmps113
    go_upto_region 3 with (fail)
    obtain ⟨W, hW⟩ : ∃ X, X = w.alloc (.cells #[.int .i64 k, .int .i64 on, .int .i64 om, .slice tA l.length tc] 25) := ⟨_, rfl⟩
    rw [← hW] at KB ⊢
    clear hW hcv
    have HBW := Fact.mk (H.out.keep KB.out.drew)
    refine wp_region_T 99 (fun _ => True) (by kernel_rfl) trivial (fun hHeld => ?_)
    refine takeH (i := 0) (v := ?_) rfl (by kernel_rfl) (by kernel_rfl) (by kernel_rfl) rfl (fun _ _ _ h => h) rfl ?_ (by assumption) ?_
    rotate_left
    · (intro w hSw; (try dsimp only at hSw); go_simp; try with_reducible rfl)
    try simp only [Act.put, List.setIfInBounds_toArray, List.set_cons_zero, List.set_cons_succ]
    refine takeH (i := 1) (v := ?_) rfl (by kernel_rfl) (by kernel_rfl) (by kernel_rfl) rfl (fun _ _ _ h => h) rfl ?_ (by assumption) ?_
    rotate_left
    · (intro w hSw; (try dsimp only at hSw); go_simp; try with_reducible rfl)
    try simp only [Act.put, List.setIfInBounds_toArray, List.set_cons_zero, List.set_cons_succ]
    refine takeH (i := 2) (v := ?_) rfl (by kernel_rfl) (by kernel_rfl) (by kernel_rfl) rfl (fun _ _ _ h => h) rfl ?_ (by assumption) ?_
    rotate_left
    · (intro w hSw; (try dsimp only at hSw); go_simp; try with_reducible rfl)
    try simp only [Act.put, List.setIfInBounds_toArray, List.set_cons_zero, List.set_cons_succ]
    refine takeH (i := 3) (v := ?_) rfl (by kernel_rfl) (by kernel_rfl) (by kernel_rfl) rfl (fun _ _ _ h => h) rfl ?_ (by assumption) ?_
    rotate_left
    · (intro w hSw; (try dsimp only at hSw); go_simp; try with_reducible rfl)
    try simp only [Act.put, List.setIfInBounds_toArray, List.set_cons_zero, List.set_cons_succ]
    refine takeH (i := 4) (v := ?_) rfl (by kernel_rfl) (by kernel_rfl) (by kernel_rfl) rfl (fun _ _ _ h => h) rfl ?_ (by assumption) ?_
    rotate_left
    · (intro w hSw; (try dsimp only at hSw); go_simp; try with_reducible rfl)
    try simp only [Act.put, List.setIfInBounds_toArray, List.set_cons_zero, List.set_cons_succ]
    refine takeH (i := 5) (v := ?_) rfl (by kernel_rfl) (by kernel_rfl) (by kernel_rfl) rfl (fun _ _ _ h => h) rfl ?_ (by assumption) ?_
    rotate_left
    · (intro w hSw; (try dsimp only at hSw); go_simp; try with_reducible rfl)
    try simp only [Act.put, List.setIfInBounds_toArray, List.set_cons_zero, List.set_cons_succ]
    refine takeH (i := 7) (v := ?_) rfl (by kernel_rfl) (by kernel_rfl) (by kernel_rfl) rfl (fun _ _ _ h => h) rfl ?_ (by assumption) ?_
    rotate_left
    · (intro w hSw; (try dsimp only at hSw); go_simp; try with_reducible rfl)
    try simp only [Act.put, List.setIfInBounds_toArray, List.set_cons_zero, List.set_cons_succ]
    refine nextT (i := 6) (by kernel_rfl) rfl (fun K hK => ?_)
    go_simp
  · refine (take162_nil _ p base used fuel at_ ov pv rest HBW.out).mono ?_
    rintro e v ⟨he, hb⟩
    unfold errFail at he
    subst he
    have HF : RR = none := by rw [HRR.out]; simp [placeR]
    refine ⟨rfl, ?_⟩
    rw [HF]
    exact ⟨⟨rfl, hb.1⟩, KB.out.drew.all.trans (hb.2.mono fun i hi => hi.2)⟩
  · have HF : Fact (RR = orR xs (takeP d t) at_) := ⟨by rw [HRR.out]; simp [placeR, hk5, hk6]⟩
    refine (take162g _ p base used fuel at_ ov pv rest xs d HBW.out).mono ?_
    rintro e w2 ⟨vd, pv2, rfl, hb, hpv2, hvd, hk⟩
    have HB2 := Fact.mk hb
    have HVD := Fact.mk hvd
    have K2 := Fact.mk hk
    clear hb hvd hk hHeld
    refine hK.out _ _ (trivial) (fun hHeld => ?_)
    clear hK K
    try simp only [Act.put, List.setIfInBounds_toArray, List.set_cons_zero, List.set_cons_succ]
    refine nextT (i := 8) (by kernel_rfl) rfl (fun K hK => ?_)
    go_simp
    refine (take166 w2 (Gp p pv2) d vd t HVD.out HSZ.out).mono ?_
    rintro e w3 hno
    obtain ⟨vy, y, er, rfl, hvy, her, hk3⟩ := hno.node
    have HVY := Fact.mk hvy
    have HER := Fact.mk her
    have K3 := Fact.mk hk3
    have HB3 := Fact.mk (HB2.out.keep hk3)
    clear hvy her hk3 hno hHeld
    refine hK.out _ _ (trivial) (fun hHeld => ?_)
    clear hK K
    try simp only [Act.put, List.setIfInBounds_toArray, List.set_cons_zero, List.set_cons_succ]
    refine takeH (i := 9) (v := ?_) rfl (by kernel_rfl) (by kernel_rfl) (by kernel_rfl) rfl (fun _ _ _ h => h) rfl ?_ (by assumption) ?_
    rotate_left
    · (intro w hSw; (try dsimp only at hSw); go_simp; try with_reducible rfl)
    try simp only [Act.put, List.setIfInBounds_toArray, List.set_cons_zero, List.set_cons_succ]
    refine takeH (i := 10) (v := ?_) rfl (by kernel_rfl) (by kernel_rfl) (by kernel_rfl) rfl (fun _ _ _ h => h) rfl ?_ (by assumption) ?_
    rotate_left
    · (intro w hSw; (try dsimp only at hSw); go_simp; try with_reducible rfl)
    try simp only [Act.put, List.setIfInBounds_toArray, List.set_cons_zero, List.set_cons_succ]
    refine nextT (i := 11) (by kernel_rfl) rfl (fun K hK => ?_)
    go_simp
    have KF : Fact (Keep (Kb base p) w w3) := ⟨(KB.out.drew.all.trans (K2.out.mono fun i hi => hi.2)).trans K3.out.all⟩
    refine (told163g w3 p base used fuel at_ ov pv2 rest xs y vy er HB3.out (HVY.out.mono fun i _ hi => HB2.out.ge hi)).mono ?_
    intro e w4 hq
    have HQ := Fact.mk hq
    clear hq
    cases e with
    | returned u =>
      refine hK.out _ _ (trivial) (fun hHeld => ⟨by kernel_rfl, ?_⟩)
      clear hK K
      try simp only [Act.put, List.setIfInBounds_toArray, List.set_cons_zero, List.set_cons_succ]
      go_wp2
      go_end0
      rw [HF.out, ← toldR_or HER.out]
      exact (HQ.out.from_ KF.out HB2.out.kb).ret
    | panicked ch =>
      dsimp only
      rw [HF.out, ← toldR_or HER.out]
      exact ⟨rfl, HQ.out.from_ KF.out HB2.out.kb⟩
    | outgrown => exact HQ.out.no.elim
end
end Go.Proofs.YtddmbdigdnmfgaaGreatDoor

/- shift of the builder: twice, away, turned. -/
namespace Go.Proofs.YtddmbdigdnmfgaaGreatDoor
open Go.RowKit
set_option maxHeartbeats 1000000
set_option maxRecDepth 100000

noncomputable def shiftR (k : Int) (pile : List PNode) (at_ : Nat) : Option (List PNode × Nat × Nat) := match pile.reverse with
  | [] => none
  | x :: r => if k = 13 then putR r.reverse [x, x] at_ else if k = 14 then some (r.reverse, 0, at_) else match r with
    | [] => none
    | d :: r2 => putR r2.reverse [x, d] at_
section
variable (w : World) (p base used fuel at_ : Nat) (ov pv : Value) (rest : List Value)
theorem shift13 (pile : List PNode) (on om : Int) (tA : Option Addr) (tn tc : Nat) (h : BSt w p base used fuel at_ ov rest pile pv) : Calls Tryz.prog 115 #[.pointer (some ⟨p, 0, none⟩), .agg #[.int .i64 13, .int .i64 on, .int .i64 om, .slice tA tn tc]] w (OpOut (Kb base p) w p base used fuel ov rest (shiftR 13 pile at_)) := by
  have H := Fact.mk h
  have KB : Fact (Keep All w (w.alloc (.cells #[.int .i64 13, .int .i64 on, .int .i64 om, .slice tA tn tc] 25))) := ⟨(Keep.refl _ w).alloc _⟩
  have HOB : Fact (Blk (w.alloc (.cells #[.int .i64 13, .int .i64 on, .int .i64 om, .slice tA tn tc] 25)) w.heap.size [.int .i64 13, .int .i64 on, .int .i64 om, .slice tA tn tc] 25) := ⟨Blk.new w _ 25⟩
  have hwp : w.heap.size ≠ p := by have := h.pb; have := h.size; omega
  obtain ⟨RR, hRR⟩ : ∃ q, q = shiftR 13 pile at_ := ⟨_, rfl⟩
  rw [← hRR]
  have HRR := Fact.mk hRR
  clear h hRR
  rcases pile_cases pile with rfl | ⟨xs, x, rfl⟩
  · have HF : Fact (RR = none) := ⟨by rw [HRR.out]; simp [shiftR]⟩
    go_enter Tryz.func115, Tryz.ntmps115
    go_wp2_with (go_at_call 162; go_must (refine (take162_nil _ p base used fuel at_ ov pv rest (H.out.keep KB.out)).mono ?_); rintro e v ⟨he, hb⟩; unfold errFail at he; subst he; have HB := Fact.mk hb; clear hb)
    refine ⟨rfl, ?_⟩
    rw [HF.out]
    have hq := HB.out
    exact ⟨⟨rfl, hq.1⟩, KB.out.all.trans (hq.2.mono fun i hi => hi.2)⟩
  · have HXR := Fact.mk H.out.rightTop
    have HF : Fact (RR = putR xs [x, x] at_) := ⟨by rw [HRR.out]; simp [shiftR]⟩
    go_enter Tryz.func115, Tryz.ntmps115
    go_upto_region 4 with (go_at_call 162; go_must (refine (take162g _ p base used fuel at_ ov pv rest xs x (H.out.keep KB.out)).mono ?_); rintro e w1 ⟨v, pv1, rfl, hb, hpv, ⟨Ax, cx, Bx, dx, rfl, hrx⟩, hk⟩; have HB1 := Fact.mk hb; have HR := Fact.mk hrx; have K1 := Fact.mk (KB.out.all.trans hk); have o0 := (HOB.out.keep hk hwp).cell 0 _ rfl; have ol := (HOB.out.keep hk hwp).lt; have onn : w.heap.size ≠ w1.heap.size := Nat.ne_of_lt ol; clear hb hrx hk)
    obtain ⟨W, hW⟩ : ∃ X, X = w1.alloc (.cells #[.int .i64 x.kind, .slice Ax x.bytes.length cx, .slice Bx x.kids.length dx] 58) := ⟨_, rfl⟩
    have KW : Fact (Keep All w1 W) := ⟨hW ▸ (Keep.refl _ w1).alloc _⟩
    have BX : Fact (Blk W w1.heap.size [.int .i64 x.kind, .slice Ax x.bytes.length cx, .slice Bx x.kids.length dx] 58) := ⟨hW ▸ Blk.new w1 _ 58⟩
    rw [← hW]
    clear hW
    have y0 := BX.out.cell 0 _ rfl
    have y1 := BX.out.cell 1 _ rfl
    have y2 := BX.out.cell 2 _ rfl
    have HBW := Fact.mk (HB1.out.keep KW.out.drew)
    have hxp : w1.heap.size ≠ p := by have := HB1.out.pb; have := HB1.out.size; omega
    refine wp_region_T 99 (fun w' => w'.cell? ⟨w1.heap.size, 0, none⟩ = some (.int .i64 x.kind) ∧ w'.cell? ⟨w1.heap.size, 1, none⟩ = some (.slice Ax x.bytes.length cx) ∧ w'.cell? ⟨w1.heap.size, 2, none⟩ = some (.slice Bx x.kids.length dx)) (by kernel_rfl) (by go_keep) (fun hHeld => ?_)
    refine takeH (i := 0) (v := ?_) rfl (by kernel_rfl) (by kernel_rfl) (by kernel_rfl) rfl (fun _ _ _ h => h) rfl ?_ (by assumption) ?_
    rotate_left
    · (intro w hSw; (try dsimp only at hSw); go_simp; try with_reducible rfl)
    try simp only [Act.put, List.setIfInBounds_toArray, List.set_cons_zero, List.set_cons_succ]
    refine takeH (i := 1) (v := ?_) rfl (by kernel_rfl) (by kernel_rfl) (by kernel_rfl) rfl (fun _ _ _ h => h) rfl ?_ (by assumption) ?_
    rotate_left
    · (intro w hSw; (try dsimp only at hSw); go_simp; try with_reducible rfl)
    try simp only [Act.put, List.setIfInBounds_toArray, List.set_cons_zero, List.set_cons_succ]
    refine takeH (i := 2) (v := ?_) rfl (by kernel_rfl) (by kernel_rfl) (by kernel_rfl) rfl (fun _ _ _ h => h) rfl ?_ (by assumption) ?_
    rotate_left
    · (intro w hSw; (try dsimp only at hSw); go_simp; try with_reducible rfl)
    try simp only [Act.put, List.setIfInBounds_toArray, List.set_cons_zero, List.set_cons_succ]
    refine takeH (i := 3) (v := ?_) rfl (by kernel_rfl) (by kernel_rfl) (by kernel_rfl) rfl (fun _ _ _ h => h) rfl ?_ (by assumption) ?_
    rotate_left
    · (intro w hSw; (try dsimp only at hSw); go_simp; try with_reducible rfl)
    try simp only [Act.put, List.setIfInBounds_toArray, List.set_cons_zero, List.set_cons_succ]
    refine takeH (i := 4) (v := ?_) rfl (by kernel_rfl) (by kernel_rfl) (by kernel_rfl) rfl (fun _ _ _ h => h) rfl ?_ (by assumption) ?_
    rotate_left
    · (intro w hSw; (try dsimp only at hSw); go_simp; try with_reducible rfl)
    try simp only [Act.put, List.setIfInBounds_toArray, List.set_cons_zero, List.set_cons_succ]
    refine nextT (i := 5) (by kernel_rfl) rfl (fun K hK => ?_)
    go_simp
    refine (copy172 W.drew (Gp p pv1) x _ ⟨Ax, cx, Bx, dx, rfl, HR.out.keep KW.out.drew.all⟩).mono ?_
    rintro e w2 ⟨vc, rfl, hvc, hk⟩
    rw [copyP, if_pos HXR.out] at hvc
    obtain ⟨Ac, cc, Bc, dc, rfl, hrc⟩ := hvc
    have HRC := Fact.mk hrc
    have K2 := Fact.mk (KW.out.drew.trans hk)
    have HB2 := Fact.mk (HBW.out.keep hk)
    have z0 := hk.cell (p := ⟨w1.heap.size, 0, none⟩) trivial y0
    have z1 := hk.cell (p := ⟨w1.heap.size, 1, none⟩) trivial y1
    have z2 := hk.cell (p := ⟨w1.heap.size, 2, none⟩) trivial y2
    clear hrc hk hHeld y0 y1 y2
    refine hK.out _ _ (by exact ⟨z0, z1, z2⟩) (fun hHeld => ?_)
    clear hK K
    try simp only [Act.put, List.setIfInBounds_toArray, List.set_cons_zero, List.set_cons_succ]
    refine nextT (i := 6) (by kernel_rfl) rfl (fun K hK => ?_)
    go_simp
    obtain ⟨W3, hW3⟩ : ∃ X, X = w2.alloc (.cells #[.int .i64 x.kind, .slice Ax x.bytes.length cx, .slice Bx x.kids.length dx, .int .i64 x.kind, .slice Ac x.bytes.length cc, .slice Bc x.kids.length dc] 58) := ⟨_, rfl⟩
    have K3 : Fact (Keep All w2 W3) := ⟨hW3 ▸ (Keep.refl _ w2).alloc _⟩
    have S3 : Fact (Sl W3 (fun i => w2.heap.size ≤ i) 3 (.slice (some ⟨w2.heap.size, 0, none⟩) 2 2) 2 [.int .i64 x.kind, .slice Ax x.bytes.length cx, .slice Bx x.kids.length dx, .int .i64 x.kind, .slice Ac x.bytes.length cc, .slice Bc x.kids.length dc]) := ⟨hW3 ▸ Sl.new w2 58 3 2 _ rfl (by decide) (by simp [Value.oneCell'])⟩
    rw [← hW3]
    clear hW3
    have u0 := K3.out.cell (p := ⟨w1.heap.size, 0, none⟩) trivial z0
    have u1 := K3.out.cell (p := ⟨w1.heap.size, 1, none⟩) trivial z1
    have u2 := K3.out.cell (p := ⟨w1.heap.size, 2, none⟩) trivial z2
    clear z0 z1 z2 hHeld
    refine hK.out _ _ (by exact ⟨u0, u1, u2⟩) (fun hHeld => ?_)
    clear hK K
    try simp only [Act.put, List.setIfInBounds_toArray, List.set_cons_zero, List.set_cons_succ]
    refine nextT (i := 7) (by kernel_rfl) rfl (fun K hK => ?_)
    go_simp
    have KF : Fact (Keep (Kb base p) w W3) := ⟨((K1.out.mono fun i hi => hi.2).trans K2.out.all).trans K3.out.all⟩
    have HXG : Fact (Gp p pv1 w1.heap.size) := ⟨HB1.out.ge (Nat.le_refl _)⟩
    have hge : ∀ i, w2.heap.size ≤ i → Gp p pv1 i := fun i hi => HB2.out.ge hi
    refine (put171g W3 p base used fuel at_ ov pv1 rest (Gp p pv1) xs [x, x] [.int .i64 x.kind, .slice Ax x.bytes.length cx, .slice Bx x.kids.length dx, .int .i64 x.kind, .slice Ac x.bytes.length cc, .slice Bc x.kids.length dc] _ 2 (HB2.out.keep K3.out) (S3.out.mono fun i _ hi => hge i hi)
      ⟨_, _, _, rfl, HR.out.keep (K2.out.trans K3.out).all, _, _, [], rfl, (HRC.out.keep K3.out.all).mono fun i _ hi => HBW.out.ge hi, rfl⟩ (fun _ hi => hi) (by simp) (by simp)).mono ?_
    intro e w4 hq
    have HQ := Fact.mk hq
    clear hq
    cases e with
    | returned u =>
      refine hK.out _ _ (by have hx : Gp p pv1 w1.heap.size := HXG.out; exact ⟨HQ.out.2.cell (p := ⟨w1.heap.size, 0, none⟩) hx u0, HQ.out.2.cell (p := ⟨w1.heap.size, 1, none⟩) hx u1, HQ.out.2.cell (p := ⟨w1.heap.size, 2, none⟩) hx u2⟩) (fun hHeld => ⟨by kernel_rfl, ?_⟩)
      clear hK K
      try simp only [Act.put, List.setIfInBounds_toArray, List.set_cons_zero, List.set_cons_succ]
      go_wp2
      go_end0
      rw [HF.out]
      exact (HQ.out.from_ KF.out HB2.out.kb).ret
    | panicked ch =>
      dsimp only
      rw [HF.out]
      exact ⟨rfl, HQ.out.from_ KF.out HB2.out.kb⟩
    | outgrown => exact HQ.out.no.elim
theorem shift14 (pile : List PNode) (on om : Int) (tA : Option Addr) (tn tc : Nat) (h : BSt w p base used fuel at_ ov rest pile pv) : Calls Tryz.prog 115 #[.pointer (some ⟨p, 0, none⟩), .agg #[.int .i64 14, .int .i64 on, .int .i64 om, .slice tA tn tc]] w (OpOut (Kb base p) w p base used fuel ov rest (shiftR 14 pile at_)) := by
  have H := Fact.mk h
  have KB : Fact (Keep All w (w.alloc (.cells #[.int .i64 14, .int .i64 on, .int .i64 om, .slice tA tn tc] 25))) := ⟨(Keep.refl _ w).alloc _⟩
  have HOB : Fact (Blk (w.alloc (.cells #[.int .i64 14, .int .i64 on, .int .i64 om, .slice tA tn tc] 25)) w.heap.size [.int .i64 14, .int .i64 on, .int .i64 om, .slice tA tn tc] 25) := ⟨Blk.new w _ 25⟩
  have hwp : w.heap.size ≠ p := by have := h.pb; have := h.size; omega
  obtain ⟨RR, hRR⟩ : ∃ q, q = shiftR 14 pile at_ := ⟨_, rfl⟩
  rw [← hRR]
  have HRR := Fact.mk hRR
  clear h hRR
  rcases pile_cases pile with rfl | ⟨xs, x, rfl⟩
  · have HF : Fact (RR = none) := ⟨by rw [HRR.out]; simp [shiftR]⟩
    go_enter Tryz.func115, Tryz.ntmps115
    go_wp2_with (go_at_call 162; go_must (refine (take162_nil _ p base used fuel at_ ov pv rest (H.out.keep KB.out)).mono ?_); rintro e v ⟨he, hb⟩; unfold errFail at he; subst he; have HB := Fact.mk hb; clear hb)
    refine ⟨rfl, ?_⟩
    rw [HF.out]
    have hq := HB.out
    exact ⟨⟨rfl, hq.1⟩, KB.out.all.trans (hq.2.mono fun i hi => hi.2)⟩
  · have HF : Fact (RR = some (xs, 0, at_)) := ⟨by rw [HRR.out]; simp [shiftR]⟩
    go_enter Tryz.func115, Tryz.ntmps115
    go_wp2_with (go_at_call 162; go_must (refine (take162g _ p base used fuel at_ ov pv rest xs x (H.out.keep KB.out)).mono ?_); rintro e w1 ⟨v, pv1, rfl, hb, hpv, ⟨Ax, cx, Bx, dx, rfl, hrx⟩, hk⟩; have HB1 := Fact.mk hb; have HR := Fact.mk hrx; have K1 := Fact.mk (KB.out.all.trans hk); have o0 := (HOB.out.keep hk hwp).cell 0 _ rfl; have ol := (HOB.out.keep hk hwp).lt; have onn : w.heap.size ≠ w1.heap.size := Nat.ne_of_lt ol; clear hb hrx hk)
    go_end0
    rw [HF.out]
    refine ⟨?_, (K1.out.mono fun i hi => hi.2).alloc _⟩
    dsimp only
    rw [Nat.add_zero, if_pos HB1.out.used_]
    exact ⟨rfl, pv1, HB1.out.keep ((Keep.refl _ _).alloc _)⟩
theorem shift15 (pile : List PNode) (on om : Int) (tA : Option Addr) (tn tc : Nat) (h : BSt w p base used fuel at_ ov rest pile pv) : Calls Tryz.prog 115 #[.pointer (some ⟨p, 0, none⟩), .agg #[.int .i64 15, .int .i64 on, .int .i64 om, .slice tA tn tc]] w (OpOut (Kb base p) w p base used fuel ov rest (shiftR 15 pile at_)) := by
  have H := Fact.mk h
  have KB : Fact (Keep All w (w.alloc (.cells #[.int .i64 15, .int .i64 on, .int .i64 om, .slice tA tn tc] 25))) := ⟨(Keep.refl _ w).alloc _⟩
  have HOB : Fact (Blk (w.alloc (.cells #[.int .i64 15, .int .i64 on, .int .i64 om, .slice tA tn tc] 25)) w.heap.size [.int .i64 15, .int .i64 on, .int .i64 om, .slice tA tn tc] 25) := ⟨Blk.new w _ 25⟩
  have hwp : w.heap.size ≠ p := by have := h.pb; have := h.size; omega
  obtain ⟨RR, hRR⟩ : ∃ q, q = shiftR 15 pile at_ := ⟨_, rfl⟩
  rw [← hRR]
  have HRR := Fact.mk hRR
  clear h hRR
  rcases pile_cases pile with rfl | ⟨xs, x, rfl⟩
  · have HF : Fact (RR = none) := ⟨by rw [HRR.out]; simp [shiftR]⟩
    go_enter Tryz.func115, Tryz.ntmps115
    go_wp2_with (go_at_call 162; go_must (refine (take162_nil _ p base used fuel at_ ov pv rest (H.out.keep KB.out)).mono ?_); rintro e v ⟨he, hb⟩; unfold errFail at he; subst he; have HB := Fact.mk hb; clear hb)
    refine ⟨rfl, ?_⟩
    rw [HF.out]
    have hq := HB.out
    exact ⟨⟨rfl, hq.1⟩, KB.out.all.trans (hq.2.mono fun i hi => hi.2)⟩
  · go_enter Tryz.func115, Tryz.ntmps115
    go_upto_region 6 with (go_at_call 162; go_must (refine (take162g _ p base used fuel at_ ov pv rest xs x (H.out.keep KB.out)).mono ?_); rintro e w1 ⟨v, pv1, rfl, hb, hpv, ⟨Ax, cx, Bx, dx, rfl, hrx⟩, hk⟩; have HB1 := Fact.mk hb; have HR := Fact.mk hrx; have K1 := Fact.mk (KB.out.all.trans hk); have o0 := (HOB.out.keep hk hwp).cell 0 _ rfl; have ol := (HOB.out.keep hk hwp).lt; have onn : w.heap.size ≠ w1.heap.size := Nat.ne_of_lt ol; clear hb hrx hk)
    obtain ⟨W, hW⟩ : ∃ X, X = w1.alloc (.cells #[.int .i64 x.kind, .slice Ax x.bytes.length cx, .slice Bx x.kids.length dx] 58) := ⟨_, rfl⟩
    have KW : Fact (Keep All w1 W) := ⟨hW ▸ (Keep.refl _ w1).alloc _⟩
    have BX : Fact (Blk W w1.heap.size [.int .i64 x.kind, .slice Ax x.bytes.length cx, .slice Bx x.kids.length dx] 58) := ⟨hW ▸ Blk.new w1 _ 58⟩
    rw [← hW]
    clear hW
    have y0 := BX.out.cell 0 _ rfl
    have y1 := BX.out.cell 1 _ rfl
    have y2 := BX.out.cell 2 _ rfl
    have HBW := Fact.mk (HB1.out.keep KW.out.drew)
    have hxp : w1.heap.size ≠ p := by have := HB1.out.pb; have := HB1.out.size; omega
    refine wp_region_T 99 (fun w' => w'.cell? ⟨w1.heap.size, 0, none⟩ = some (.int .i64 x.kind) ∧ w'.cell? ⟨w1.heap.size, 1, none⟩ = some (.slice Ax x.bytes.length cx) ∧ w'.cell? ⟨w1.heap.size, 2, none⟩ = some (.slice Bx x.kids.length dx)) (by kernel_rfl) (by go_keep) (fun hHeld => ?_)
    refine takeH (i := 0) (v := ?_) rfl (by kernel_rfl) (by kernel_rfl) (by kernel_rfl) rfl (fun _ _ _ h => h) rfl ?_ (by assumption) ?_
    rotate_left
    · (intro w hSw; (try dsimp only at hSw); go_simp; try with_reducible rfl)
    try simp only [Act.put, List.setIfInBounds_toArray, List.set_cons_zero, List.set_cons_succ]
    refine takeH (i := 1) (v := ?_) rfl (by kernel_rfl) (by kernel_rfl) (by kernel_rfl) rfl (fun _ _ _ h => h) rfl ?_ (by assumption) ?_
    rotate_left
    · (intro w hSw; (try dsimp only at hSw); go_simp; try with_reducible rfl)
    try simp only [Act.put, List.setIfInBounds_toArray, List.set_cons_zero, List.set_cons_succ]
    refine takeH (i := 2) (v := ?_) rfl (by kernel_rfl) (by kernel_rfl) (by kernel_rfl) rfl (fun _ _ _ h => h) rfl ?_ (by assumption) ?_
    rotate_left
    · (intro w hSw; (try dsimp only at hSw); go_simp; try with_reducible rfl)
    try simp only [Act.put, List.setIfInBounds_toArray, List.set_cons_zero, List.set_cons_succ]
    refine takeH (i := 3) (v := ?_) rfl (by kernel_rfl) (by kernel_rfl) (by kernel_rfl) rfl (fun _ _ _ h => h) rfl ?_ (by assumption) ?_
    rotate_left
    · (intro w hSw; (try dsimp only at hSw); go_simp; try with_reducible rfl)
    try simp only [Act.put, List.setIfInBounds_toArray, List.set_cons_zero, List.set_cons_succ]
    refine takeH (i := 4) (v := ?_) rfl (by kernel_rfl) (by kernel_rfl) (by kernel_rfl) rfl (fun _ _ _ h => h) rfl ?_ (by assumption) ?_
    rotate_left
    · (intro w hSw; (try dsimp only at hSw); go_simp; try with_reducible rfl)
    try simp only [Act.put, List.setIfInBounds_toArray, List.set_cons_zero, List.set_cons_succ]
    refine takeH (i := 5) (v := ?_) rfl (by kernel_rfl) (by kernel_rfl) (by kernel_rfl) rfl (fun _ _ _ h => h) rfl ?_ (by assumption) ?_
    rotate_left
    · (intro w hSw; (try dsimp only at hSw); go_simp; try with_reducible rfl)
    try simp only [Act.put, List.setIfInBounds_toArray, List.set_cons_zero, List.set_cons_succ]
    refine takeH (i := 6) (v := ?_) rfl (by kernel_rfl) (by kernel_rfl) (by kernel_rfl) rfl (fun _ _ _ h => h) rfl ?_ (by assumption) ?_
    rotate_left
    · (intro w hSw; (try dsimp only at hSw); go_simp; try with_reducible rfl)
    try simp only [Act.put, List.setIfInBounds_toArray, List.set_cons_zero, List.set_cons_succ]
    refine nextT (i := 7) (by kernel_rfl) rfl (fun K hK => ?_)
    go_simp
    rcases pile_cases xs with rfl | ⟨xs, d, rfl⟩
    · refine (take162_nil _ p base used fuel at_ ov pv1 rest HBW.out).mono ?_
      rintro e v ⟨he, hb⟩
      unfold errFail at he
      subst he
      have HF : RR = none := by rw [HRR.out]; simp [shiftR]
      refine ⟨rfl, ?_⟩
      rw [HF]
      exact ⟨⟨rfl, hb.1⟩, ((K1.out.mono fun i hi => hi.2).trans KW.out.drew.all).trans (hb.2.mono fun i hi => hi.2)⟩
    · have HF : Fact (RR = putR xs [x, d] at_) := ⟨by rw [HRR.out]; simp [shiftR]⟩
      refine (take162g _ p base used fuel at_ ov pv1 rest xs d HBW.out).mono ?_
      rintro e w2 ⟨vd, pv2, rfl, hb, hpv2, ⟨Ad, cd, Bd, dd, rfl, hrd⟩, hk⟩
      have HB2 := Fact.mk hb
      have HRD := Fact.mk hrd
      have K2 := Fact.mk hk
      have z0 := hk.cell (p := ⟨w1.heap.size, 0, none⟩) hxp y0
      have z1 := hk.cell (p := ⟨w1.heap.size, 1, none⟩) hxp y1
      have z2 := hk.cell (p := ⟨w1.heap.size, 2, none⟩) hxp y2
      clear hb hrd hk hHeld y0 y1 y2
      refine hK.out _ _ (by exact ⟨z0, z1, z2⟩) (fun hHeld => ?_)
      clear hK K
      try simp only [Act.put, List.setIfInBounds_toArray, List.set_cons_zero, List.set_cons_succ]
      refine nextT (i := 8) (by kernel_rfl) rfl (fun K hK => ?_)
      go_simp
      obtain ⟨W3, hW3⟩ : ∃ X, X = w2.alloc (.cells #[.int .i64 x.kind, .slice Ax x.bytes.length cx, .slice Bx x.kids.length dx, .int .i64 d.kind, .slice Ad d.bytes.length cd, .slice Bd d.kids.length dd] 58) := ⟨_, rfl⟩
      have K3 : Fact (Keep All w2 W3) := ⟨hW3 ▸ (Keep.refl _ w2).alloc _⟩
      have S3 : Fact (Sl W3 (fun i => w2.heap.size ≤ i) 3 (.slice (some ⟨w2.heap.size, 0, none⟩) 2 2) 2 [.int .i64 x.kind, .slice Ax x.bytes.length cx, .slice Bx x.kids.length dx, .int .i64 d.kind, .slice Ad d.bytes.length cd, .slice Bd d.kids.length dd]) := ⟨hW3 ▸ Sl.new w2 58 3 2 _ rfl (by decide) (by simp [Value.oneCell'])⟩
      rw [← hW3]
      clear hW3
      have u0 := K3.out.cell (p := ⟨w1.heap.size, 0, none⟩) trivial z0
      have u1 := K3.out.cell (p := ⟨w1.heap.size, 1, none⟩) trivial z1
      have u2 := K3.out.cell (p := ⟨w1.heap.size, 2, none⟩) trivial z2
      clear z0 z1 z2 hHeld
      refine hK.out _ _ (by exact ⟨u0, u1, u2⟩) (fun hHeld => ?_)
      clear hK K
      try simp only [Act.put, List.setIfInBounds_toArray, List.set_cons_zero, List.set_cons_succ]
      refine nextT (i := 9) (by kernel_rfl) rfl (fun K hK => ?_)
      go_simp
      have KF : Fact (Keep (Kb base p) w W3) := ⟨(((K1.out.mono fun i hi => hi.2).trans KW.out.drew.all).trans (K2.out.mono fun i hi => hi.2)).trans K3.out.all⟩
      have HXG : Fact (Gp p pv2 w1.heap.size) := ⟨⟨hxp, by rw [hpv2]; exact (HB1.out.ge (Nat.le_refl _)).2⟩⟩
      have hge : ∀ i, w2.heap.size ≤ i → Gp p pv2 i := fun i hi => HB2.out.ge hi
      have hg12 : ∀ i, Gp p pv1 i → Gp p pv2 i := fun i hi => ⟨hi.1, by rw [hpv2]; exact hi.2⟩
      refine (put171g W3 p base used fuel at_ ov pv2 rest (Gp p pv2) xs [x, d] [.int .i64 x.kind, .slice Ax x.bytes.length cx, .slice Bx x.kids.length dx, .int .i64 d.kind, .slice Ad d.bytes.length cd, .slice Bd d.kids.length dd] _ 2 (HB2.out.keep K3.out) (S3.out.mono fun i _ hi => hge i hi)
        ⟨_, _, _, rfl, (((HR.out.keep KW.out.drew.all).keep (K2.out.mono fun i hi => hi.1)).mono fun i _ hi => hg12 i hi).keep K3.out.all, _, _, [], rfl, HRD.out.keep K3.out.all, rfl⟩ (fun _ hi => hi) (by simp) (by simp)).mono ?_
      intro e w4 hq
      have HQ := Fact.mk hq
      clear hq
      cases e with
      | returned u =>
        refine hK.out _ _ (by have hx : Gp p pv2 w1.heap.size := HXG.out; exact ⟨HQ.out.2.cell (p := ⟨w1.heap.size, 0, none⟩) hx u0, HQ.out.2.cell (p := ⟨w1.heap.size, 1, none⟩) hx u1, HQ.out.2.cell (p := ⟨w1.heap.size, 2, none⟩) hx u2⟩) (fun hHeld => ⟨by kernel_rfl, ?_⟩)
        clear hK K
        try simp only [Act.put, List.setIfInBounds_toArray, List.set_cons_zero, List.set_cons_succ]
        go_wp2
        go_end0
        rw [HF.out]
        exact (HQ.out.from_ KF.out HB2.out.kb).ret
      | panicked ch =>
        dsimp only
        rw [HF.out]
        exact ⟨rfl, HQ.out.from_ KF.out HB2.out.kb⟩
      | outgrown => exact HQ.out.no.elim
end
end Go.Proofs.YtddmbdigdnmfgaaGreatDoor

/- own of the builder: leaves, a directory. -/
namespace Go.Proofs.YtddmbdigdnmfgaaGreatDoor
open Go.RowKit
set_option maxHeartbeats 1000000
set_option maxRecDepth 100000

noncomputable def own2R (pile : List PNode) (at_ : Nat) : Option (List PNode × Nat × Nat) := match pile.reverse with
  | [] => none
  | x :: r => if x.kind = 1 then putR r.reverse [.mk 2 x.bytes []] at_ else none
section
variable (w : World) (p base used fuel at_ : Nat) (ov pv : Value) (rest : List Value)
theorem own116_1g (Gt : Nat → Prop) (pile : List PNode) (on om : Int) (l : List UInt8) (tA : Option Addr) (tc : Nat) (h : BSt w p base used fuel at_ ov rest pile pv) (ht : By w Gt (.slice tA l.length tc) l) (hs : Small l.length) : Calls Tryz.prog 116 #[.pointer (some ⟨p, 0, none⟩), .agg #[.int .i64 1, .int .i64 on, .int .i64 om, .slice tA l.length tc]] w (OpOut (Kb base p) w p base used fuel ov rest (putR pile [.mk 1 l []] at_)) := by
  have H := Fact.mk h
  have HT := Fact.mk ht
  have HS := Fact.mk hs
  obtain ⟨W, hW⟩ : ∃ X, X = w.alloc (.cells #[.int .i64 1, .int .i64 on, .int .i64 om, .slice tA l.length tc] 25) := ⟨_, rfl⟩
  have KB : Fact (Keep All w W) := ⟨hW ▸ (Keep.refl _ w).alloc _⟩
  have HOB : Fact (Blk W w.heap.size [.int .i64 1, .int .i64 on, .int .i64 om, .slice tA l.length tc] 25) := ⟨hW ▸ Blk.new w _ 25⟩
  have HW := Fact.mk hW
  have hwp : w.heap.size ≠ p := by have := h.pb; have := h.size; omega
  clear h ht hs hW
  obtain ⟨RR, hRR⟩ : ∃ q, q = putR pile [.mk 1 l []] at_ := ⟨_, rfl⟩
  rw [← hRR]
  have HRR := Fact.mk hRR
  clear hRR
  go_enter Tryz.func116, Tryz.ntmps116
  go_upto_region 4 with (fail)
  rw [← HW.out]
  have o3 := HOB.out.cell 3 _ rfl
  refine wp_region_T 99 (fun w' => w'.cell? ⟨w.heap.size, 3, none⟩ = some (.slice tA l.length tc)) (by kernel_rfl) (by go_keep) (fun hHeld => ?_)
  refine takeH (i := 0) (v := ?_) rfl (by kernel_rfl) (by kernel_rfl) (by kernel_rfl) rfl (fun _ _ _ h => h) rfl ?_ (by assumption) ?_
  rotate_left
  · (intro w hSw; (try dsimp only at hSw); go_simp; try with_reducible rfl)
  try simp only [Act.put, List.setIfInBounds_toArray, List.set_cons_zero, List.set_cons_succ]
  refine takeH (i := 1) (v := ?_) rfl (by kernel_rfl) (by kernel_rfl) (by kernel_rfl) rfl (fun _ _ _ h => h) rfl ?_ (by assumption) ?_
  rotate_left
  · (intro w hSw; (try dsimp only at hSw); go_simp; try with_reducible rfl)
  try simp only [Act.put, List.setIfInBounds_toArray, List.set_cons_zero, List.set_cons_succ]
  refine takeH (i := 2) (v := ?_) rfl (by kernel_rfl) (by kernel_rfl) (by kernel_rfl) rfl (fun _ _ _ h => h) rfl ?_ (by assumption) ?_
  rotate_left
  · (intro w hSw; (try dsimp only at hSw); go_simp; try with_reducible rfl)
  try simp only [Act.put, List.setIfInBounds_toArray, List.set_cons_zero, List.set_cons_succ]
  refine takeH (i := 3) (v := ?_) rfl (by kernel_rfl) (by kernel_rfl) (by kernel_rfl) rfl (fun _ _ _ h => h) rfl ?_ (by assumption) ?_
  rotate_left
  · (intro w hSw; (try dsimp only at hSw); go_simp; try with_reducible rfl)
  try simp only [Act.put, List.setIfInBounds_toArray, List.set_cons_zero, List.set_cons_succ]
  refine takeH (i := 4) (v := ?_) rfl (by kernel_rfl) (by kernel_rfl) (by kernel_rfl) rfl (fun _ _ _ h => h) rfl ?_ (by assumption) ?_
  rotate_left
  · (intro w hSw; (try dsimp only at hSw); go_simp; try with_reducible rfl)
  try simp only [Act.put, List.setIfInBounds_toArray, List.set_cons_zero, List.set_cons_succ]
  refine nextT (i := 5) (by kernel_rfl) rfl (fun K hK => ?_)
  go_simp
  have KF : Fact (Keep (Kb base p) w W.drew) := ⟨KB.out.drew.all⟩
  refine (leaf168g W.drew p base used fuel at_ ov pv rest Gt pile 1 l tA tc (H.out.keep KB.out.drew) (HT.out.keep KB.out.drew.all) HS.out).mono ?_
  intro e w4 hq
  rw [← HRR.out] at hq
  have HQ := Fact.mk hq
  clear hq
  cases e with
  | returned u =>
    refine hK.out _ _ (HQ.out.2.cell (p := ⟨w.heap.size, 3, none⟩) (H.out.ge (Nat.le_refl _)) o3) (fun hHeld => ⟨by kernel_rfl, ?_⟩)
    clear hK K
    try simp only [Act.put, List.setIfInBounds_toArray, List.set_cons_zero, List.set_cons_succ]
    go_wp2
    go_end0
    exact (HQ.out.from_ KF.out H.out.kb).ret
  | panicked ch =>
    dsimp only
    exact ⟨rfl, HQ.out.from_ KF.out H.out.kb⟩
  | outgrown => exact HQ.out.no.elim
theorem own116_3g (Gt : Nat → Prop) (pile : List PNode) (on om : Int) (l : List UInt8) (tA : Option Addr) (tc : Nat) (h : BSt w p base used fuel at_ ov rest pile pv) (ht : By w Gt (.slice tA l.length tc) l) (hs : Small l.length) : Calls Tryz.prog 116 #[.pointer (some ⟨p, 0, none⟩), .agg #[.int .i64 3, .int .i64 on, .int .i64 om, .slice tA l.length tc]] w (OpOut (Kb base p) w p base used fuel ov rest (putR pile [.mk 3 l []] at_)) := by
  have H := Fact.mk h
  have HT := Fact.mk ht
  have HS := Fact.mk hs
  obtain ⟨W, hW⟩ : ∃ X, X = w.alloc (.cells #[.int .i64 3, .int .i64 on, .int .i64 om, .slice tA l.length tc] 25) := ⟨_, rfl⟩
  have KB : Fact (Keep All w W) := ⟨hW ▸ (Keep.refl _ w).alloc _⟩
  have HOB : Fact (Blk W w.heap.size [.int .i64 3, .int .i64 on, .int .i64 om, .slice tA l.length tc] 25) := ⟨hW ▸ Blk.new w _ 25⟩
  have HW := Fact.mk hW
  have hwp : w.heap.size ≠ p := by have := h.pb; have := h.size; omega
  clear h ht hs hW
  obtain ⟨RR, hRR⟩ : ∃ q, q = putR pile [.mk 3 l []] at_ := ⟨_, rfl⟩
  rw [← hRR]
  have HRR := Fact.mk hRR
  clear hRR
  go_enter Tryz.func116, Tryz.ntmps116
  go_upto_region 8 with (fail)
  rw [← HW.out]
  have o3 := HOB.out.cell 3 _ rfl
  refine wp_region_T 99 (fun w' => w'.cell? ⟨w.heap.size, 3, none⟩ = some (.slice tA l.length tc)) (by kernel_rfl) (by go_keep) (fun hHeld => ?_)
  refine takeH (i := 0) (v := ?_) rfl (by kernel_rfl) (by kernel_rfl) (by kernel_rfl) rfl (fun _ _ _ h => h) rfl ?_ (by assumption) ?_
  rotate_left
  · (intro w hSw; (try dsimp only at hSw); go_simp; try with_reducible rfl)
  try simp only [Act.put, List.setIfInBounds_toArray, List.set_cons_zero, List.set_cons_succ]
  refine takeH (i := 1) (v := ?_) rfl (by kernel_rfl) (by kernel_rfl) (by kernel_rfl) rfl (fun _ _ _ h => h) rfl ?_ (by assumption) ?_
  rotate_left
  · (intro w hSw; (try dsimp only at hSw); go_simp; try with_reducible rfl)
  try simp only [Act.put, List.setIfInBounds_toArray, List.set_cons_zero, List.set_cons_succ]
  refine takeH (i := 2) (v := ?_) rfl (by kernel_rfl) (by kernel_rfl) (by kernel_rfl) rfl (fun _ _ _ h => h) rfl ?_ (by assumption) ?_
  rotate_left
  · (intro w hSw; (try dsimp only at hSw); go_simp; try with_reducible rfl)
  try simp only [Act.put, List.setIfInBounds_toArray, List.set_cons_zero, List.set_cons_succ]
  refine takeH (i := 3) (v := ?_) rfl (by kernel_rfl) (by kernel_rfl) (by kernel_rfl) rfl (fun _ _ _ h => h) rfl ?_ (by assumption) ?_
  rotate_left
  · (intro w hSw; (try dsimp only at hSw); go_simp; try with_reducible rfl)
  try simp only [Act.put, List.setIfInBounds_toArray, List.set_cons_zero, List.set_cons_succ]
  refine takeH (i := 4) (v := ?_) rfl (by kernel_rfl) (by kernel_rfl) (by kernel_rfl) rfl (fun _ _ _ h => h) rfl ?_ (by assumption) ?_
  rotate_left
  · (intro w hSw; (try dsimp only at hSw); go_simp; try with_reducible rfl)
  try simp only [Act.put, List.setIfInBounds_toArray, List.set_cons_zero, List.set_cons_succ]
  refine nextT (i := 5) (by kernel_rfl) rfl (fun K hK => ?_)
  go_simp
  have KF : Fact (Keep (Kb base p) w W.drew) := ⟨KB.out.drew.all⟩
  refine (leaf168g W.drew p base used fuel at_ ov pv rest Gt pile 3 l tA tc (H.out.keep KB.out.drew) (HT.out.keep KB.out.drew.all) HS.out).mono ?_
  intro e w4 hq
  rw [← HRR.out] at hq
  have HQ := Fact.mk hq
  clear hq
  cases e with
  | returned u =>
    refine hK.out _ _ (HQ.out.2.cell (p := ⟨w.heap.size, 3, none⟩) (H.out.ge (Nat.le_refl _)) o3) (fun hHeld => ⟨by kernel_rfl, ?_⟩)
    clear hK K
    try simp only [Act.put, List.setIfInBounds_toArray, List.set_cons_zero, List.set_cons_succ]
    go_wp2
    go_end0
    exact (HQ.out.from_ KF.out H.out.kb).ret
  | panicked ch =>
    dsimp only
    exact ⟨rfl, HQ.out.from_ KF.out H.out.kb⟩
  | outgrown => exact HQ.out.no.elim
theorem own116_4g (Gt : Nat → Prop) (pile : List PNode) (on om : Int) (l : List UInt8) (tA : Option Addr) (tc : Nat) (h : BSt w p base used fuel at_ ov rest pile pv) (ht : By w Gt (.slice tA l.length tc) l) (hs : Small l.length) : Calls Tryz.prog 116 #[.pointer (some ⟨p, 0, none⟩), .agg #[.int .i64 4, .int .i64 on, .int .i64 om, .slice tA l.length tc]] w (OpOut (Kb base p) w p base used fuel ov rest (putR pile [.mk 4 [] []] at_)) := by
  have H := Fact.mk h
  have HT := Fact.mk ht
  have HS := Fact.mk hs
  obtain ⟨W, hW⟩ : ∃ X, X = w.alloc (.cells #[.int .i64 4, .int .i64 on, .int .i64 om, .slice tA l.length tc] 25) := ⟨_, rfl⟩
  have KB : Fact (Keep All w W) := ⟨hW ▸ (Keep.refl _ w).alloc _⟩
  have HOB : Fact (Blk W w.heap.size [.int .i64 4, .int .i64 on, .int .i64 om, .slice tA l.length tc] 25) := ⟨hW ▸ Blk.new w _ 25⟩
  have HW := Fact.mk hW
  have hwp : w.heap.size ≠ p := by have := h.pb; have := h.size; omega
  clear h ht hs hW
  obtain ⟨RR, hRR⟩ : ∃ q, q = putR pile [.mk 4 [] []] at_ := ⟨_, rfl⟩
  rw [← hRR]
  have HRR := Fact.mk hRR
  clear hRR
  obtain ⟨W1, hW1⟩ : ∃ X, X = W.alloc (.cells #[.int .i64 4, .slice none 0 0, .slice none 0 0] 58) := ⟨_, rfl⟩
  have K1 : Fact (Keep All w W1) := ⟨hW1 ▸ KB.out.alloc _⟩
  have hws : W.heap.size = w.heap.size + 1 := by rw [HW.out]; simp
  have CP : Fact (Calls Tryz.prog 171 #[.pointer (some ⟨p, 0, none⟩), .slice (some ⟨w.heap.size + 1, 0, none⟩) 1 1] W1 (OpOut (Gp p pv) W1 p base used fuel ov rest RR)) := ⟨by
    rw [HRR.out]
    refine put171g W1 p base used fuel at_ ov pv rest (Gp p pv) pile [.mk 4 [] []] [.int .i64 4, .slice none 0 0, .slice none 0 0] _ 1 (H.out.keep K1.out) ?_ ⟨_, _, [], rfl, by rw [RepN]; exact ⟨By.nil _ _, [], Sl.nil _ _ _, by rw [RepK]⟩, rfl⟩ (fun _ hi => hi) (by simp) (by simp)
    rw [hW1, ← hws]
    exact (Sl.new W 58 3 1 [.int .i64 4, .slice none 0 0, .slice none 0 0] rfl (by decide) (by simp [Value.oneCell'])).mono fun i _ hi => H.out.ge (by omega)⟩
  rw [HW.out] at hW1
  have HW1 := Fact.mk hW1
  clear hW1 hws
  go_enter Tryz.func116, Tryz.ntmps116
  go_wp2_with (go_at_call 171; rw [← HW1.out]; go_must (refine (CP.out).mono ?_); intro e w2 hq; have HQ := Fact.mk hq; clear hq)
  · go_end0
    exact (HQ.out.from_ (K' := Kb base p) K1.out.all H.out.kb).ret
  · exact ⟨rfl, HQ.out.from_ (K' := Kb base p) K1.out.all H.out.kb⟩
  · exact HQ.out.no.elim
theorem own116_2g (Gt : Nat → Prop) (pile : List PNode) (on om : Int) (l : List UInt8) (tA : Option Addr) (tc : Nat) (h : BSt w p base used fuel at_ ov rest pile pv) (ht : By w Gt (.slice tA l.length tc) l) (hs : Small l.length) : Calls Tryz.prog 116 #[.pointer (some ⟨p, 0, none⟩), .agg #[.int .i64 2, .int .i64 on, .int .i64 om, .slice tA l.length tc]] w (OpOut (Kb base p) w p base used fuel ov rest (own2R pile at_)) := by
  have H := Fact.mk h
  have HT := Fact.mk ht
  have HS := Fact.mk hs
  obtain ⟨W, hW⟩ : ∃ X, X = w.alloc (.cells #[.int .i64 2, .int .i64 on, .int .i64 om, .slice tA l.length tc] 25) := ⟨_, rfl⟩
  have KB : Fact (Keep All w W) := ⟨hW ▸ (Keep.refl _ w).alloc _⟩
  have HOB : Fact (Blk W w.heap.size [.int .i64 2, .int .i64 on, .int .i64 om, .slice tA l.length tc] 25) := ⟨hW ▸ Blk.new w _ 25⟩
  have HW := Fact.mk hW
  have hwp : w.heap.size ≠ p := by have := h.pb; have := h.size; omega
  clear h ht hs hW
  obtain ⟨RR, hRR⟩ : ∃ q, q = own2R pile at_ := ⟨_, rfl⟩
  rw [← hRR]
  have HRR := Fact.mk hRR
  clear hRR
  have HBW := Fact.mk (H.out.keep KB.out.drew)
  have KF : Fact (Keep (Kb base p) w W.drew) := ⟨KB.out.drew.all⟩
  have KFb : ∀ i, Kb base p i → i ≠ p := fun i hi => hi.2
  go_enter Tryz.func116, Tryz.ntmps116
  go_upto_region 6 with (fail)
  rw [← HW.out]
  refine wp_region_T 99 (fun _ => True) (by kernel_rfl) trivial (fun hHeld => ?_)
  refine takeH (i := 0) (v := ?_) rfl (by kernel_rfl) (by kernel_rfl) (by kernel_rfl) rfl (fun _ _ _ h => h) rfl ?_ (by assumption) ?_
  rotate_left
  · (intro w hSw; (try dsimp only at hSw); go_simp; try with_reducible rfl)
  try simp only [Act.put, List.setIfInBounds_toArray, List.set_cons_zero, List.set_cons_succ]
  refine takeH (i := 1) (v := ?_) rfl (by kernel_rfl) (by kernel_rfl) (by kernel_rfl) rfl (fun _ _ _ h => h) rfl ?_ (by assumption) ?_
  rotate_left
  · (intro w hSw; (try dsimp only at hSw); go_simp; try with_reducible rfl)
  try simp only [Act.put, List.setIfInBounds_toArray, List.set_cons_zero, List.set_cons_succ]
  refine takeH (i := 2) (v := ?_) rfl (by kernel_rfl) (by kernel_rfl) (by kernel_rfl) rfl (fun _ _ _ h => h) rfl ?_ (by assumption) ?_
  rotate_left
  · (intro w hSw; (try dsimp only at hSw); go_simp; try with_reducible rfl)
  try simp only [Act.put, List.setIfInBounds_toArray, List.set_cons_zero, List.set_cons_succ]
  refine takeH (i := 3) (v := ?_) rfl (by kernel_rfl) (by kernel_rfl) (by kernel_rfl) rfl (fun _ _ _ h => h) rfl ?_ (by assumption) ?_
  rotate_left
  · (intro w hSw; (try dsimp only at hSw); go_simp; try with_reducible rfl)
  try simp only [Act.put, List.setIfInBounds_toArray, List.set_cons_zero, List.set_cons_succ]
  refine takeH (i := 4) (v := ?_) rfl (by kernel_rfl) (by kernel_rfl) (by kernel_rfl) rfl (fun _ _ _ h => h) rfl ?_ (by assumption) ?_
  rotate_left
  · (intro w hSw; (try dsimp only at hSw); go_simp; try with_reducible rfl)
  try simp only [Act.put, List.setIfInBounds_toArray, List.set_cons_zero, List.set_cons_succ]
  refine takeH (i := 5) (v := ?_) rfl (by kernel_rfl) (by kernel_rfl) (by kernel_rfl) rfl (fun _ _ _ h => h) rfl ?_ (by assumption) ?_
  rotate_left
  · (intro w hSw; (try dsimp only at hSw); go_simp; try with_reducible rfl)
  try simp only [Act.put, List.setIfInBounds_toArray, List.set_cons_zero, List.set_cons_succ]
  refine nextT (i := 6) (by kernel_rfl) rfl (fun K hK => ?_)
  go_simp
  rcases pile_cases pile with rfl | ⟨xs, x, rfl⟩
  · have HF : RR = none := by rw [HRR.out]; simp [own2R]
    refine (text167_nil W.drew p base used fuel at_ ov pv rest HBW.out).mono ?_
    rintro e v hb
    have hb' := hb
    obtain ⟨he, -⟩ := hb
    unfold errFail at he
    subst he
    refine ⟨rfl, ?_⟩
    rw [HF]
    exact (hb'.opout (K := Kb base p) KFb).from_ KF.out fun _ h => h
  · by_cases hx1 : x.kind = 1
    · have HF : Fact (RR = putR xs [.mk 2 x.bytes []] at_) := ⟨by rw [HRR.out]; simp [own2R, hx1]⟩
      have hsx : Small x.bytes.length := by
        have := rightP_small H.out.rightTop
        obtain ⟨k, b, kk⟩ := x
        rw [SmallN] at this
        exact Small.of (by have := this.1; show b.length ≤ _; omega)
      have HSX := Fact.mk hsx
      clear hsx
      refine (text167g W.drew p base used fuel at_ ov pv rest xs x HBW.out hx1).mono ?_
      rintro e w2 ⟨xs', x', hpe, A, c, pv2, he, hb, -, hby, hk⟩
      obtain ⟨rfl, hx'⟩ := List.append_inj' hpe rfl
      simp only [List.cons.injEq, and_true] at hx'
      subst hx' he
      have HB2 := Fact.mk hb
      have HBY := Fact.mk hby
      have K2 := Fact.mk hk
      clear hb hby hk hHeld hpe
      refine hK.out _ _ (trivial) (fun hHeld => ?_)
      clear hK K
      try simp only [Act.put, List.setIfInBounds_toArray, List.set_cons_zero, List.set_cons_succ]
      refine nextT (i := 7) (by kernel_rfl) rfl (fun K hK => ?_)
      go_simp
      have KF2 : Fact (Keep (Kb base p) w w2) := ⟨KF.out.trans (K2.out.mono fun i hi => hi.2)⟩
      refine (leaf168g w2 p base used fuel at_ ov pv2 rest (Gp p pv2) xs 2 x.bytes A c HB2.out HBY.out HSX.out).mono ?_
      intro e w4 hq
      have HQ := Fact.mk hq
      clear hq
      cases e with
      | returned u =>
        refine hK.out _ _ (trivial) (fun hHeld => ⟨by kernel_rfl, ?_⟩)
        clear hK K
        try simp only [Act.put, List.setIfInBounds_toArray, List.set_cons_zero, List.set_cons_succ]
        go_wp2
        go_end0
        rw [HF.out]
        exact (HQ.out.from_ KF2.out HB2.out.kb).ret
      | panicked ch =>
        dsimp only
        rw [HF.out]
        exact ⟨rfl, HQ.out.from_ KF2.out HB2.out.kb⟩
      | outgrown => exact HQ.out.no.elim
    · have HF : RR = none := by rw [HRR.out]; simp [own2R, hx1]
      refine (text167_not W.drew p base used fuel at_ ov pv rest xs x HBW.out hx1).mono ?_
      rintro e v hb
      have hb' := hb
      obtain ⟨he, -⟩ := hb
      unfold errFail at he
      subst he
      refine ⟨rfl, ?_⟩
      rw [HF]
      exact (hb'.opout (K := Kb base p) KFb).from_ KF.out fun _ h => h
end
end Go.Proofs.YtddmbdigdnmfgaaGreatDoor
