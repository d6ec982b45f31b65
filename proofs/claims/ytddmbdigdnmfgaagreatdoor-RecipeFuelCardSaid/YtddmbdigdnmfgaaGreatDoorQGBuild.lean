/- recipe's build, at any operations. -/
import Derived.Test.YtddmbdigdnmfgaaGreatDoorQGHad
import Derived.Test.YtddmbdigdnmfgaaGreatDoorQPLaw2
import Derived.Test.YtddmbdigdnmfgaaGreatDoorQBuild
namespace Go.Proofs.YtddmbdigdnmfgaaGreatDoor
open Go.RowKit
set_option maxHeartbeats 1000000
set_option maxRecDepth 100000

/-! ### A tree lies in no block that holds neither texts nor bytes -/
def Bare (w : World) (b : Nat) : Prop := ∀ j v, w.cell? ⟨b, j, none⟩ = some v → (∀ s, v ≠ .string s) ∧ ∀ n, v ≠ .int .u8 n
theorem Sl.avoid {w : World} {G : Nat → Prop} {b sz n : Nat} {v : Value} {xs : List Value} (hb : Bare w b) (hx : 0 < xs.length → (∃ s, xs.getD 0 undef = .string s) ∨ ∃ n, xs.getD 0 undef = .int .u8 n) (h : Sl w G sz v n xs) : Sl w (fun i => G i ∧ i ≠ b) sz v n xs := by
  obtain ⟨h1, A, c, e, hl, hn, hc, hA, hat⟩ := h
  refine ⟨h1, A, c, e, hl, hn, hc, hA, fun hp => ?_⟩
  obtain ⟨b', off, ea, hg, ha⟩ := hat hp
  refine ⟨b', off, ea, ⟨hg, fun e => ?_⟩, ha⟩
  subst e
  have := hb _ _ (ha 0 hp)
  rcases hx hp with ⟨s, hs⟩ | ⟨n, hn⟩
  · exact this.1 s hs
  · exact this.2 n hn
theorem By.avoid {w : World} {G : Nat → Prop} {b : Nat} {v : Value} {l : List UInt8} (hb : Bare w b) (h : By w G v l) : By w (fun i => G i ∧ i ≠ b) v l := by
  refine Sl.avoid hb (fun hp => .inr ?_) h
  cases l with
  | nil => simp at hp
  | cons u r => exact ⟨_, rfl⟩
mutual
theorem RepN.avoid {w : World} {G : Nat → Prop} {b : Nat} (hb : Bare w b) : ∀ {x : PNode} {vb vk : Value}, RepN w G x vb vk → RepN w (fun i => G i ∧ i ≠ b) x vb vk
  | .mk _ l ks, vb, vk, h => by
    rw [RepN] at *
    obtain ⟨h1, cs, h2, h3⟩ := h
    refine ⟨h1.avoid hb, cs, h2.avoid hb (fun hp => .inl ?_), RepK.avoid hb h3⟩
    cases ks with
    | nil => rw [RepK] at h3; subst h3; simp at hp
    | cons y r =>
      rw [RepK] at h3
      obtain ⟨_, _, _, rfl, -⟩ := h3
      exact ⟨_, rfl⟩
theorem RepK.avoid {w : World} {G : Nat → Prop} {b : Nat} (hb : Bare w b) : ∀ {l : List (ByteArray × PNode)} {cs : List Value}, RepK w G l cs → RepK w (fun i => G i ∧ i ≠ b) l cs
  | [], cs, h => by rw [RepK] at *; exact h
  | (s, x) :: r, cs, h => by
    rw [RepK] at *
    obtain ⟨vb, vk, d, h1, h2, h3⟩ := h
    exact ⟨vb, vk, d, h1, RepN.avoid hb h2, RepK.avoid hb h3⟩
end
theorem Blk.bare {w : World} {b : Nat} {c : List Value} {T : TypeId} (h : Blk w b c T) (hc : ∀ v ∈ c, (∀ s, v ≠ .string s) ∧ ∀ n, v ≠ .int .u8 n) : Bare w b := fun j v hv => by
  have h' : w.heap[b]? = some (.cells c.toArray T (0, 0)) := h
  simp only [World.cell?, h', List.getElem?_toArray] at hv
  exact hc v (List.mem_of_getElem? hv)
/-! ### A scope that begins with its label -/
theorem scope_ind {P : Program} {rest : Code} {Q : Exit → Act → World → Prop} {a : Act} {w : World} {l : Nat} (I : Nat → Act → World → Prop) (n : Nat)
    (none : ∀ a w, ¬ I 0 a w) (h0 : I (n + 1) a w) (step : ∀ m J a w, I (m + 1) a w → Fact (∀ a w, I m a w → J a w) → rest.wp P (Exit.jump l J Q) a w) : (Code.scope ((Code.label l).seq rest)).wp P Q a w := by
  have hf : findLabel ((Code.label l).seq rest) l = some (Code.skip.seq rest) := by simp [findLabel]
  have key : ∀ m a w, I m a w → Pass P (Code.skip.seq rest) l Q m a w := by
    intro m
    induction m with
    | zero => intro a w h; exact absurd h (none a w)
    | succ m ih => intro a w h; exact wp_seq (wp_skip (step m _ a w h ⟨ih⟩))
  refine scope_passes l n hf fun J hJ => ?_
  exact wp_seq (wp_label (step n J a w h0 ⟨fun a w h => hJ.out a w (key n a w h)⟩))
theorem frame82 {xs : Array Value} {x y : Value} (h : xs.size = 82) (h0 : xs.getD 0 undef = x) (h2 : xs.getD 2 undef = y) : ∃ u : Nat → Value, xs = #[x, u 1, y, u 3, u 4, u 5, u 6, u 7, u 8, u 9, u 10, u 11, u 12, u 13, u 14, u 15, u 16, u 17, u 18, u 19, u 20, u 21, u 22, u 23, u 24, u 25, u 26, u 27, u 28, u 29, u 30, u 31, u 32, u 33, u 34, u 35, u 36, u 37, u 38, u 39, u 40, u 41, u 42, u 43, u 44, u 45, u 46, u 47, u 48, u 49, u 50, u 51, u 52, u 53, u 54, u 55, u 56, u 57, u 58, u 59, u 60, u 61, u 62, u 63, u 64, u 65, u 66, u 67, u 68, u 69, u 70, u 71, u 72, u 73, u 74, u 75, u 76, u 77, u 78, u 79, u 80, u 81] := by
  refine ⟨fun i => xs.getD i undef, ?_⟩
  have e : xs.toList = (List.range 82).map fun i => xs.getD i undef := by
    apply List.ext_getElem
    · simp [h]
    · intro i h1 h2
      have hi : i < xs.size := by simpa using h1
      simp [hi]
  have e2 : xs = ((List.range 82).map fun i => xs.getD i undef).toArray := by rw [← e]
  rw [← h0, ← h2]
  exact e2
/-! ### What build tells -/
def EndG (w' : World) (p fuel : Nat) (ov : Value) (rest : List Value) (e : Ending) : Ends PNode → Prop
  | .ok x s => rightP x = true ∧ s ≤ fuel ∧ (∃ v, e = .returned v ∧ NodeV w' (fun i => i ≠ p) x v) ∧ ∃ pv at_, BlkB w' p s fuel pv ov at_ rest
  | .fail s => s ≤ fuel ∧ e = errFail ∧ ∃ pv at_, BlkB w' p s fuel pv ov at_ rest
  | .out => e = outOfFuel ∧ ∃ pv at_, BlkB w' p fuel fuel pv ov at_ rest
def BuildG (w : World) (p fuel : Nat) (ov : Value) (rest : List Value) (E : Ends PNode) (e : Ending) (w' : World) : Prop := EndG w' p fuel ov rest e E ∧ Keep (fun i => i < w.heap.size ∧ i ≠ p) w w'
/-- What stands at the label. -/
structure BuildI (w : World) (p fuel : Nat) (ov : Value) (rest : List Value) (bm : Nat) (Gi : Nat → Prop) (L : List (ByteArray × Value)) (f : ByteArray → Option PIn) (ops : List POp) (used at_ : Nat) (pile : List PNode) (pv : Value) (w' : World) : Prop where
  st : BSt w' p (w.heap.size + 1) used fuel at_ ov rest pile pv
  res : Blk w' w.heap.size [.int .i64 0, .slice none 0 0, .slice none 0 0] 58
  map : MapS w' bm L
  ins : InR w' Gi L f
  ops_ : OpsR w' (fun i => i < w.heap.size ∧ i ≠ p) ov ops
  at_le : at_ ≤ ops.length
  keep : Keep (fun i => i < w.heap.size ∧ i ≠ p) w w'
theorem InR.keep {w w' : World} {G : Nat → Prop} {L : List (ByteArray × Value)} {f : ByteArray → Option PIn} (h : InR w G L f) (k : Keep G w w') : InR w' G L f := fun s => by
  have hs := h s
  cases hf : f s with
  | none => rw [hf] at hs; exact hs
  | some i =>
    rw [hf] at hs
    obtain ⟨t, A, c, B, d, h1, h2, h3⟩ := hs
    exact ⟨t, A, c, B, d, h1, h2, h3.keep k⟩
section
variable {w w' w6 S : World} {p fuel bm : Nat} {ov : Value} {rest : List Value} {Gi : Nat → Prop} {L : List (ByteArray × Value)} {f : ByteArray → Option PIn} {ops : List POp} {used at_ : Nat} {pile : List PNode} {pv : Value}
theorem BuildI.keep_ (h : BuildI w p fuel ov rest bm Gi L f ops used at_ pile pv S) (hp : p < w.heap.size) (hbm : bm < w.heap.size ∧ bm ≠ p) (hGi : ∀ i, Gi i → i < w.heap.size ∧ i ≠ p) {used' at' : Nat} {pile' : List PNode} {pv' : Value}
    (k : Keep (Kb (w.heap.size + 1) p) S w') (hs : BSt w' p (w.heap.size + 1) used' fuel at' ov rest pile' pv') (ha : at' ≤ ops.length) : BuildI w p fuel ov rest bm Gi L f ops used' at' pile' pv' w' :=
  ⟨hs, h.res.keep k ⟨by omega, by omega⟩, h.map.keep k ⟨by omega, hbm.2⟩, h.ins.keep (k.mono fun i hi => ⟨by have := (hGi i hi).1; omega, (hGi i hi).2⟩), h.ops_.keep (k.mono fun i hi => ⟨by omega, hi.2⟩), ha, h.keep.trans (k.mono fun i hi => ⟨by omega, hi.2⟩)⟩
theorem BSt.other {base used' at' : Nat} (h : BSt S p base used fuel at_ ov rest pile pv) (k : Keep (fun i => i ≠ p) S w') (hb : BlkB w' p used' fuel pv ov at' rest) (hu : used' ≤ fuel) : BSt w' p base used' fuel at' ov rest pile pv := by
  have hlt := fun g hg => h.row_lt (g := g) hg
  obtain ⟨h1, h2, h3, h4, h5, hl, hr, cs, h6, h7⟩ := h
  exact ⟨hb, h2, Nat.le_trans h3 k.size, hu, h5, hl, hr, cs, own_keep h6 k fun g hg => by have := (hlt g hg).1; omega, h7.keep (k.mono fun i hi => hi.1)⟩
variable {sbs : List UInt8} {snm : ByteArray} {m : Nat} {E : Ends PNode} {o : POp} {e : Ending}
/-- An operation has been done. -/
theorem BuildI.next (h : BuildI w p fuel ov rest bm Gi L f ops used at_ pile pv S) (hp : p < w.heap.size) (hbm : bm < w.heap.size ∧ bm ≠ p) (hGi : ∀ i, Gi i → i < w.heap.size ∧ i ≠ p) (ho : ops[at_]? = some o) (k : Keep (fun i => i ≠ p) S w6) (hu : used + 1 ≤ fuel)
    (hE : E = goP ops.length (opF f sbs snm ops) fuel (m + 1) pile at_ used) (hm : fuel + 1 ≤ m + 1 + used) {v : Value} (hq : OpOut (Kb (w.heap.size + 1) p) w6 p (w.heap.size + 1) (used + 1) fuel ov rest (opR f sbs snm ops.length o pile (at_ + 1)) (.returned v) w') :
    ∃ used' at' pile' pv', BuildI w p fuel ov rest bm Gi L f ops used' at' pile' pv' w' ∧ E = goP ops.length (opF f sbs snm ops) fuel m pile' at' used' ∧ fuel + 1 ≤ m + used' := by
  have hi := (List.getElem?_eq_some_iff.1 ho).1
  obtain ⟨h1, h2⟩ := hq
  cases hr : opR f sbs snm ops.length o pile (at_ + 1) with
  | none => rw [hr] at h1; obtain ⟨h1, -⟩ := h1; cases h1
  | some q =>
    rw [hr] at h1
    simp only at h1
    split at h1
    · rename_i hc
      obtain ⟨-, pv', hs⟩ := h1
      have hto := opR_to (by omega) hr
      refine ⟨used + 1 + q.2.1, q.2.2, q.1, pv', h.keep_ hp hbm hGi ((k.mono fun i hi => hi.2).trans h2) hs hto, ?_, by omega⟩
      rw [hE, goP_succ, if_neg (by omega), if_neg (by omega)]
      have hF : opF f sbs snm ops at_ pile = some q := by unfold opF; rw [ho]; exact hr
      rw [hF]
      obtain ⟨q1, q2, q3⟩ := q
      simp only
      rw [if_neg (by simp only at hc; omega)]
    · obtain ⟨h1, -⟩ := h1; cases h1
/-- An operation has failed, or has run out of fuel. -/
theorem BuildI.stop (h : BuildI w p fuel ov rest bm Gi L f ops used at_ pile pv S) (ho : ops[at_]? = some o) (k : Keep (fun i => i ≠ p) S w6) (hu : used + 1 ≤ fuel)
    (hE : E = goP ops.length (opF f sbs snm ops) fuel (m + 1) pile at_ used) {e : List PanicEntry} (hq : OpOut (Kb (w.heap.size + 1) p) w6 p (w.heap.size + 1) (used + 1) fuel ov rest (opR f sbs snm ops.length o pile (at_ + 1)) (.panicked e) w') :
    BuildG w p fuel ov rest E (.panicked e) w' := by
  have hi := (List.getElem?_eq_some_iff.1 ho).1
  obtain ⟨h1, h2⟩ := hq
  refine ⟨?_, h.keep.trans ((k.mono fun i hi => hi.2).trans (h2.mono fun i (hi : i < w.heap.size ∧ i ≠ p) => ⟨by omega, hi.2⟩))⟩
  rw [hE, goP_succ, if_neg (by omega), if_neg (by omega)]
  cases hr : opR f sbs snm ops.length o pile (at_ + 1) with
  | none =>
    rw [hr] at h1
    have hF : opF f sbs snm ops at_ pile = none := by unfold opF; rw [ho]; exact hr
    rw [hF]
    exact ⟨hu, h1.1, h1.2⟩
  | some q =>
    rw [hr] at h1
    have hF : opF f sbs snm ops at_ pile = some q := by unfold opF; rw [ho]; exact hr
    rw [hF]
    obtain ⟨q1, q2, q3⟩ := q
    simp only at h1 ⊢
    split at h1
    · obtain ⟨h1, -⟩ := h1; cases h1
    · rename_i hc
      rw [if_pos (by omega)]
      exact h1
/-- Out of fuel ahead of an operation. -/
theorem BuildI.spent (h : BuildI w p fuel ov rest bm Gi L f ops used at_ pile pv S) (hi : at_ ≠ ops.length) (k : Keep (fun i => i ≠ p) S w') (hu : ¬ used + 1 ≤ fuel)
    (hE : E = goP ops.length (opF f sbs snm ops) fuel (m + 1) pile at_ used) {at' : Nat} (hb : BlkB w' p fuel fuel pv ov at' rest) : BuildG w p fuel ov rest E outOfFuel w' := by
  refine ⟨?_, h.keep.trans (k.mono fun i hi => hi.2)⟩
  rw [hE, goP_succ, if_neg hi, if_pos (by omega)]
  exact ⟨rfl, pv, at', hb⟩
/-- At the end: none, or more than one tree. -/
theorem BuildI.many (h : BuildI w p fuel ov rest bm Gi L f ops used at_ pile pv S) (hi : at_ = ops.length) (k : Keep (fun i => i ≠ p) S w') (hl : pile.length ≠ 1)
    (hE : E = goP ops.length (opF f sbs snm ops) fuel (m + 1) pile at_ used) {at' : Nat} (hb : BlkB w' p used fuel pv ov at' rest) : BuildG w p fuel ov rest E errFail w' := by
  refine ⟨?_, h.keep.trans (k.mono fun i hi => hi.2)⟩
  rw [hE, goP_succ, if_pos hi]
  unfold endP
  split
  · exact absurd rfl hl
  · exact ⟨h.st.used_, rfl, pv, at', hb⟩
theorem set3_keep (w : World) (r : Nat) (x y z : Value) : Keep (fun i => i ≠ r) w (set3 w r x y z) := (Keep.refl _ w).set3 _ (.inr fun h => h rfl) _ _ _
/-- At the end: one tree, which is told. -/
theorem BuildI.one {x : PNode} (h : BuildI w p fuel ov rest bm Gi L f ops used at_ [x] pv S) (hp : p < w.heap.size) (hi : at_ = ops.length) {w5 : World} (k : Keep All S w5) {vb vk : Value} (hx : RepN S (Gp p pv) x vb vk)
    (hE : E = goP ops.length (opF f sbs snm ops) fuel (m + 1) [x] at_ used) : BuildG w p fuel ov rest E (.returned (.agg #[.int .i64 x.kind, vb, vk])) (set3 w5 w.heap.size (.int .i64 x.kind) vb vk) := by
  have k3 := set3_keep w5 w.heap.size (.int .i64 x.kind) vb vk
  have hb : Bare w5 w.heap.size := (h.res.keep k trivial).bare (by
    intro v hv
    simp only [List.mem_cons, List.not_mem_nil, or_false] at hv
    rcases hv with rfl | rfl | rfl <;> exact ⟨fun s => by simp, fun n => by simp⟩)
  refine ⟨?_, (h.keep.then_ k fun i _ _ => trivial).then_ k3 fun i hi _ => by omega⟩
  rw [hE, goP_succ, if_pos hi]
  obtain ⟨A, c, B, d, rfl, rfl⟩ := hx.forms
  refine ⟨h.st.rightTop (xs := []), h.st.used_, ⟨_, rfl, A, c, B, d, rfl, ?_⟩, pv, at_, (Blk.keep h.st.blk k trivial).keep k3 (by omega)⟩
  exact (((hx.keep k.all).avoid hb).keep (k3.mono fun i hi => hi.2)).mono fun i _ hi => hi.1.1
end

theorem build65g (w : World) (p fuel bm oc : Nat) (OA : Option Addr) (ops : List POp) (Gi : Nat → Prop) (L : List (ByteArray × Value)) (f : ByteArray → Option PIn) (sbs : List UInt8) (snm : ByteArray)
    (hb : BlkB w p 0 fuel (.slice none 0 0) (.slice OA ops.length oc) 0 (pathCells sbs snm ++ [.map (some bm)])) (hf : fuel ≤ 1000000) (hsb : sbs.length = 20) (hm : MapS w bm L) (hbm : bm ≠ p) (hin : InR w Gi L f) (hGi : ∀ i, Gi i → i < w.heap.size ∧ i ≠ p)
    (hops : OpsR w (fun i => i < w.heap.size ∧ i ≠ p) (.slice OA ops.length oc) ops) (hr : ∀ o ∈ ops, OpRight o) (hn : ops.length ≤ 1000) :
    Calls Tryz.prog 65 #[.pointer (some ⟨p, 0, none⟩)] w (BuildG w p fuel (.slice OA ops.length oc) (pathCells sbs snm ++ [.map (some bm)]) (runF ops.length (opF f sbs snm ops) fuel)) := by
  have hp := hb.lt
  have hbm' := hm.lt
  obtain ⟨E, hE⟩ : ∃ E, E = runF ops.length (opF f sbs snm ops) fuel := ⟨_, rfl⟩
  rw [← hE]
  obtain ⟨W, hW⟩ : ∃ X, X = w.alloc (.cells #[.int .i64 0, .slice none 0 0, .slice none 0 0] 58) := ⟨_, rfl⟩
  obtain ⟨rs, hrs⟩ : ∃ q, q = pathCells sbs snm ++ [Value.map (some bm)] := ⟨_, rfl⟩
  obtain ⟨nl, hnl⟩ : ∃ q, q = ops.length := ⟨_, rfl⟩
  have KA : Keep All w W := hW ▸ (Keep.refl All w).alloc _
  have HI : Fact (BuildI w p fuel (.slice OA nl oc) rs bm Gi L f ops 0 0 [] (.slice none 0 0) W) := ⟨by
    subst hrs hnl
    refine ⟨⟨Blk.keep hb KA trivial, by omega, by rw [hW, World.size_alloc]; exact Nat.le_refl _, Nat.zero_le _, hf, by simp, rfl, [], World.ownsRow_nil _ _ _ _, rfl⟩, hW ▸ Blk.new w [.int .i64 0, .slice none 0 0, .slice none 0 0] 58, hm.keep KA trivial, hin.keep KA.all, hops.keep KA.all, Nat.zero_le _, KA.all⟩⟩
  have HP : Fact (p < w.heap.size ∧ (bm < w.heap.size ∧ bm ≠ p) ∧ (∀ i, Gi i → i < w.heap.size ∧ i ≠ p) ∧ fuel ≤ 1000000 ∧ sbs.length = 20 ∧ (∀ o ∈ ops, OpRight o) ∧ ops.length ≤ 1000 ∧ rs = pathCells sbs snm ++ [Value.map (some bm)] ∧ nl = ops.length ∧ E = runF ops.length (opF f sbs snm ops) fuel) := ⟨hp, ⟨hbm', hbm⟩, hGi, hf, hsb, hr, hn, hrs, hnl, hE⟩
  rw [← hrs, ← hnl]
  have HW := Fact.mk hW
  clear hb hf hsb hm hbm hin hGi hops hr hn hrs hnl hE hW KA hp hbm'
  go_enter Tryz.func65, Tryz.ntmps65
  go_wp2
  rw [← HW.out]
  refine scope_ind (fun m a w' => ∃ used at_ pile pv, (a.tmps.size = 82 ∧ a.tmps.getD 0 undef = .pointer (some ⟨p, 0, none⟩) ∧ a.tmps.getD 2 undef = .pointer (some ⟨w.heap.size, 0, none⟩) ∧ a.defers = []) ∧ BuildI w p fuel (.slice OA nl oc) rs bm Gi L f ops used at_ pile pv w' ∧ E = goP ops.length (opF f sbs snm ops) fuel m pile at_ used ∧ fuel + 1 ≤ m + used) fuel ?none ?h0 ?step
  case none =>
    rintro a w' ⟨used, at_, pile, pv, -, h1, -, h3⟩
    have := h1.st.used_
    omega
  case h0 => exact ⟨0, 0, [], _, ⟨rfl, rfl, rfl, rfl⟩, HI.out, HP.out.2.2.2.2.2.2.2.2.2, by omega⟩
  case step =>
    rintro m J ⟨tm, df⟩ S ⟨used, at_, pile, pv, ⟨hf1, hf2, hf3, hf4⟩, hI, hEm, hlim⟩ hJ
    simp only at hf1 hf2 hf3 hf4
    subst hf4
    obtain ⟨u, rfl⟩ := frame82 hf1 hf2 hf3
    clear hf1 hf2 hf3
    have HIB := Fact.mk hI
    have HEM := Fact.mk hEm
    have HLIM := Fact.mk hlim
    obtain ⟨p2, d2, rfl⟩ : ∃ A c, pv = .slice A pile.length c := by
      obtain ⟨cs, h1, -⟩ := hI.st.row
      exact own_form h1
    have c3 := Blk.cell hI.st.blk 3 _ rfl
    have c4 : S.cell? ⟨p, 4, none⟩ = some (.int .i64 at_) := Blk.cell hI.st.blk 4 _ rfl
    have hat : at_ ≤ 1000 := by have := hI.at_le; have := HP.out.2.2.2.2.2.2.1; omega
    have hnl9 : nl ≤ 1000 := by have := HP.out.2.2.2.2.2.2; omega
    clear hI hEm hlim HI HW
    by_cases hend : at_ = nl
    · subst hend
      by_cases h1 : pile.length = 1
      · obtain ⟨x, rfl⟩ : ∃ x, pile = [x] := by
          match pile, h1 with
          | [x], _ => exact ⟨x, rfl⟩
        obtain ⟨cs, hrow, hrep⟩ := HIB.out.st.row
        obtain ⟨vb, vk, dd, rfl, hrx, hdd⟩ := hrep
        rw [RepL] at hdd
        subst hdd
        obtain ⟨Ax, cx, Bx, dx, rfl, rfl⟩ := hrx.forms
        obtain ⟨g, pc, cur, hpv, hbg, hgb, hpc, hpm, -, hcur⟩ := own_blk hrow (by simp)
        injection hpv with hp2 _ hd2
        subst hp2 hd2
        have q0 : S.cell? ⟨g, 0, none⟩ = some (.int .i64 x.kind) := hrow.cellAt 0 (by simp)
        have q1 : S.cell? ⟨g, 1, none⟩ = some (.slice Ax x.bytes.length cx) := hrow.cellAt 1 (by simp)
        have q2 : S.cell? ⟨g, 2, none⟩ = some (.slice Bx x.kids.length dx) := hrow.cellAt 2 (by simp)
        have c2 := Blk.cell HIB.out.st.blk 2 _ rfl
        have HRX := Fact.mk hrx
        have HPM := Fact.mk hpm
        have r0 := HIB.out.res.free 0
        have r1 := HIB.out.res.free 1
        have r2 := HIB.out.res.free 2
        have s0 := HIB.out.res.cell 0 _ rfl
        have s1 := HIB.out.res.cell 1 _ rfl
        have s2 := HIB.out.res.cell 2 _ rfl
        have hgr : g ≠ w.heap.size := by omega
        simp only [List.length_singleton] at c2 h1
        clear hrow hrx hcur hpm h1 hgb hbg
        go_wp2_with fail
        go_quiet (fail)
        go_wp2_with (go_at_call 111; go_must (refine (must111 _).mono ?_); rintro e v ⟨rfl, rfl⟩)
        refine bodyPost_ret (results_58 rfl _ _ w.heap.size _ _ _ rfl (Blk.set3 (HIB.out.res.drewN nq) _ _ _)) rfl ?_
        exact HIB.out.one HP.out.1 HP.out.2.2.2.2.2.2.2.2.1 ((Keep.refl All S).drewN nq) HRX.out HEM.out
      · have h1' : ((pile.length : Int) == 1) = false := by simpa using (by omega : ¬ ((pile.length : Int) = 1))
        have c2 := Blk.cell HIB.out.st.blk 2 _ rfl
        have HNO := Fact.mk h1
        clear h1
        go_wp2_with fail
        go_quiet (fail)
        go_wp2_with (go_at_call 111; go_must (refine (must111_not _).mono ?_); rintro e v ⟨he, rfl⟩; unfold errFail at he; subst he)
        exact ⟨rfl, HIB.out.many HP.out.2.2.2.2.2.2.2.2.1 ((Keep.refl _ S).drewN nq) HNO.out HEM.out (Blk.drewN HIB.out.st.blk nq)⟩
    · have hne : ¬ ((at_ : Int) = (nl : Int)) := by omega
      have HNE := Fact.mk hend
      have hlt : at_ < ops.length := by have := HIB.out.at_le; have := HP.out.2.2.2.2.2.2.2.2.1; omega
      have hltn : at_ < nl := by have := HP.out.2.2.2.2.2.2.2.2.1; omega
      obtain ⟨⟨kd, on, om, tx⟩, ho⟩ : ∃ q, q = ops[at_] := ⟨_, rfl⟩
      have HO : Fact (ops[at_]? = some ⟨kd, on, om, tx⟩) := ⟨by rw [ho]; exact List.getElem?_eq_getElem hlt⟩
      have HOR : Fact (OpRight ⟨kd, on, om, tx⟩) := ⟨HP.out.2.2.2.2.2.1 _ (by rw [ho]; exact List.getElem_mem hlt)⟩
      obtain ⟨A0, c0, hv0, hn0, hc0, -, hk0⟩ := HIB.out.ops_.open
      injection hv0 with hv1 hv2 hv3
      subst hv1 hv3
      obtain ⟨ob, off, T, d, rfl, hgo, hby, hkd, hon, hom, htx⟩ := hk0 at_ hlt
      rw [← ho] at hby hkd hon hom htx
      simp only at hby hkd hon hom htx
      have HBY := Fact.mk hby
      have HC0 := Fact.mk hc0
      have hoc : nl ≤ oc := by have := HP.out.2.2.2.2.2.2.2.2.1; omega
      clear hby hgo hk0 hn0 ho hlt hv2 hend hc0
      go_wp2_with fail
      go_quiet (fail)
      go_wp2_with fail
      obtain ⟨V, hV⟩ : ∃ V, V = S.drewN nq := ⟨_, rfl⟩
      have KV : Fact (Keep All S V) := ⟨hV ▸ (Keep.refl _ _).drewN nq⟩
      rw [← hV]
      clear hV
      have e3 := KV.out.cell (p := ⟨p, 3, none⟩) trivial c3
      have e4 := KV.out.cell (p := ⟨p, 4, none⟩) trivial c4
      have f0 := KV.out.cell (p := ⟨ob, off + at_ * 4, none⟩) trivial hkd
      have f1 := KV.out.cell (p := ⟨ob, off + at_ * 4 + 1, none⟩) trivial hon
      have f2 := KV.out.cell (p := ⟨ob, off + at_ * 4 + 2, none⟩) trivial hom
      have f3 := KV.out.cell (p := ⟨ob, off + at_ * 4 + 3, none⟩) trivial htx
      clear c3 c4 hkd hon hom htx
      go_region_held3 (fun w' => w'.cell? ⟨p, 3, none⟩ = some (.slice (some ⟨ob, off, none⟩) nl oc) ∧ w'.cell? ⟨p, 4, none⟩ = some (.int .i64 at_) ∧ w'.cell? ⟨ob, off + at_ * 4, none⟩ = some (.int .i64 kd) ∧ w'.cell? ⟨ob, off + at_ * 4 + 1, none⟩ = some (.int .i64 on) ∧ w'.cell? ⟨ob, off + at_ * 4 + 2, none⟩ = some (.int .i64 om) ∧ w'.cell? ⟨ob, off + at_ * 4 + 3, none⟩ = some (.slice T tx.length d)) (go_keep) (fail)
      obtain ⟨U, hU⟩ : ∃ U, U = (V.alloc (.cells #[.int .i64 kd, .int .i64 on, .int .i64 om, .slice T tx.length d] 25)).drew := ⟨_, rfl⟩
      rw [← hU]
      have KU : Fact (Keep All S U) := ⟨hU ▸ (KV.out.alloc _).drew⟩
      have TU : Fact (Blk U V.heap.size [.int .i64 kd, .int .i64 on, .int .i64 om, .slice T tx.length d] 25) := ⟨hU ▸ (Blk.new V [.int .i64 kd, .int .i64 on, .int .i64 om, .slice T tx.length d] 25).drew⟩
      have SV : Fact (p < V.heap.size) := ⟨Nat.lt_of_lt_of_le (Blk.lt HIB.out.st.blk) KV.out.size⟩
      have HU := Fact.mk (Blk.keep HIB.out.st.blk KU.out trivial)
      clear hU e3 e4 f0 f1 f2 f3 KV
      have f4 := Blk.free HU.out 4
      have c4 : U.cell? ⟨p, 4, none⟩ = some (.int .i64 at_) := Blk.cell HU.out 4 _ rfl
      go_upto_region 6 with (fail)
      obtain ⟨X, hX⟩ : ∃ X, X = U.setCell ⟨p, 4, none⟩ (.int .i64 ((at_ : Int) + 1)) := ⟨_, rfl⟩
      rw [← hX]
      have HX : Fact (BlkB X p used fuel (.slice p2 pile.length d2) (.slice (some ⟨ob, off, none⟩) nl oc) (at_ + 1) rs) := ⟨hX ▸ Blk.set HU.out 4 (.int .i64 ((at_ : Int) + 1))⟩
      have KX : Fact (Keep (fun i => i ≠ p) S X) := ⟨hX ▸ KU.out.all.setCell (p := ⟨p, 4, none⟩) (.inr fun h => h rfl) _⟩
      have TX : Fact (Blk X V.heap.size [.int .i64 kd, .int .i64 on, .int .i64 om, .slice T tx.length d] 25) := ⟨hX ▸ Blk.other TU.out ⟨p, 4, none⟩ (by have := SV.out; show V.heap.size ≠ p; omega) _⟩
      obtain ⟨xb, hxb⟩ : ∃ q, q = V.heap.size := ⟨_, rfl⟩
      rw [← hxb] at TX SV ⊢
      clear hX hxb f4 c4 KU TU HU
      by_cases hfu : used + 1 ≤ fuel
      · go_upto_region 7 with (go_at_call 112; go_must (refine (spend112 _ p used fuel 1 (at_ + 1) _ _ rs HX.out (Small.of (by have := HP.out.2.2.2.1; omega)) hfu).mono ?_); rintro e w1 ⟨rfl, h1, hk⟩; have H1 := Fact.mk h1; have K1 := Fact.mk (KX.out.trans hk); have TT := Fact.mk (TX.out.keep hk (by have := SV.out; show xb ≠ p; omega)); clear h1 hk)
        have t10 := TT.out.cell 0 _ rfl
        have t11 := TT.out.cell 1 _ rfl
        have t12 := TT.out.cell 2 _ rfl
        have t13 := TT.out.cell 3 _ rfl
        obtain ⟨RR, hRR⟩ : ∃ q, q = opR f sbs snm ops.length ⟨kd, on, om, tx⟩ pile (at_ + 1) := ⟨_, rfl⟩
        have HNX : Fact (∀ v w', OpOut (Kb (w.heap.size + 1) p) w1 p (w.heap.size + 1) (used + 1) fuel (.slice (some ⟨ob, off, none⟩) nl oc) rs RR (.returned v) w' → ∃ used' at' pile' pv', BuildI w p fuel (.slice (some ⟨ob, off, none⟩) nl oc) rs bm Gi L f ops used' at' pile' pv' w' ∧ E = goP ops.length (opF f sbs snm ops) fuel m pile' at' used' ∧ fuel + 1 ≤ m + used') := ⟨fun v w' hq => by
          rw [hRR] at hq
          exact HIB.out.next HP.out.1 HP.out.2.1 HP.out.2.2.1 HO.out K1.out hfu HEM.out HLIM.out hq⟩
        have HST : Fact (∀ e w', OpOut (Kb (w.heap.size + 1) p) w1 p (w.heap.size + 1) (used + 1) fuel (.slice (some ⟨ob, off, none⟩) nl oc) rs RR (.panicked e) w' → BuildG w p fuel (.slice (some ⟨ob, off, none⟩) nl oc) rs E (.panicked e) w') := ⟨fun e w' hq => by
          rw [hRR] at hq
          exact HIB.out.stop HO.out K1.out hfu HEM.out hq⟩
        have HC : Fact (Calls Tryz.prog (kindF kd) #[.pointer (some ⟨p, 0, none⟩), .agg #[.int .i64 kd, .int .i64 on, .int .i64 om, .slice T tx.length d]] w1 (OpOut (Kb (w.heap.size + 1) p) w1 p (w.heap.size + 1) (used + 1) fuel (.slice (some ⟨ob, off, none⟩) nl oc) rs RR)) := ⟨by
          have hs := HIB.out.st.other K1.out H1.out hfu
          obtain ⟨hp, ⟨hb1, hb2⟩, hgi, hf, hsb, -, hn, hrs, hnl, -⟩ := HP.out
          rw [hrs] at hs
          have := opCall w1 p (w.heap.size + 1) (used + 1) fuel (at_ + 1) _ (fun i => i < w.heap.size ∧ i ≠ p) Gi pile ⟨kd, on, om, tx⟩ T d bm L f sbs snm (some ⟨ob, off, none⟩) nl oc hs hsb (HIB.out.map.keep K1.out hb2) (HIB.out.ins.keep (K1.out.mono fun i hi => (hgi i hi).2))
            (fun i hi => ⟨(hgi i hi).2, fun e => by have := (hs.row_lt e).1; have := (hgi i hi).1; omega⟩) (HBY.out.keep (K1.out.mono fun i hi => hi.2)) HOR.out (by omega)
          rw [← hrs] at this
          rw [hRR, ← hnl]
          exact this⟩
        have hk : kd = 1 ∨ kd = 2 ∨ kd = 3 ∨ kd = 4 ∨ kd = 5 ∨ kd = 6 ∨ kd = 7 ∨ kd = 8 ∨ kd = 9 ∨ kd = 10 ∨ kd = 11 ∨ kd = 12 ∨ kd = 13 ∨ kd = 14 ∨ kd = 15 ∨ kd = 16 ∨ kd = 17 ∨ kd = 18 ∨ kd = 19 ∨ kd = 20 := by
          obtain ⟨k1, k2, -⟩ := HOR.out
          simp only at k1 k2
          omega
        clear hRR HOR HO HBY HNE HIB HEM HLIM H1 TT KX HX K1 TX
        rcases hk with rfl | rfl | rfl | rfl | rfl | rfl | rfl | rfl | rfl | rfl | rfl | rfl | rfl | rfl | rfl | rfl | rfl | rfl | rfl | rfl
        · have hc := HC.out
          rw [show kindF 1 = 116 by decide] at hc
          have HCC := Fact.mk hc
          clear hc HC
          go_wp2_with (go_at_call 116; go_must (refine HCC.out.mono ?_); intro e w3 hq; have HQ := Fact.mk hq; clear hq)
          · go_step3
            refine ⟨rfl, hJ.out _ _ ?_⟩
            obtain ⟨used', at', pile', pv', i1, i2, i3⟩ := HNX.out _ _ HQ.out
            exact ⟨used', at', pile', pv', ⟨rfl, rfl, rfl, rfl⟩, i1, i2, i3⟩
          · exact ⟨rfl, HST.out _ _ HQ.out⟩
          · exact HQ.out.no.elim
        · have hc := HC.out
          rw [show kindF 2 = 116 by decide] at hc
          have HCC := Fact.mk hc
          clear hc HC
          go_wp2_with (go_at_call 116; go_must (refine HCC.out.mono ?_); intro e w3 hq; have HQ := Fact.mk hq; clear hq)
          · go_step3
            refine ⟨rfl, hJ.out _ _ ?_⟩
            obtain ⟨used', at', pile', pv', i1, i2, i3⟩ := HNX.out _ _ HQ.out
            exact ⟨used', at', pile', pv', ⟨rfl, rfl, rfl, rfl⟩, i1, i2, i3⟩
          · exact ⟨rfl, HST.out _ _ HQ.out⟩
          · exact HQ.out.no.elim
        · have hc := HC.out
          rw [show kindF 3 = 116 by decide] at hc
          have HCC := Fact.mk hc
          clear hc HC
          go_wp2_with (go_at_call 116; go_must (refine HCC.out.mono ?_); intro e w3 hq; have HQ := Fact.mk hq; clear hq)
          · go_step3
            refine ⟨rfl, hJ.out _ _ ?_⟩
            obtain ⟨used', at', pile', pv', i1, i2, i3⟩ := HNX.out _ _ HQ.out
            exact ⟨used', at', pile', pv', ⟨rfl, rfl, rfl, rfl⟩, i1, i2, i3⟩
          · exact ⟨rfl, HST.out _ _ HQ.out⟩
          · exact HQ.out.no.elim
        · have hc := HC.out
          rw [show kindF 4 = 116 by decide] at hc
          have HCC := Fact.mk hc
          clear hc HC
          go_wp2_with (go_at_call 116; go_must (refine HCC.out.mono ?_); intro e w3 hq; have HQ := Fact.mk hq; clear hq)
          · go_step3
            refine ⟨rfl, hJ.out _ _ ?_⟩
            obtain ⟨used', at', pile', pv', i1, i2, i3⟩ := HNX.out _ _ HQ.out
            exact ⟨used', at', pile', pv', ⟨rfl, rfl, rfl, rfl⟩, i1, i2, i3⟩
          · exact ⟨rfl, HST.out _ _ HQ.out⟩
          · exact HQ.out.no.elim
        · have hc := HC.out
          rw [show kindF 5 = 113 by decide] at hc
          have HCC := Fact.mk hc
          clear hc HC
          go_wp2_with (go_at_call 113; go_must (refine HCC.out.mono ?_); intro e w3 hq; have HQ := Fact.mk hq; clear hq)
          · go_step3
            refine ⟨rfl, hJ.out _ _ ?_⟩
            obtain ⟨used', at', pile', pv', i1, i2, i3⟩ := HNX.out _ _ HQ.out
            exact ⟨used', at', pile', pv', ⟨rfl, rfl, rfl, rfl⟩, i1, i2, i3⟩
          · exact ⟨rfl, HST.out _ _ HQ.out⟩
          · exact HQ.out.no.elim
        · have hc := HC.out
          rw [show kindF 6 = 113 by decide] at hc
          have HCC := Fact.mk hc
          clear hc HC
          go_wp2_with (go_at_call 113; go_must (refine HCC.out.mono ?_); intro e w3 hq; have HQ := Fact.mk hq; clear hq)
          · go_step3
            refine ⟨rfl, hJ.out _ _ ?_⟩
            obtain ⟨used', at', pile', pv', i1, i2, i3⟩ := HNX.out _ _ HQ.out
            exact ⟨used', at', pile', pv', ⟨rfl, rfl, rfl, rfl⟩, i1, i2, i3⟩
          · exact ⟨rfl, HST.out _ _ HQ.out⟩
          · exact HQ.out.no.elim
        · have hc := HC.out
          rw [show kindF 7 = 113 by decide] at hc
          have HCC := Fact.mk hc
          clear hc HC
          go_wp2_with (go_at_call 113; go_must (refine HCC.out.mono ?_); intro e w3 hq; have HQ := Fact.mk hq; clear hq)
          · go_step3
            refine ⟨rfl, hJ.out _ _ ?_⟩
            obtain ⟨used', at', pile', pv', i1, i2, i3⟩ := HNX.out _ _ HQ.out
            exact ⟨used', at', pile', pv', ⟨rfl, rfl, rfl, rfl⟩, i1, i2, i3⟩
          · exact ⟨rfl, HST.out _ _ HQ.out⟩
          · exact HQ.out.no.elim
        · have hc := HC.out
          rw [show kindF 8 = 116 by decide] at hc
          have HCC := Fact.mk hc
          clear hc HC
          go_wp2_with (go_at_call 116; go_must (refine HCC.out.mono ?_); intro e w3 hq; have HQ := Fact.mk hq; clear hq)
          · go_step3
            refine ⟨rfl, hJ.out _ _ ?_⟩
            obtain ⟨used', at', pile', pv', i1, i2, i3⟩ := HNX.out _ _ HQ.out
            exact ⟨used', at', pile', pv', ⟨rfl, rfl, rfl, rfl⟩, i1, i2, i3⟩
          · exact ⟨rfl, HST.out _ _ HQ.out⟩
          · exact HQ.out.no.elim
        · have hc := HC.out
          rw [show kindF 9 = 116 by decide] at hc
          have HCC := Fact.mk hc
          clear hc HC
          go_wp2_with (go_at_call 116; go_must (refine HCC.out.mono ?_); intro e w3 hq; have HQ := Fact.mk hq; clear hq)
          · go_step3
            refine ⟨rfl, hJ.out _ _ ?_⟩
            obtain ⟨used', at', pile', pv', i1, i2, i3⟩ := HNX.out _ _ HQ.out
            exact ⟨used', at', pile', pv', ⟨rfl, rfl, rfl, rfl⟩, i1, i2, i3⟩
          · exact ⟨rfl, HST.out _ _ HQ.out⟩
          · exact HQ.out.no.elim
        · have hc := HC.out
          rw [show kindF 10 = 116 by decide] at hc
          have HCC := Fact.mk hc
          clear hc HC
          go_wp2_with (go_at_call 116; go_must (refine HCC.out.mono ?_); intro e w3 hq; have HQ := Fact.mk hq; clear hq)
          · go_step3
            refine ⟨rfl, hJ.out _ _ ?_⟩
            obtain ⟨used', at', pile', pv', i1, i2, i3⟩ := HNX.out _ _ HQ.out
            exact ⟨used', at', pile', pv', ⟨rfl, rfl, rfl, rfl⟩, i1, i2, i3⟩
          · exact ⟨rfl, HST.out _ _ HQ.out⟩
          · exact HQ.out.no.elim
        · have hc := HC.out
          rw [show kindF 11 = 114 by decide] at hc
          have HCC := Fact.mk hc
          clear hc HC
          go_wp2_with (go_at_call 114; go_must (refine HCC.out.mono ?_); intro e w3 hq; have HQ := Fact.mk hq; clear hq)
          · go_step3
            refine ⟨rfl, hJ.out _ _ ?_⟩
            obtain ⟨used', at', pile', pv', i1, i2, i3⟩ := HNX.out _ _ HQ.out
            exact ⟨used', at', pile', pv', ⟨rfl, rfl, rfl, rfl⟩, i1, i2, i3⟩
          · exact ⟨rfl, HST.out _ _ HQ.out⟩
          · exact HQ.out.no.elim
        · have hc := HC.out
          rw [show kindF 12 = 114 by decide] at hc
          have HCC := Fact.mk hc
          clear hc HC
          go_wp2_with (go_at_call 114; go_must (refine HCC.out.mono ?_); intro e w3 hq; have HQ := Fact.mk hq; clear hq)
          · go_step3
            refine ⟨rfl, hJ.out _ _ ?_⟩
            obtain ⟨used', at', pile', pv', i1, i2, i3⟩ := HNX.out _ _ HQ.out
            exact ⟨used', at', pile', pv', ⟨rfl, rfl, rfl, rfl⟩, i1, i2, i3⟩
          · exact ⟨rfl, HST.out _ _ HQ.out⟩
          · exact HQ.out.no.elim
        · have hc := HC.out
          rw [show kindF 13 = 115 by decide] at hc
          have HCC := Fact.mk hc
          clear hc HC
          go_wp2_with (go_at_call 115; go_must (refine HCC.out.mono ?_); intro e w3 hq; have HQ := Fact.mk hq; clear hq)
          · go_step3
            refine ⟨rfl, hJ.out _ _ ?_⟩
            obtain ⟨used', at', pile', pv', i1, i2, i3⟩ := HNX.out _ _ HQ.out
            exact ⟨used', at', pile', pv', ⟨rfl, rfl, rfl, rfl⟩, i1, i2, i3⟩
          · exact ⟨rfl, HST.out _ _ HQ.out⟩
          · exact HQ.out.no.elim
        · have hc := HC.out
          rw [show kindF 14 = 115 by decide] at hc
          have HCC := Fact.mk hc
          clear hc HC
          go_wp2_with (go_at_call 115; go_must (refine HCC.out.mono ?_); intro e w3 hq; have HQ := Fact.mk hq; clear hq)
          · go_step3
            refine ⟨rfl, hJ.out _ _ ?_⟩
            obtain ⟨used', at', pile', pv', i1, i2, i3⟩ := HNX.out _ _ HQ.out
            exact ⟨used', at', pile', pv', ⟨rfl, rfl, rfl, rfl⟩, i1, i2, i3⟩
          · exact ⟨rfl, HST.out _ _ HQ.out⟩
          · exact HQ.out.no.elim
        · have hc := HC.out
          rw [show kindF 15 = 115 by decide] at hc
          have HCC := Fact.mk hc
          clear hc HC
          go_wp2_with (go_at_call 115; go_must (refine HCC.out.mono ?_); intro e w3 hq; have HQ := Fact.mk hq; clear hq)
          · go_step3
            refine ⟨rfl, hJ.out _ _ ?_⟩
            obtain ⟨used', at', pile', pv', i1, i2, i3⟩ := HNX.out _ _ HQ.out
            exact ⟨used', at', pile', pv', ⟨rfl, rfl, rfl, rfl⟩, i1, i2, i3⟩
          · exact ⟨rfl, HST.out _ _ HQ.out⟩
          · exact HQ.out.no.elim
        · have hc := HC.out
          rw [show kindF 16 = 115 by decide] at hc
          have HCC := Fact.mk hc
          clear hc HC
          go_wp2_with (go_at_call 115; go_must (refine HCC.out.mono ?_); intro e w3 hq; have HQ := Fact.mk hq; clear hq)
          · go_step3
            refine ⟨rfl, hJ.out _ _ ?_⟩
            obtain ⟨used', at', pile', pv', i1, i2, i3⟩ := HNX.out _ _ HQ.out
            exact ⟨used', at', pile', pv', ⟨rfl, rfl, rfl, rfl⟩, i1, i2, i3⟩
          · exact ⟨rfl, HST.out _ _ HQ.out⟩
          · exact HQ.out.no.elim
        · have hc := HC.out
          rw [show kindF 17 = 114 by decide] at hc
          have HCC := Fact.mk hc
          clear hc HC
          go_wp2_with (go_at_call 114; go_must (refine HCC.out.mono ?_); intro e w3 hq; have HQ := Fact.mk hq; clear hq)
          · go_step3
            refine ⟨rfl, hJ.out _ _ ?_⟩
            obtain ⟨used', at', pile', pv', i1, i2, i3⟩ := HNX.out _ _ HQ.out
            exact ⟨used', at', pile', pv', ⟨rfl, rfl, rfl, rfl⟩, i1, i2, i3⟩
          · exact ⟨rfl, HST.out _ _ HQ.out⟩
          · exact HQ.out.no.elim
        · have hc := HC.out
          rw [show kindF 18 = 114 by decide] at hc
          have HCC := Fact.mk hc
          clear hc HC
          go_wp2_with (go_at_call 114; go_must (refine HCC.out.mono ?_); intro e w3 hq; have HQ := Fact.mk hq; clear hq)
          · go_step3
            refine ⟨rfl, hJ.out _ _ ?_⟩
            obtain ⟨used', at', pile', pv', i1, i2, i3⟩ := HNX.out _ _ HQ.out
            exact ⟨used', at', pile', pv', ⟨rfl, rfl, rfl, rfl⟩, i1, i2, i3⟩
          · exact ⟨rfl, HST.out _ _ HQ.out⟩
          · exact HQ.out.no.elim
        · have hc := HC.out
          rw [show kindF 19 = 115 by decide] at hc
          have HCC := Fact.mk hc
          clear hc HC
          go_wp2_with (go_at_call 115; go_must (refine HCC.out.mono ?_); intro e w3 hq; have HQ := Fact.mk hq; clear hq)
          · go_step3
            refine ⟨rfl, hJ.out _ _ ?_⟩
            obtain ⟨used', at', pile', pv', i1, i2, i3⟩ := HNX.out _ _ HQ.out
            exact ⟨used', at', pile', pv', ⟨rfl, rfl, rfl, rfl⟩, i1, i2, i3⟩
          · exact ⟨rfl, HST.out _ _ HQ.out⟩
          · exact HQ.out.no.elim
        · have hc := HC.out
          rw [show kindF 20 = 114 by decide] at hc
          have HCC := Fact.mk hc
          clear hc HC
          go_wp2_with (go_at_call 114; go_must (refine HCC.out.mono ?_); intro e w3 hq; have HQ := Fact.mk hq; clear hq)
          · go_step3
            refine ⟨rfl, hJ.out _ _ ?_⟩
            obtain ⟨used', at', pile', pv', i1, i2, i3⟩ := HNX.out _ _ HQ.out
            exact ⟨used', at', pile', pv', ⟨rfl, rfl, rfl, rfl⟩, i1, i2, i3⟩
          · exact ⟨rfl, HST.out _ _ HQ.out⟩
          · exact HQ.out.no.elim
      · go_wp2_with (go_at_call 112; go_must (refine (spend112_out _ p used fuel 1 (at_ + 1) _ _ rs HX.out (Small.of (by have := HP.out.2.2.2.1; have := HIB.out.st.used_; omega)) (by omega)).mono ?_); rintro e w1 ⟨he, h1, hk⟩; unfold outOfFuel at he; subst he; have H1 := Fact.mk h1; have K1 := Fact.mk (KX.out.trans hk); clear h1 hk)
        exact ⟨rfl, HIB.out.spent (by have := HNE.out; have := HP.out.2.2.2.2.2.2.2.2.1; omega) K1.out hfu HEM.out H1.out⟩
end Go.Proofs.YtddmbdigdnmfgaaGreatDoor
