/- The plain operations: where they go on, what turns with the place, with the number of operations, with the inputs. -/
import Derived.Test.YtddmbdigdnmfgaaGreatDoorQGHad
import Derived.Test.YtddmbdigdnmfgaaGreatDoorQWords
namespace Go.Proofs.YtddmbdigdnmfgaaGreatDoor
set_option maxHeartbeats 1000000

abbrev OpV := Option (List PNode × Nat × Nat)
/-- What goes on at another place. -/
def toAt (b : Nat) (r : OpV) : OpV := r.map fun q => (q.1, q.2.1, b)
theorem putR_at (pile ys : List PNode) (a b : Nat) : putR pile ys b = toAt b (putR pile ys a) := by
  unfold putR toAt
  split <;> rfl
theorem orR_at (pile : List PNode) (o : Option PNode) (a b : Nat) : orR pile o b = toAt b (orR pile o a) := by
  cases o with
  | none => rfl
  | some y => exact putR_at _ _ _ _
theorem placeR_at (k : Int) (pile : List PNode) (t : ByteArray) (a b : Nat) : placeR k pile t b = toAt b (placeR k pile t a) := by
  unfold placeR
  split
  · split
    · exact orR_at _ _ _ _
    · rfl
  · split
    · exact orR_at _ _ _ _
    · rfl
theorem shiftR_at (k : Int) (pile : List PNode) (a b : Nat) : shiftR k pile b = toAt b (shiftR k pile a) := by
  unfold shiftR
  split
  · rfl
  · split
    · exact putR_at _ _ _ _
    · split
      · rfl
      · split
        · rfl
        · exact putR_at _ _ _ _
theorem sameR_at (pile : List PNode) (a b : Nat) : sameR pile b = toAt b (sameR pile a) := by
  unfold sameR
  split
  · exact putR_at _ _ _ _
  · rfl
theorem waysR_at (pile : List PNode) (a b : Nat) : waysR pile b = toAt b (waysR pile a) := by
  unfold waysR
  split
  · exact putR_at _ _ _ _
  · rfl
theorem own2R_at (pile : List PNode) (a b : Nat) : own2R pile b = toAt b (own2R pile a) := by
  unfold own2R
  split
  · rfl
  · split
    · exact putR_at _ _ _ _
    · rfl
theorem namedR_at (pile : List PNode) (bs : List UInt8) (nm : ByteArray) (a b : Nat) : namedR pile bs nm b = toAt b (namedR pile bs nm a) := by
  unfold namedR
  split
  · exact putR_at _ _ _ _
  · rfl
theorem in8R_at (f : ByteArray → Option PIn) (pile : List PNode) (s : ByteArray) (a b : Nat) : in8R f pile s b = toAt b (in8R f pile s a) := by
  unfold in8R
  split
  · exact putR_at _ _ _ _
  · rfl
theorem in9R_at (f : ByteArray → Option PIn) (pile : List PNode) (s : ByteArray) (a b : Nat) : in9R f pile s b = toAt b (in9R f pile s a) := by
  unfold in9R
  split
  · exact namedR_at _ _ _ _ _
  · rfl
/-- A word operation fails, or does what it does to the pile's rest and its top. -/
theorem wordR_eq (pile : List PNode) : (∀ g, wordR g pile = none) ∨ ∃ r x, ∀ g, wordR g pile = g r x := by
  unfold wordR
  cases pile.reverse with
  | nil => exact .inl fun _ => rfl
  | cons x r =>
    simp only
    by_cases h : x.kind = 1
    · exact .inr ⟨r.reverse, x, fun g => if_pos h⟩
    · exact .inl fun g => if_neg h
theorem wordR_to {pile : List PNode} {g g' : List PNode → PNode → OpV} {b : Nat} (hg : ∀ r x, g' r x = toAt b (g r x)) : wordR g' pile = toAt b (wordR g pile) := by
  rcases wordR_eq pile with h | ⟨r, x, h⟩
  · rw [h, h]; rfl
  · rw [h, h]; exact hg r x
def jumps (k : Int) : Prop := k = 17 ∨ k = 18
/-- What does not jump goes on at the next place, whatever it is. -/
theorem opR_at (f : ByteArray → Option PIn) (sbs : List UInt8) (snm : ByteArray) (n m : Nat) (o : POp) (hk : ¬ jumps o.kind) (pile : List PNode) (a b : Nat) : opR f sbs snm m o pile b = toAt b (opR f sbs snm n o pile a) := by
  have h17 : o.kind ≠ 17 := fun h => hk (.inl h)
  have h18 : o.kind ≠ 18 := fun h => hk (.inr h)
  unfold opR
  by_cases h : o.kind = 1
  · rw [if_pos h, if_pos h]
    exact putR_at _ _ _ _
  rw [if_neg h, if_neg h]
  clear h
  by_cases h : o.kind = 2
  · rw [if_pos h, if_pos h]
    exact own2R_at _ _ _
  rw [if_neg h, if_neg h]
  clear h
  by_cases h : o.kind = 3
  · rw [if_pos h, if_pos h]
    exact putR_at _ _ _ _
  rw [if_neg h, if_neg h]
  clear h
  by_cases h : o.kind = 4
  · rw [if_pos h, if_pos h]
    exact putR_at _ _ _ _
  rw [if_neg h, if_neg h]
  clear h
  by_cases h : o.kind = 5
  · rw [if_pos h, if_pos h]
    exact placeR_at _ _ _ _ _
  rw [if_neg h, if_neg h]
  clear h
  by_cases h : o.kind = 6
  · rw [if_pos h, if_pos h]
    exact placeR_at _ _ _ _ _
  rw [if_neg h, if_neg h]
  clear h
  by_cases h : o.kind = 7
  · rw [if_pos h, if_pos h]
    exact placeR_at _ _ _ _ _
  rw [if_neg h, if_neg h]
  clear h
  by_cases h : o.kind = 8
  · rw [if_pos h, if_pos h]
    exact in8R_at _ _ _ _ _
  rw [if_neg h, if_neg h]
  clear h
  by_cases h : o.kind = 9
  · rw [if_pos h, if_pos h]
    exact in9R_at _ _ _ _ _
  rw [if_neg h, if_neg h]
  clear h
  by_cases h : o.kind = 10
  · rw [if_pos h, if_pos h]
    exact namedR_at _ _ _ _ _
  rw [if_neg h, if_neg h]
  clear h
  by_cases h : o.kind = 11
  · rw [if_pos h, if_pos h]
    refine wordR_to fun r x => ?_
    split
    · rfl
    · split
      · exact putR_at _ _ _ _
      · rfl
  rw [if_neg h, if_neg h]
  clear h
  by_cases h : o.kind = 12
  · rw [if_pos h, if_pos h]
    exact wordR_to fun r x => putR_at _ _ _ _
  rw [if_neg h, if_neg h]
  clear h
  by_cases h : o.kind = 13
  · rw [if_pos h, if_pos h]
    exact shiftR_at _ _ _ _
  rw [if_neg h, if_neg h]
  clear h
  by_cases h : o.kind = 14
  · rw [if_pos h, if_pos h]
    exact shiftR_at _ _ _ _
  rw [if_neg h, if_neg h]
  clear h
  by_cases h : o.kind = 15
  · rw [if_pos h, if_pos h]
    exact shiftR_at _ _ _ _
  rw [if_neg h, if_neg h]
  clear h
  by_cases h : o.kind = 16
  · rw [if_pos h, if_pos h]
    exact sameR_at _ _ _
  rw [if_neg h, if_neg h]
  clear h
  rw [if_neg h17, if_neg h17, if_neg h18, if_neg h18]
  by_cases h : o.kind = 19
  · rw [if_pos h, if_pos h]
    exact waysR_at _ _ _
  rw [if_neg h, if_neg h]
  exact wordR_to fun r x => putR_at _ _ _ _
theorem opR_17 (f : ByteArray → Option PIn) (sbs : List UInt8) (snm : ByteArray) (n : Nat) (o : POp) (hk : o.kind = 17) (pile : List PNode) (a : Nat) : opR f sbs snm n o pile a = wordR (fun r x => if x.bytes.length = 0 then jumpR r ((a : Int) + o.n.toNat) n else some (r, 0, a)) pile := by
  simp [opR, hk]
theorem opR_18 (f : ByteArray → Option PIn) (sbs : List UInt8) (snm : ByteArray) (n : Nat) (o : POp) (hk : o.kind = 18) (pile : List PNode) (a : Nat) : opR f sbs snm n o pile a = wordR (fun r x => if 0 < x.bytes.length then jumpR r ((a : Int) - 1 - o.n.toNat) n else some (r, 0, a)) pile := by
  simp [opR, hk]
theorem toAt_some {b : Nat} {r : OpV} {q : List PNode × Nat × Nat} (h : toAt b r = some q) : q.2.2 = b := by
  cases r with
  | none => cases h
  | some p => cases h; rfl
theorem jumpR_some {r : List PNode} {x : Int} {n : Nat} {q : List PNode × Nat × Nat} (h : jumpR r x n = some q) : 0 ≤ x ∧ x ≤ n ∧ q = (r, 0, x.toNat) := by
  unfold jumpR at h
  split at h
  · rename_i hx; cases h; exact ⟨hx.1, hx.2, rfl⟩
  · cases h
/-- It goes on at no place past the last one. -/
theorem opR_to {f : ByteArray → Option PIn} {sbs : List UInt8} {snm : ByteArray} {n : Nat} {o : POp} {pile : List PNode} {a : Nat} {q : List PNode × Nat × Nat} (ha : a ≤ n) (h : opR f sbs snm n o pile a = some q) : q.2.2 ≤ n := by
  by_cases h17 : o.kind = 17
  · rw [opR_17 _ _ _ _ _ h17] at h
    rcases wordR_eq pile with hw | ⟨r, x, hw⟩
    · rw [hw] at h; cases h
    · rw [hw] at h
      split at h
      · obtain ⟨h1, h2, rfl⟩ := jumpR_some h
        simp only; omega
      · cases h; exact ha
  by_cases h18 : o.kind = 18
  · rw [opR_18 _ _ _ _ _ h18] at h
    rcases wordR_eq pile with hw | ⟨r, x, hw⟩
    · rw [hw] at h; cases h
    · rw [hw] at h
      split at h
      · obtain ⟨h1, h2, rfl⟩ := jumpR_some h
        simp only; omega
      · cases h; exact ha
  · have hj : ¬ jumps o.kind := fun hj => hj.elim h17 h18
    rw [opR_at f sbs snm n n o hj pile a a] at h
    rw [toAt_some h]
    exact ha
/-- Ahead of other operations it does what it did. -/
theorem opR_ahead {f : ByteArray → Option PIn} {sbs : List UInt8} {snm : ByteArray} {m n : Nat} {o : POp} {pile : List PNode} {a : Nat} {q : List PNode × Nat × Nat} (hmn : m ≤ n) (h : opR f sbs snm m o pile a = some q) : opR f sbs snm n o pile a = some q := by
  by_cases h17 : o.kind = 17
  · rw [opR_17 _ _ _ _ _ h17] at h ⊢
    rcases wordR_eq pile with hw | ⟨r, x, hw⟩
    · rw [hw] at h; cases h
    · rw [hw] at h ⊢
      split at h
      · rename_i hx
        obtain ⟨h1, h2, rfl⟩ := jumpR_some h
        rw [if_pos hx, jumpR, if_pos ⟨h1, by omega⟩]
      · rename_i hx
        rw [if_neg hx]
        exact h
  by_cases h18 : o.kind = 18
  · rw [opR_18 _ _ _ _ _ h18] at h ⊢
    rcases wordR_eq pile with hw | ⟨r, x, hw⟩
    · rw [hw] at h; cases h
    · rw [hw] at h ⊢
      split at h
      · rename_i hx
        obtain ⟨h1, h2, rfl⟩ := jumpR_some h
        rw [if_pos hx, jumpR, if_pos ⟨h1, by omega⟩]
      · rename_i hx
        rw [if_neg hx]
        exact h
  · have hj : ¬ jumps o.kind := fun hj => hj.elim h17 h18
    rw [opR_at f sbs snm m n o hj pile a a, h]
    have := opR_at f sbs snm m m o hj pile a a
    rw [h] at this
    exact this.symm
/-- Behind other operations, unless it goes back, it does what it did, so much further on. -/
theorem opR_shift {f : ByteArray → Option PIn} {sbs : List UInt8} {snm : ByteArray} {d n : Nat} {o : POp} {pile : List PNode} {a : Nat} (hb : o.kind ≠ 18) : opR f sbs snm (d + n) o pile (d + a) = (opR f sbs snm n o pile a).map fun (p, c, j) => (p, c, d + j) := by
  by_cases h17 : o.kind = 17
  · rw [opR_17 _ _ _ _ _ h17, opR_17 _ _ _ _ _ h17]
    rcases wordR_eq pile with hw | ⟨r, x, hw⟩
    · rw [hw, hw]; rfl
    · rw [hw, hw]
      split
      · unfold jumpR
        by_cases hx : 0 ≤ (a : Int) + o.n.toNat ∧ (a : Int) + o.n.toNat ≤ n
        · rw [if_pos hx, if_pos ⟨by omega, by omega⟩]
          simp only [Option.map_some, Option.some.injEq, Prod.mk.injEq, true_and]
          omega
        · rw [if_neg hx, if_neg (by omega)]
          rfl
      · rfl
  · have hj : ¬ jumps o.kind := fun hj => hj.elim h17 hb
    rw [opR_at f sbs snm n (d + n) o hj pile a (d + a)]
    have := opR_at f sbs snm n n o hj pile a a
    cases hr : opR f sbs snm n o pile a with
    | none => rfl
    | some q =>
      rw [hr] at this
      have hq := toAt_some this.symm
      obtain ⟨p, c, j⟩ := q
      simp only at hq
      subst hq
      rfl
/-- It asks for the input of its own text alone. -/
theorem opR_in {f g : ByteArray → Option PIn} (sbs : List UInt8) (snm : ByteArray) (n : Nat) (o : POp) (pile : List PNode) (a : Nat) (h : o.kind = 8 ∨ o.kind = 9 → f ⟨o.text.toArray⟩ = g ⟨o.text.toArray⟩) : opR f sbs snm n o pile a = opR g sbs snm n o pile a := by
  unfold opR
  by_cases h8 : o.kind = 8
  · simp only [h8]
    simp [in8R, h (.inl h8)]
  by_cases h9 : o.kind = 9
  · simp only [h9]
    simp [in9R, h (.inr h9)]
  · simp only [h8, h9, if_false]
theorem opF_to {f : ByteArray → Option PIn} {sbs : List UInt8} {snm : ByteArray} {ops : List POp} {i : Nat} {pile : List PNode} {q : List PNode × Nat × Nat} (h : opF f sbs snm ops i pile = some q) : i < ops.length ∧ q.2.2 ≤ ops.length := by
  unfold opF at h
  split at h
  · rename_i o ho
    have hi := (List.getElem?_eq_some_iff.1 ho).1
    exact ⟨hi, opR_to (by omega) h⟩
  · cases h
theorem opF_in {f g : ByteArray → Option PIn} (sbs : List UInt8) (snm : ByteArray) (ops : List POp) (h : ∀ o ∈ ops, o.kind = 8 ∨ o.kind = 9 → f ⟨o.text.toArray⟩ = g ⟨o.text.toArray⟩) : opF f sbs snm ops = opF g sbs snm ops := by
  funext i pile
  unfold opF
  split
  · rename_i o ho
    exact opR_in _ _ _ _ _ _ (h o (List.mem_of_getElem? ho))
  · rfl
/-- A run behind one that leaves one tree. -/
theorem run_behind {f : ByteArray → Option PIn} {sbs : List UInt8} {snm : ByteArray} {oa ob : List POp} {F t : Nat} {x : PNode} (drop : POp) (hd : drop.kind = 14) (hb : ∀ o ∈ ob, o.kind ≠ 18) (h : buildP f sbs snm oa F = (x, t, 0)) :
    buildP f sbs snm (oa ++ [drop] ++ ob) (F + t + 1) = ((buildP f sbs snm ob F).1, (buildP f sbs snm ob F).2.1 + t + 1, (buildP f sbs snm ob F).2.2) := by
  have hr : runF oa.length (opF f sbs snm oa) F = .ok x t := by
    unfold buildP runV at h
    split at h
    · rename_i y s hy
      rw [hy]
      simp only [Prod.mk.injEq] at h
      obtain ⟨rfl, rfl, -⟩ := h
      rfl
    · simp at h
    · simp at h
  have ht : t ≤ F := by
    have := runF_le (f := opF f sbs snm oa) (len := oa.length) (F := F) (by rw [hr]; simp)
    rw [hr] at this
    exact this
  have hl : (oa ++ [drop] ++ ob).length = oa.length + 1 + ob.length := by simp; omega
  have key := runF_behind (f := opF f sbs snm (oa ++ [drop] ++ ob)) (g := opF f sbs snm ob) (h := opF f sbs snm oa) (m := oa.length) (n := ob.length) (F := F) (a := t) hl (x := x)
    (fun i pile p c j hi hg => by
      have hto := opF_to hg
      refine ⟨?_, hto.2⟩
      unfold opF at hg ⊢
      rw [List.append_assoc, List.getElem?_append_left hi]
      split at hg
      · exact opR_ahead (by simp) hg
      · cases hg)
    (by
      unfold opF
      rw [List.append_assoc, List.getElem?_append_right (Nat.le_refl _)]
      simp [opR, hd, shiftR])
    (fun i pile hi => by
      unfold opF
      rw [List.getElem?_append_right (by simp)]
      simp only [List.length_append, List.length_cons, List.length_nil, Nat.zero_add, Nat.add_sub_cancel_left]
      rw [List.getElem?_eq_getElem hi]
      have := opR_shift (f := f) (sbs := sbs) (snm := snm) (d := oa.length + 1) (n := ob.length) (o := ob[i]) (pile := pile) (a := i + 1) (hb _ (List.getElem_mem hi))
      simpa [Nat.add_assoc] using this)
    (fun i pile p c j hi hg => (opF_to hg).2) hr ht
  unfold buildP
  rw [key]
  cases hb' : runF ob.length (opF f sbs snm ob) F with
  | ok y s => simp [runV, Nat.add_assoc]
  | fail s => simp [runV, Nat.add_assoc]
  | out => simp [runV]
end Go.Proofs.YtddmbdigdnmfgaaGreatDoor

/- recipe.Run, plain, with its early ends; what RecipeFuel, RecipePure say of it. -/
namespace Go.Proofs.YtddmbdigdnmfgaaGreatDoor
set_option maxHeartbeats 1000000

def zeroP : PNode := .mk 0 [] []
/-- What Run tells: a tree, its steps, an error's number. -/
noncomputable def runP (b : List UInt8) (sbs : List UInt8) (snm : ByteArray) (l : List PInN) (F : Nat) : PNode × Nat × Int := match getOps b with
  | .bad x => (zeroP, 0, x)
  | .ok ops => if (hadP ⟨#[]⟩ l && nameP snm) = true then buildP (findIn l) sbs snm ops F else (zeroP, 0, 2)
/-- All that RecipeFuel asks. -/
theorem runP_fuel (b : List UInt8) (sbs : List UInt8) (snm : ByteArray) (l : List PInN) {F F' : Nat} (hl : F ≤ F') :
    ((runP b sbs snm l F).2.2 = 11 → (runP b sbs snm l F).2.1 = F ∧ F ≤ (runP b sbs snm l F').2.1 ∧ (runP b sbs snm l F).1.kind = 0) ∧
    ((runP b sbs snm l F).2.2 ≠ 11 → runP b sbs snm l F' = runP b sbs snm l F ∧ (runP b sbs snm l F).2.1 ≤ F ∧ runP b sbs snm l (runP b sbs snm l F).2.1 = runP b sbs snm l F ∧
      ∀ F2, F2 < (runP b sbs snm l F).2.1 → (runP b sbs snm l F2).2.2 = 11) ∧
    ((runP b sbs snm l F).2.2 ≠ 0 → (runP b sbs snm l F).1.kind = 0) := by
  unfold runP
  cases hg : getOps b with
  | bad x =>
    have hx := getOps_bad hg
    refine ⟨fun h => ?_, fun _ => ⟨rfl, Nat.zero_le _, rfl, fun F2 h => absurd h (Nat.not_lt_zero _)⟩, fun _ => rfl⟩
    simp only at h
    omega
  | ok ops =>
    simp only
    by_cases hh : (hadP ⟨#[]⟩ l && nameP snm) = true
    · simp only [if_pos hh]
      exact ⟨fun h => fuel_out _ _ _ _ h hl, fun h => fuel_in _ _ _ _ h hl, fun h => fuel_err _ _ _ _ h⟩
    · simp only [if_neg hh]
      refine ⟨fun h => by simp at h, fun _ => ⟨trivial, Nat.zero_le _, trivial, fun F2 h => absurd h (Nat.not_lt_zero _)⟩, fun _ => rfl⟩
/-! ### Fewer inputs -/
theorem less_asymm {a b : List UInt8} (h : Op.bytesLess a b = true) : Op.bytesLess b a = false := by
  cases hb : Op.bytesLess b a with
  | false => rfl
  | true => have := less_trans _ _ _ h hb; rw [less_irrefl] at this; cases this
theorem leqS_of {a b : ByteArray} (h : Op.bytesLess b.toList a.toList = true) : leqS a b = false := by
  unfold leqS
  rw [less_asymm h, Bool.false_or]
  cases he : a.toList == b.toList with
  | false => rfl
  | true => rw [beq_iff_eq] at he; rw [he, less_irrefl] at h; cases h
theorem hadP_low {a b : ByteArray} (hab : Op.bytesLess a.toList b.toList = true) : ∀ {l : List PInN}, hadP b l = true → hadP a l = true
  | [], _ => rfl
  | i :: r, h => by
    simp only [hadP, Bool.and_eq_true, Bool.not_eq_true'] at h ⊢
    obtain ⟨⟨⟨⟨h1, h2⟩, h3⟩, h4⟩, h5⟩ := h
    exact ⟨⟨⟨⟨h1, leqS_of (less_trans _ _ _ hab (leqS_no h2))⟩, h3⟩, h4⟩, h5⟩
theorem hadP_filter (P : PInN → Bool) : ∀ {l : List PInN} {a : ByteArray}, hadP a l = true → hadP a (l.filter P) = true
  | [], _, _ => rfl
  | i :: r, a, h => by
    simp only [hadP, Bool.and_eq_true, Bool.not_eq_true'] at h
    obtain ⟨⟨⟨⟨h1, h2⟩, h3⟩, h4⟩, h5⟩ := h
    have ih := hadP_filter P h5
    rw [List.filter_cons]
    split
    · simp only [hadP, Bool.and_eq_true, Bool.not_eq_true']
      exact ⟨⟨⟨⟨h1, h2⟩, h3⟩, h4⟩, ih⟩
    · exact hadP_low (leqS_no h2) ih
theorem findIn_filter (P : PInN → Bool) (l : List PInN) (s : ByteArray) (h : ∀ i ∈ l, (s == i.name) = true → P i = true) : findIn (l.filter P) s = findIn l s := by
  unfold findIn
  congr 1
  induction l with
  | nil => rfl
  | cons i r ih =>
    have ih' := ih fun j hj => h j (List.mem_cons_of_mem _ hj)
    rw [List.filter_cons]
    split
    · rw [List.find?_cons, List.find?_cons, ih']
    · rename_i hp
      rw [List.find?_cons, ih']
      split
      · rename_i hs
        exact absurd (h i List.mem_cons_self hs) hp
      · rfl
/-- Is an input named by an operation? -/
def namedIn (ops : List POp) (i : PInN) : Bool := ops.any fun o => (decide (o.kind = 8) || decide (o.kind = 9)) && ((⟨o.text.toArray⟩ : ByteArray) == i.name)
/-- Inputs that no operation names change nothing. -/
theorem runP_fewer {b : List UInt8} {ops : List POp} (sbs : List UInt8) (snm : ByteArray) {l : List PInN} (F : Nat) (hg : getOps b = .ok ops) (hh : (hadP ⟨#[]⟩ l && nameP snm) = true) : runP b sbs snm (l.filter (namedIn ops)) F = runP b sbs snm l F := by
  unfold runP
  rw [hg]
  simp only
  have hh' := hh
  rw [Bool.and_eq_true] at hh'
  rw [if_pos hh, if_pos (by rw [hadP_filter _ hh'.1, hh'.2]; rfl)]
  unfold buildP
  rw [opF_in (f := findIn (l.filter (namedIn ops))) (g := findIn l) sbs snm ops fun o ho hk => findIn_filter _ _ _ fun i hi hs => ?_]
  unfold namedIn
  rw [List.any_eq_true]
  refine ⟨o, ho, ?_⟩
  rw [Bool.and_eq_true]
  refine ⟨?_, hs⟩
  rcases hk with hk | hk <;> simp [hk]
/-- Not ErrArg: the inputs may be. -/
theorem runP_had {b : List UInt8} {ops : List POp} {sbs : List UInt8} {snm : ByteArray} {l : List PInN} {F : Nat} (hg : getOps b = .ok ops) (h : (runP b sbs snm l F).2.2 ≠ 2) : (hadP ⟨#[]⟩ l && nameP snm) = true := by
  unfold runP at h
  rw [hg] at h
  simp only at h
  split at h
  · assumption
  · exact absurd rfl h
/-- The operations of bytes in a row. -/
theorem getOps_append {a b : List UInt8} {oa ob : List POp} (drop : POp) (hr : opRight drop = true) (ha : getOps a = .ok oa) (hb : getOps b = .ok ob) (hl : (a ++ opBytes drop ++ b).length ≤ 1000) : getOps (a ++ opBytes drop ++ b) = .ok (oa ++ [drop] ++ ob) := by
  obtain ⟨h1, -, h3⟩ := putOps_ok.1 (putOps_get ha)
  obtain ⟨g1, -, g3⟩ := putOps_ok.1 (putOps_get hb)
  have e : opsBytes (oa ++ [drop] ++ ob) = a ++ opBytes drop ++ b := by
    rw [opsBytes_append, opsBytes_append, ← h3, ← g3]
    simp [opsBytes]
  refine getOps_put (putOps_ok.2 ⟨by simp [h1, g1, hr], by rw [e]; exact hl, e.symm⟩)
/-- What stands ahead, and leaves one tree, which is taken away, changes nothing but the steps. -/
theorem runP_behind {a b : List UInt8} {sbs : List UInt8} {snm : ByteArray} {l : List PInN} {F : Nat} {ob : List POp} (hb : getOps b = .ok ob) (hh : (hadP ⟨#[]⟩ l && nameP snm) = true) (h0 : (runP a sbs snm l F).2.2 = 0) (h18 : ∀ o ∈ ob, o.kind ≠ 18) (hl : a.length + b.length ≤ 900) :
    runP (a ++ [14] ++ b) sbs snm l (F + (runP a sbs snm l F).2.1 + 1) = ((runP b sbs snm l F).1, (runP b sbs snm l F).2.1 + (runP a sbs snm l F).2.1 + 1, (runP b sbs snm l F).2.2) := by
  cases ha : getOps a with
  | bad x =>
    have hx := getOps_bad ha
    unfold runP at h0
    rw [ha] at h0
    simp only at h0
    omega
  | ok oa =>
    have e14 : opBytes ⟨14, 0, 0, []⟩ = [14] := by
      simp [opBytes, hasText, numbersOf, numsBytes, numBytes_small]
    have hall := getOps_append ⟨14, 0, 0, []⟩ (by decide) ha hb (by rw [e14]; simp only [List.length_append, List.length_cons, List.length_nil]; omega)
    rw [e14] at hall
    have ra : ∀ G, runP a sbs snm l G = buildP (findIn l) sbs snm oa G := fun G => by unfold runP; rw [ha]; simp only; rw [if_pos hh]
    have rb : ∀ G, runP b sbs snm l G = buildP (findIn l) sbs snm ob G := fun G => by unfold runP; rw [hb]; simp only; rw [if_pos hh]
    have rc : ∀ G, runP (a ++ [14] ++ b) sbs snm l G = buildP (findIn l) sbs snm (oa ++ [⟨14, 0, 0, []⟩] ++ ob) G := fun G => by unfold runP; rw [hall]; simp only; rw [if_pos hh]
    rw [ra] at h0 ⊢
    rw [rb, rc]
    refine run_behind (x := (buildP (findIn l) sbs snm oa F).1) ⟨14, 0, 0, []⟩ rfl h18 ?_
    rw [← h0]
end Go.Proofs.YtddmbdigdnmfgaaGreatDoor
