import Derived.Test.YtddmbdigdnmfgaaGreatDoorOps
namespace Go.Proofs.YtddmbdigdnmfgaaGreatDoor
open Go.RowKit
set_option maxHeartbeats 400000
set_option maxRecDepth 100000

/-! ### Rows of structs -/
/-- The cells are those of the list's elements, one behind the other. -/
def Reps {α : Type} (R : α → List Value → Prop) : List α → List Value → Prop
  | [], cs => cs = []
  | x :: r, cs => ∃ c d, cs = c ++ d ∧ R x c ∧ Reps R r d
section
variable {α : Type} {R R' : α → List Value → Prop}
theorem Reps.mono : ∀ {l : List α} {cs : List Value}, Reps R l cs → (∀ x c, x ∈ l → R x c → R' x c) → Reps R' l cs
  | [], _, h, _ => h
  | _ :: _, _, ⟨c, d, e, hx, hr⟩, hi => ⟨c, d, e, hi _ _ (List.mem_cons_self ..) hx, Reps.mono hr fun x c hm => hi x c (List.mem_cons_of_mem _ hm)⟩
theorem Reps.len {sz : Nat} (hsz : ∀ x c, R x c → c.length = sz) : ∀ {l : List α} {cs : List Value}, Reps R l cs → cs.length = l.length * sz
  | [], _, h => by rw [h]; simp
  | _ :: l, _, ⟨c, d, e, hx, hr⟩ => by
    rw [e, List.length_append, hsz _ _ hx, Reps.len hsz hr, List.length_cons, Nat.succ_mul]; omega
theorem Reps.get {sz : Nat} (hsz : ∀ x c, R x c → c.length = sz) : ∀ {l : List α} {cs : List Value}, Reps R l cs → ∀ k (hk : k < l.length), ∃ c, R l[k] c ∧ ∀ j v, c[j]? = some v → cs[k * sz + j]? = some v
  | _ :: l, _, ⟨c, d, e, hx, hr⟩, 0, _ => ⟨c, hx, fun j v hj => by
      rw [e, Nat.zero_mul, Nat.zero_add, List.getElem?_append_left (List.getElem?_eq_some_iff.1 hj).1]; exact hj⟩
  | _ :: l, _, ⟨c, d, e, hx, hr⟩, k + 1, hk => by
      obtain ⟨c', h1, h2⟩ := Reps.get hsz hr k (by simpa using hk)
      refine ⟨c', h1, fun j v hj => ?_⟩
      rw [e, List.getElem?_append_right (by rw [hsz _ _ hx, Nat.succ_mul]; omega), hsz _ _ hx]
      rw [show (k + 1) * sz + j - sz = k * sz + j from by rw [Nat.succ_mul]; omega]
      exact h2 j v hj
theorem Reps.append : ∀ {l l' : List α} {cs cs' : List Value}, Reps R l cs → Reps R l' cs' → Reps R (l ++ l') (cs ++ cs')
  | [], _, _, _, h, h' => by rw [h]; exact h'
  | _ :: _, _, _, _, ⟨c, d, e, hx, hr⟩, h' => ⟨c, d ++ _, by rw [e, List.append_assoc], hx, Reps.append hr h'⟩
theorem Reps.one {x : α} {c : List Value} (h : R x c) : Reps R [x] c := ⟨c, [], by simp, h, rfl⟩
theorem Reps.drop {sz : Nat} (hsz : ∀ x c, R x c → c.length = sz) : ∀ {l : List α} {cs : List Value}, Reps R l cs → ∀ k, Reps R (l.drop k) (cs.drop (k * sz))
  | _, _, h, 0 => by simpa using h
  | [], _, h, k + 1 => by rw [h]; simp [Reps]
  | _ :: l, _, ⟨c, d, e, hx, hr⟩, k + 1 => by
    have := Reps.drop hsz hr k
    rw [e, List.drop_succ_cons, Nat.succ_mul, Nat.add_comm, ← List.drop_drop, List.drop_left' (hsz _ _ hx)]
    exact this
theorem Reps.take {sz : Nat} (hsz : ∀ x c, R x c → c.length = sz) : ∀ {l : List α} {cs : List Value}, Reps R l cs → ∀ k, Reps R (l.take k) (cs.take (k * sz))
  | _, _, h, 0 => by simp [Reps]
  | [], _, h, k + 1 => by rw [h]; simp [Reps]
  | x :: l, _, ⟨c, d, e, hx, hr⟩, k + 1 => by
    have := Reps.take hsz hr k
    rw [List.take_succ_cons]
    refine ⟨c, d.take (k * sz), ?_, hx, this⟩
    rw [e, Nat.succ_mul, Nat.add_comm, List.take_append, hsz _ _ hx, List.take_of_length_le (by rw [hsz _ _ hx]; omega), Nat.add_sub_cancel_left]
theorem Reps.all1 (h1 : ∀ x c, R x c → ∀ u ∈ c, u.oneCell' = true) : ∀ {l : List α} {cs : List Value}, Reps R l cs → ∀ u ∈ cs, u.oneCell' = true
  | [], _, h, u, hu => by rw [h] at hu; simp at hu
  | _ :: _, _, ⟨c, d, e, hx, hr⟩, u, hu => by
    rw [e] at hu
    rcases List.mem_append.1 hu with h | h
    · exact h1 _ _ hx u h
    · exact Reps.all1 h1 hr u h
end

/-- An operation's cells. -/
def OpRep (w : World) (G : Nat → Prop) (o : POp) (c : List Value) : Prop := ∃ v, c = [.int .i64 o.kind, .int .i64 o.n, .int .i64 o.m, v] ∧ By w G v o.text
theorem OpRep.len {w : World} {G : Nat → Prop} (o : POp) (c : List Value) (h : OpRep w G o c) : c.length = 4 := by obtain ⟨v, rfl, _⟩ := h; rfl
theorem OpRep.one {w : World} {G : Nat → Prop} (o : POp) (c : List Value) (h : OpRep w G o c) : ∀ u ∈ c, u.oneCell' = true := by
  obtain ⟨v, rfl, hb⟩ := h
  obtain ⟨A, c, rfl, -⟩ := hb.open
  simp [Value.oneCell']
/-- A slice of operations. -/
def OpsR (w : World) (G : Nat → Prop) (v : Value) (l : List POp) : Prop := ∃ xs, Sl w G 4 v l.length xs ∧ Reps (OpRep w G) l xs
theorem OpsR.keep {w w' : World} {G : Nat → Prop} {v : Value} {l : List POp} (h : OpsR w G v l) (k : Keep G w w') : OpsR w' G v l := by
  obtain ⟨xs, h1, h2⟩ := h
  exact ⟨xs, h1.keep k, h2.mono fun x c _ ⟨v, e, hb⟩ => ⟨v, e, hb.keep k⟩⟩
theorem OpsR.mono {w : World} {G H : Nat → Prop} {v : Value} {l : List POp} (h : OpsR w G v l) (hi : ∀ i, i < w.heap.size → G i → H i) : OpsR w H v l := by
  obtain ⟨xs, h1, h2⟩ := h
  exact ⟨xs, h1.mono hi, h2.mono fun x c _ ⟨v, e, hb⟩ => ⟨v, e, hb.mono hi⟩⟩
/-- As the walk wants it: the value's shape, and each element's cells. -/
theorem OpsR.open {w : World} {G : Nat → Prop} {v : Value} {l : List POp} (h : OpsR w G v l) :
    ∃ A c, v = .slice A l.length c ∧ l.length ≤ c ∧ c ≤ maxLen ∧ (A = none → c = 0) ∧ ∀ k (hk : k < l.length), ∃ b off Ax cx, A = some ⟨b, off, none⟩ ∧ G b ∧ By w G (.slice Ax l[k].text.length cx) l[k].text ∧
      w.cell? ⟨b, off + k * 4, none⟩ = some (.int .i64 l[k].kind) ∧ w.cell? ⟨b, off + k * 4 + 1, none⟩ = some (.int .i64 l[k].n) ∧ w.cell? ⟨b, off + k * 4 + 2, none⟩ = some (.int .i64 l[k].m) ∧ w.cell? ⟨b, off + k * 4 + 3, none⟩ = some (.slice Ax l[k].text.length cx) := by
  obtain ⟨xs, ⟨_, A, c, rfl, hl, hn, hc, hA, hx⟩, hr⟩ := h
  refine ⟨A, c, rfl, hn, hc, hA, fun k hk => ?_⟩
  obtain ⟨b, off, rfl, hg, hat⟩ := hx (by omega)
  obtain ⟨c', ⟨v, rfl, hb⟩, hget⟩ := hr.get OpRep.len k hk
  obtain ⟨Ax, cx, rfl, -⟩ := hb.open
  refine ⟨b, off, Ax, cx, rfl, hg, hb, ?_, ?_, ?_, ?_⟩
  · exact hat.get _ _ (hget 0 _ rfl)
  · rw [Nat.add_assoc]; exact hat.get _ _ (hget 1 _ rfl)
  · rw [Nat.add_assoc]; exact hat.get _ _ (hget 2 _ rfl)
  · rw [Nat.add_assoc]; exact hat.get _ _ (hget 3 _ rfl)
end Go.Proofs.YtddmbdigdnmfgaaGreatDoor
