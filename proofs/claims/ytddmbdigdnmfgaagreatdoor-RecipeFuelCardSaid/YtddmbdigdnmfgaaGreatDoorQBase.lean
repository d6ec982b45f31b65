/- What stays in memory across calls, and what reads as what: the words of all walks of this seat. -/
import Derived.WalkKit
import Derived.WalkLawsBesides
import Derived.WalkSpells
import Derived.Deep.Draws
import Derived.Deep.QuietTactic
import Derived.BigQuiet
import Derived.KernelRfl
import Derived.Maps.AppendAt
import Derived.Deep.AppendLies
import Derived.Deep.RegionHeld3
namespace Go.Proofs.YtddmbdigdnmfgaaGreatDoor
open Go.RowKit

/-- A fact that the walk's simp does not look into. -/
structure Fact (p : Prop) : Prop where mk :: (out : p)

/-- Every block there was, of those that G names, is in w' as it was in w. -/
structure Keep (G : Nat → Prop) (w w' : World) : Prop where
  os : w'.os = w.os
  tape : w'.tape = w.tape
  output : w'.output = w.output
  size : w.heap.size ≤ w'.heap.size
  block : ∀ i, i < w.heap.size → G i → w'.heap[i]? = w.heap[i]?

def All : Nat → Prop := fun _ => True

section
variable {G H : Nat → Prop} {a b c w w' : World}
theorem Keep.refl (G : Nat → Prop) (w : World) : Keep G w w := ⟨rfl, rfl, rfl, Nat.le_refl _, fun _ _ _ => rfl⟩
theorem Keep.trans (h : Keep G a b) (k : Keep G b c) : Keep G a c :=
  ⟨k.os.trans h.os, k.tape.trans h.tape, k.output.trans h.output, Nat.le_trans h.size k.size, fun i hi hg => (k.block i (Nat.lt_of_lt_of_le hi h.size) hg).trans (h.block i hi hg)⟩
/-- Behind a step that keeps H: what of G was there is in H. -/
theorem Keep.then_ (h : Keep G a b) (k : Keep H b c) (hi : ∀ i, i < a.heap.size → G i → H i) : Keep G a c :=
  ⟨k.os.trans h.os, k.tape.trans h.tape, k.output.trans h.output, Nat.le_trans h.size k.size, fun i hl hg => (k.block i (Nat.lt_of_lt_of_le hl h.size) (hi i hl hg)).trans (h.block i hl hg)⟩
theorem Keep.mono (h : Keep G a b) (hi : ∀ i, H i → G i) : Keep H a b := ⟨h.os, h.tape, h.output, h.size, fun i hl hg => h.block i hl (hi i hg)⟩
theorem Keep.all (h : Keep All a b) : Keep G a b := h.mono fun _ _ => trivial
theorem Keep.then_all (h : Keep G a b) (k : Keep All b c) : Keep G a c := h.trans k.all
theorem Keep.alloc (h : Keep G a w) (o : Obj) : Keep G a (w.alloc o) :=
  h.trans ⟨rfl, rfl, rfl, by simp, fun i hi _ => Below.heap_alloc _ _ _ hi⟩
theorem Keep.setCell (h : Keep G a w) {p : Addr} (hp : a.heap.size ≤ p.block ∨ ¬ G p.block) (u : Value) : Keep G a (w.setCell p u) :=
  ⟨h.os, h.tape, h.output, by simpa [World.setCell] using h.size, fun i hi hg => by
    rw [Below.heap_setCell _ _ _ _ (by rcases hp with hp | hp; · omega
                                       · intro e; exact hp (e ▸ hg))]
    exact h.block i hi hg⟩
theorem Keep.drew (h : Keep G a w) : Keep G a w.drew := ⟨h.os, h.tape, h.output, h.size, h.block⟩
theorem Keep.drewN (h : Keep G a w) (n : Nat) : Keep G a (w.drewN n) := ⟨h.os, h.tape, h.output, h.size, h.block⟩
theorem Keep.grown (h : Keep G a w) {row : Option Nat} (hg : w.grownBy w' row) (hr : ∀ k, row = some k → a.heap.size ≤ k ∨ ¬ G k) : Keep G a w' :=
  ⟨hg.os.trans h.os, hg.tape.trans h.tape, hg.output.trans h.output, Nat.le_trans h.size hg.size, fun i hi hG => by
    rw [hg.block i (Nat.lt_of_lt_of_le hi h.size) (fun e => by rcases hr i e.symm with h' | h'; · omega
                                                               · exact h' hG)]
    exact h.block i hi hG⟩
theorem Keep.of_below (h : Below w.heap.size w w') : Keep G w w' := ⟨h.os, h.tape, h.output, h.size, fun i hi _ => h.block i hi⟩
theorem Keep.below (h : Keep All w w') : Below w.heap.size w w' := ⟨h.os, h.tape, h.output, h.size, fun i hi => h.block i hi trivial⟩
theorem Keep.grownBy (h : Keep All w w') : w.grownBy w' none := ⟨h.os, h.tape, h.output, h.size, fun i hi _ => h.block i hi trivial⟩
theorem Keep.cell (h : Keep G w w') {p : Addr} (hp : G p.block) {v : Value} (hc : w.cell? p = some v) : w'.cell? p = some v :=
  (World.cell?_of_block (w := w) (h.block p.block (World.block_lt_of_cell? w p hc) hp)).trans hc
theorem Keep.heap (h : Keep G w w') {i : Nat} (hg : G i) {o : Obj} (ho : w.heap[i]? = some o) : w'.heap[i]? = some o :=
  (h.block i (Array.getElem?_eq_some_iff.1 ho).1 hg).trans ho
theorem Keep.frozen (h : Keep G w w') {p : Addr} (hp : G p.block) (hl : p.block < w.heap.size) : w'.frozen? p = w.frozen? p :=
  World.frozen?_of_block (w := w) (h.block p.block hl hp)
end

/-! ### Cells in a row; a block known whole; slices -/
/-- From ⟨b, off⟩ on w holds vs. -/
def At (w : World) (b off : Nat) (vs : List Value) : Prop := ∀ j, j < vs.length → w.cell? ⟨b, off + j, none⟩ = some (vs.getD j undef)

theorem At.keep {G : Nat → Prop} {w w' : World} {b off : Nat} {vs : List Value} (h : At w b off vs) (k : Keep G w w') (hb : G b) : At w' b off vs :=
  fun j hj => k.cell (p := ⟨b, off + j, none⟩) hb (h j hj)
theorem At.lt {w : World} {b off : Nat} {vs : List Value} (h : At w b off vs) (hp : 0 < vs.length) : b < w.heap.size :=
  World.block_lt_of_cell? w ⟨b, off + 0, none⟩ (h 0 hp)
theorem At.get {w : World} {b off : Nat} {vs : List Value} (h : At w b off vs) (j : Nat) (v : Value) (hj : vs[j]? = some v) : w.cell? ⟨b, off + j, none⟩ = some v := by
  obtain ⟨hl, e⟩ := List.getElem?_eq_some_iff.1 hj
  rw [h j hl]; simp [List.getD_eq_getElem?_getD, hj]

/-- Block b is just these cells, none of them frozen. -/
def Blk (w : World) (b : Nat) (c : List Value) (T : TypeId) : Prop := w.heap[b]? = some (.cells c.toArray T (0, 0))
theorem Blk.lt {w : World} {b : Nat} {c : List Value} {T : TypeId} (h : Blk w b c T) : b < w.heap.size := (Array.getElem?_eq_some_iff.1 h).1
theorem Blk.cell {w : World} {b : Nat} {c : List Value} {T : TypeId} (h : Blk w b c T) (j : Nat) (v : Value) (hj : c[j]? = some v) : w.cell? ⟨b, j, none⟩ = some v := by
  have h' : w.heap[b]? = some (.cells c.toArray T (0, 0)) := h
  simp [World.cell?, h', hj]
theorem Blk.free {w : World} {b : Nat} {c : List Value} {T : TypeId} (h : Blk w b c T) (j : Nat) : w.frozen? ⟨b, j, none⟩ = false := by
  have h' : w.heap[b]? = some (.cells c.toArray T (0, 0)) := h
  simp [World.frozen?, h']
theorem Blk.keep {G : Nat → Prop} {w w' : World} {b : Nat} {c : List Value} {T : TypeId} (h : Blk w b c T) (k : Keep G w w') (hb : G b) : Blk w' b c T := k.heap hb h
theorem Blk.alloc {w : World} {b : Nat} {c : List Value} {T : TypeId} (h : Blk w b c T) (o : Obj) : Blk (w.alloc o) b c T := (Below.heap_alloc w o b h.lt).trans h
theorem Blk.drewN {w : World} {b : Nat} {c : List Value} {T : TypeId} (h : Blk w b c T) (n : Nat) : Blk (w.drewN n) b c T := h
theorem Blk.drew {w : World} {b : Nat} {c : List Value} {T : TypeId} (h : Blk w b c T) : Blk w.drew b c T := h
theorem Blk.new (w : World) (c : List Value) (T : TypeId) : Blk (w.alloc (.cells c.toArray T)) w.heap.size c T := by
  show (w.heap.push _)[w.heap.size]? = _
  simp
theorem Blk.set {w : World} {b : Nat} {c : List Value} {T : TypeId} (h : Blk w b c T) (j : Nat) (v : Value) : Blk (w.setCell ⟨b, j, none⟩ v) b (c.set j v) T := by
  have h' : w.heap[b]? = some (.cells c.toArray T (0, 0)) := h
  show (w.heap.modify b _)[b]? = _
  rw [Array.getElem?_modify, if_pos rfl, h']
  simp
theorem Blk.other {w : World} {b : Nat} {c : List Value} {T : TypeId} (h : Blk w b c T) (p : Addr) (hp : b ≠ p.block) (v : Value) : Blk (w.setCell p v) b c T :=
  (Below.heap_setCell w p v b hp).trans h
theorem Blk.grown {w w' : World} {b : Nat} {c : List Value} {T : TypeId} (h : Blk w b c T) {row : Option Nat} (hg : w.grownBy w' row) (hr : row ≠ some b) : Blk w' b c T :=
  (hg.block b h.lt (fun e => hr e.symm)).trans h
theorem Blk.at {w : World} {b : Nat} {c : List Value} {T : TypeId} (h : Blk w b c T) : At w b 0 c := fun j hj => by
  rw [show 0 + j = j from by omega]
  exact h.cell j _ (by simp [List.getD_eq_getElem?_getD, List.getElem?_eq_getElem hj])

/-- v is a slice of n elements, each of sz cells, that holds xs; its block is of G's (where it holds anything). -/
def Sl (w : World) (G : Nat → Prop) (sz : Nat) (v : Value) (n : Nat) (xs : List Value) : Prop :=
  (∀ u ∈ xs, u.oneCell' = true) ∧ ∃ A c, v = .slice A n c ∧ xs.length = n * sz ∧ n ≤ c ∧ c ≤ maxLen ∧ (A = none → c = 0) ∧ (0 < xs.length → ∃ b off, A = some ⟨b, off, none⟩ ∧ G b ∧ At w b off xs)

theorem Sl.keep {G : Nat → Prop} {w w' : World} {sz n : Nat} {v : Value} {xs : List Value} (h : Sl w G sz v n xs) (k : Keep G w w') : Sl w' G sz v n xs := by
  obtain ⟨h1, A, c, e, hl, hn, hc, hA, hx⟩ := h
  refine ⟨h1, A, c, e, hl, hn, hc, hA, fun hp => ?_⟩
  obtain ⟨b, off, ea, hg, ha⟩ := hx hp
  exact ⟨b, off, ea, hg, ha.keep k hg⟩
theorem Sl.mono {G H : Nat → Prop} {w : World} {sz n : Nat} {v : Value} {xs : List Value} (h : Sl w G sz v n xs) (hi : ∀ i, i < w.heap.size → G i → H i) : Sl w H sz v n xs := by
  obtain ⟨h1, A, c, e, hl, hn, hc, hA, hx⟩ := h
  refine ⟨h1, A, c, e, hl, hn, hc, hA, fun hp => ?_⟩
  obtain ⟨b, off, ea, hg, ha⟩ := hx hp
  exact ⟨b, off, ea, hi _ (ha.lt hp) hg, ha⟩
theorem Sl.nil (w : World) (G : Nat → Prop) (sz : Nat) : Sl w G sz (.slice none 0 0) 0 [] := ⟨by simp, none, 0, rfl, by simp, Nat.le_refl _, by unfold maxLen; omega, fun _ => rfl, fun h => absurd h (by simp)⟩
theorem Sl.of_own {w : World} {base : Nat} {e : TypeId} {sz n : Nat} {v : Value} {xs : List Value} (h : w.ownsRow base e sz v n xs) (h1 : ∀ u ∈ xs, u.oneCell' = true) : Sl w (fun i => base ≤ i) sz v n xs := by
  refine ⟨h1, ?_⟩
  rcases h.2 with ⟨rfl, h0⟩ | ⟨g, cap, cur, rfl, hb, hh, hn, hc, _⟩
  · have : xs = [] := List.eq_nil_of_length_eq_zero (by rw [h.1, h0]; simp)
    subst this
    subst h0
    exact (Sl.nil w _ sz).2
  · refine ⟨_, cap, rfl, h.1, hn, hc, (fun e => by cases e), fun _ => ⟨g, 0, rfl, hb, fun j hj => ?_⟩⟩
    have := h.cells (g := g) rfl j (xs.getD j undef) (by simp [List.getD_eq_getElem?_getD, List.getElem?_eq_getElem hj])
    have ha : (⟨g, 0, none⟩ : Addr).add j = ⟨g, 0 + j, none⟩ := by unfold Addr.add; split <;> simp_all
    rwa [ha] at this

theorem own_form {w : World} {base : Nat} {e : TypeId} {sz n : Nat} {v : Value} {xs : List Value} (h : w.ownsRow base e sz v n xs) : ∃ A c, v = .slice A n c := by
  rcases h.2 with ⟨rfl, rfl⟩ | ⟨g, cap, cur, rfl, _⟩
  · exact ⟨none, 0, rfl⟩
  · exact ⟨_, cap, rfl⟩
/-- A row that has just been laid. -/
theorem Sl.new (w : World) (T : TypeId) (sz n : Nat) (c : List Value) (hl : c.length = n * sz) (hn : n ≤ maxLen) (h1 : ∀ u ∈ c, u.oneCell' = true) :
    Sl (w.alloc (.cells c.toArray T)) (fun i => w.heap.size ≤ i) sz (.slice (some ⟨w.heap.size, 0, none⟩) n n) n c :=
  ⟨h1, _, n, rfl, hl, Nat.le_refl _, hn, (fun e => by cases e), fun _ => ⟨_, 0, rfl, Nat.le_refl _, (Blk.new w c T).at⟩⟩

/-- A length that no bound of the model's minds. -/
def Small (n : Nat) : Prop := n ≤ 1048576
theorem Small.le {n : Nat} (h : Small n) : n ≤ 1048576 := h
theorem Small.of {n : Nat} (h : n ≤ 1048576) : Small n := h
theorem Small.mono {n m : Nat} (h : Small n) (hm : m ≤ n) : Small m := Nat.le_trans hm h
theorem Small.max {n : Nat} (h : Small n) : n ≤ maxLen := by have := h.le; unfold maxLen; omega

/-- n elements, and m more, of so many bytes each, are no more than there is room for. -/
def Fits (n m bytes : Nat) : Prop := (n + m) * bytes ≤ 140737488355328 ∧ n + m ≤ maxLen
theorem Fits.of {n m : Nat} (h : Small (n + m)) (bytes : Nat) (hb : bytes ≤ 1024) : Fits n m bytes := by
  have := h.le
  refine ⟨?_, h.max⟩
  have h1 := Nat.mul_le_mul this hb
  omega
theorem alloc_le {a : Nat} {w : World} {o : Obj} (h : a ≤ w.heap.size) : a ≤ (w.alloc o).heap.size := by simp; omega

/-! ### append onto what the call owns -/
def SlTy (P : Program) (t e : TypeId) (sz bytes : Nat) : Prop :=
  P.underlying t = some (.slice e) ∧ 0 < sz ∧ ∃ i z, P.info? e = some i ∧ i.zero = some z ∧ i.size = sz ∧ i.bytes = bytes ∧ z.cells.size = sz

theorem run_ap {P : Program} {w : World} {t ty e : TypeId} {sz bytes base n m : Nat} {v x : Value} {xs ys : List Value} {G : Nat → Prop} (hT : SlTy P t e sz bytes) (hown : w.ownsRow base e sz v n xs) (hx : Sl w G sz x m ys)
    (hb : (n + m) * bytes ≤ 140737488355328) (h63 : n + m ≤ maxLen) (hbase : base ≤ w.heap.size) :
    ∃ v' w', (Builtin.append_ #[t, t] ty #[v, x]).run P w = .ok v' w' ∧ w'.ownsRow base e sz v' (n + m) (xs ++ ys) ∧ w.grownBy w' v.ownBlock ∧ (v'.ownBlock = v.ownBlock ∨ v'.ownBlock = some w.heap.size) := by
  obtain ⟨ht, hsz, i, z, hi, hz, hs1, hs2, hzs⟩ := hT
  obtain ⟨h1, A, c, rfl, hl, hn, hc, hA, hat⟩ := hx
  cases A with
  | none =>
    obtain rfl := hA rfl
    obtain rfl : m = 0 := by omega
    have : ys = [] := List.eq_nil_of_length_eq_zero (by rw [hl]; simp)
    subst this
    exact ⟨v, w, run_append_owned_none (w := w) (base := base) t ty e i sz ht hi v n xs hown, by simpa using hown, ⟨rfl, rfl, rfl, Nat.le_refl _, fun _ _ _ => rfl⟩, .inl rfl⟩
  | some ad =>
    obtain ⟨v', w', hr, h2, h3, _, h5⟩ := run_append_own_at (P := P) w base t ty e i z sz bytes ht hi hz hs1 hs2 hzs hsz v n xs hown ad m c ys hl (fun j u hu => by
      obtain ⟨hj, _⟩ := List.getElem?_eq_some_iff.1 hu
      obtain ⟨b, off, ea, _, ha⟩ := hat (by omega)
      cases ea
      have he : (⟨b, off, none⟩ : Addr).add j = ⟨b, off + j, none⟩ := by unfold Addr.add; split <;> simp_all
      rw [he]
      exact ha.get j u hu) h1 h63 hb hbase
    exact ⟨v', w', hr, h2, h3, h5⟩

theorem wp_ap {P : Program} {w : World} {o : Oper} {a : Act} {K : Act → World → Prop} {Q : Exit → Act → World → Prop} (s x : Operand) (t e : TypeId) (sz bytes base n m : Nat) {v xv : Value} {xs ys : List Value} {G : Nat → Prop}
    (hown : w.ownsRow base e sz v n xs) (hxs : Sl w G sz xv m ys) (ho : o.op = .call { callee := .builtin .append, args := #[s, x], argTypes := #[t, t] }) (hT : SlTy P t e sz bytes) (hs : a.eval s = v) (hx : a.eval x = xv)
    (hf : Fits n m bytes) (hbase : base ≤ w.heap.size)
    (h : ∀ v' w', w'.ownsRow base e sz v' (n + m) (xs ++ ys) → w.grownBy w' v.ownBlock → (v'.ownBlock = v.ownBlock ∨ v'.ownBlock = some w.heap.size) → K (a.put o.dst v') w') : o.wp P a w K Q := by
  obtain ⟨v', w', hr, h2, h3, h4⟩ := run_ap (ty := o.type) hT hown hxs hf.1 hf.2 hbase
  unfold Oper.wp execOp
  simp only [ho, resolve, invoke, builtin, Sem.run_bind, Sem.run_pure, Result.andThen_ok, List.map_toArray, List.map_cons, List.map_nil, hs, hx, hr]
  exact h v' w' h2 h3 h4
/-- At the list of a plain region's operations. -/
theorem wpList_ap {P : Program} {w : World} {ops : Array Oper} {rest : List Oper} {o : Oper} {a : Act} {Q : Exit → Act → World → Prop} (hgd : o.guard = none) (s x : Operand) (t e : TypeId) (sz bytes base n m : Nat) {v xv : Value} {xs ys : List Value} {G : Nat → Prop}
    (hown : w.ownsRow base e sz v n xs) (hxs : Sl w G sz xv m ys) (ho : o.op = .call { callee := .builtin .append, args := #[s, x], argTypes := #[t, t] }) (hT : SlTy P t e sz bytes) (hs : a.eval s = v) (hx : a.eval x = xv)
    (hf : Fits n m bytes) (hbase : base ≤ w.heap.size)
    (h : ∀ v' w', w'.ownsRow base e sz v' (n + m) (xs ++ ys) → w.grownBy w' v.ownBlock → (v'.ownBlock = v.ownBlock ∨ v'.ownBlock = some w.heap.size) → wpList P ops Q rest (a.put o.dst v') w') : wpList P ops Q (o :: rest) a w :=
  wpList_plain hgd fun _ hK => wp_ap s x t e sz bytes base n m hown hxs ho hT hs hx hf hbase fun v' w' h2 h3 h4 => hK _ _ (h v' w' h2 h3 h4)
/-- At a step of a region that draws its order. -/
theorem step_ap {P : Program} {w : World} {ops : Array Oper} {o : Oper} {a : Act} {K : Act → World → Prop} {Q : Exit → Act → World → Prop} {E : Prop} (hgd : o.guard = none) (s x : Operand) (t e : TypeId) (sz bytes base n m : Nat) {v xv : Value} {xs ys : List Value} {G : Nat → Prop}
    (hown : w.ownsRow base e sz v n xs) (hxs : Sl w G sz xv m ys) (ho : o.op = .call { callee := .builtin .append, args := #[s, x], argTypes := #[t, t] }) (hT : SlTy P t e sz bytes) (hs : a.eval s = v) (hx : a.eval x = xv)
    (hf : Fits n m bytes) (hbase : base ≤ w.heap.size)
    (h : ∀ v' w', w'.ownsRow base e sz v' (n + m) (xs ++ ys) → w.grownBy w' v.ownBlock → (v'.ownBlock = v.ownBlock ∨ v'.ownBlock = some w.heap.size) → K (a.put o.dst v') w') :
    if Region.wanted o (yielded ops a.tmps) = true then Oper.wp P o a w K Q else E := by
  have hw : Region.wanted o (yielded ops a.tmps) = true := by simp [Region.wanted, hgd]
  rw [if_pos hw]
  exact wp_ap s x t e sz bytes base n m hown hxs ho hT hs hx hf hbase h

/-! ### Bytes -/
def u8v (x : UInt8) : Value := .int .u8 x.toNat
theorem u8v_one (l : List UInt8) : ∀ u ∈ l.map u8v, u.oneCell' = true := by simp [u8v, Value.oneCell']
def By (w : World) (G : Nat → Prop) (v : Value) (l : List UInt8) : Prop := Sl w G 1 v l.length (l.map u8v)
theorem By.keep {G : Nat → Prop} {w w' : World} {v : Value} {l : List UInt8} (h : By w G v l) (k : Keep G w w') : By w' G v l := Sl.keep h k
theorem By.mono {G H : Nat → Prop} {w : World} {v : Value} {l : List UInt8} (h : By w G v l) (hi : ∀ i, i < w.heap.size → G i → H i) : By w H v l := Sl.mono h hi
theorem By.nil (w : World) (G : Nat → Prop) : By w G (.slice none 0 0) [] := Sl.nil w G 1
theorem By.of_own {w : World} {base n : Nat} {e : TypeId} {v : Value} {l : List UInt8} (h : w.ownsRow base e 1 v n (l.map u8v)) : By w (fun i => base ≤ i) v l := by
  have hn : l.length = n := by have := h.1; simpa using this
  subst hn
  exact Sl.of_own h (u8v_one l)
/-- As the walk wants it: the value's shape, and each cell. -/
theorem By.open {G : Nat → Prop} {w : World} {v : Value} {l : List UInt8} (h : By w G v l) :
    ∃ A c, v = .slice A l.length c ∧ l.length ≤ c ∧ c ≤ maxLen ∧ (A = none → c = 0) ∧ (0 < l.length → ∃ b off, A = some ⟨b, off, none⟩ ∧ G b ∧ ∀ j, j < l.length → w.cell? ⟨b, off + j, none⟩ = some (.int .u8 (l[j]?.getD 0).toNat)) := by
  obtain ⟨_, A, c, e, hl, hn, hc, hA, hx⟩ := h
  refine ⟨A, c, e, hn, hc, hA, fun hp => ?_⟩
  obtain ⟨b, off, ea, hg, ha⟩ := hx (by simpa using hp)
  refine ⟨b, off, ea, hg, fun j hj => ?_⟩
  rw [ha j (by simpa using hj)]
  simp [u8v, List.getD_eq_getElem?_getD, List.getElem?_eq_getElem hj]

/-- Behind new blocks it lies where it lay. -/
theorem Sl.mono' {G H : Nat → Prop} {w w' : World} {sz n : Nat} {v : Value} {xs : List Value} (h : Sl w' G sz v n xs) (h0 : Sl w G sz v n xs) (hi : ∀ i, i < w.heap.size → G i → H i) : Sl w' H sz v n xs := by
  obtain ⟨h1, A, c, e, hl, hn, hc, hA, hx⟩ := h
  obtain ⟨_, A', c', e', _, _, _, _, hx'⟩ := h0
  rw [e] at e'
  cases e'
  refine ⟨h1, A, c, e, hl, hn, hc, hA, fun hp => ?_⟩
  obtain ⟨b, off, ea, hg, ha⟩ := hx hp
  obtain ⟨b', off', ea', _, ha'⟩ := hx' hp
  rw [ea] at ea'
  cases ea'
  exact ⟨b, off, ea, hi _ (ha'.lt hp) hg, ha⟩
theorem By.mono' {G H : Nat → Prop} {w w' : World} {v : Value} {l : List UInt8} (h : By w' G v l) (h0 : By w G v l) (hi : ∀ i, i < w.heap.size → G i → H i) : By w' H v l := Sl.mono' h h0 hi

/-! ### Slices of slices -/
theorem add_at (b off k : Nat) : (⟨b, off, none⟩ : Addr).add k = ⟨b, off + k, none⟩ := by unfold Addr.add; split <;> simp_all
theorem Sl.drop {w : World} {G : Nat → Prop} {sz n c k : Nat} {A : Option Addr} {xs : List Value} (h : Sl w G sz (.slice A n c) n xs) (hk : k ≤ n) :
    (c = k → Sl w G sz (.slice A (n - k) 0) (n - k) (xs.drop (k * sz))) ∧ (¬ c = k → Sl w G sz (.slice (A.map fun x => x.add (k * sz)) (n - k) (c - k)) (n - k) (xs.drop (k * sz))) := by
  obtain ⟨h1, A', c', e, hl, hn, hc, hA, hat⟩ := h
  cases e
  have hd : (xs.drop (k * sz)).length = (n - k) * sz := by rw [List.length_drop, hl, Nat.sub_mul]
  have h1' : ∀ u ∈ xs.drop (k * sz), u.oneCell' = true := fun u hu => h1 u (List.mem_of_mem_drop hu)
  constructor
  · rintro rfl
    have : n = c := by omega
    subst this
    refine ⟨h1', A, 0, rfl, hd, by omega, by omega, fun _ => rfl, fun hp => ?_⟩
    rw [hd] at hp; simp at hp
  · intro hck
    refine ⟨h1', _, c - k, rfl, hd, by omega, by omega, ?_, fun hp => ?_⟩
    · intro e
      cases A with
      | none => have := hA rfl; omega
      | some a => cases e
    · obtain ⟨b, off, rfl, hg, ha⟩ := hat (by rw [List.length_drop] at hp; omega)
      refine ⟨b, off + k * sz, by simp [add_at], hg, fun j hj => ?_⟩
      rw [List.length_drop] at hj
      have := ha (k * sz + j) (by omega)
      rw [show off + k * sz + j = off + (k * sz + j) from by omega, this]
      simp [List.getD_eq_getElem?_getD]
theorem Sl.take {w : World} {G : Nat → Prop} {sz n c k : Nat} {A : Option Addr} {xs : List Value} (h : Sl w G sz (.slice A n c) n xs) (hk : k ≤ n) :
    Sl w G sz (.slice A k c) k (xs.take (k * sz)) := by
  obtain ⟨h1, A', c', e, hl, hn, hc, hA, hat⟩ := h
  cases e
  have hd : (xs.take (k * sz)).length = k * sz := by rw [List.length_take, hl]; exact Nat.min_eq_left (Nat.mul_le_mul_right sz hk)
  refine ⟨fun u hu => h1 u (List.mem_of_mem_take hu), A, c, rfl, hd, by omega, hc, hA, fun hp => ?_⟩
  rw [hd] at hp
  have hkl : k * sz ≤ n * sz := Nat.mul_le_mul_right sz hk
  obtain ⟨b, off, rfl, hg, ha⟩ := hat (by omega)
  refine ⟨b, off, rfl, hg, fun j hj => ?_⟩
  rw [hd] at hj
  rw [ha j (by omega)]
  simp [List.getD_eq_getElem?_getD, hj]
theorem By.drop {w : World} {G : Nat → Prop} {c k : Nat} {A : Option Addr} {l : List UInt8} (h : By w G (.slice A l.length c) l) (hk : k ≤ l.length) :
    (c = k → By w G (.slice A (l.length - k) 0) (l.drop k)) ∧ (¬ c = k → By w G (.slice (A.map fun x => x.add k) (l.length - k) (c - k)) (l.drop k)) := by
  have := Sl.drop h hk
  simp only [Nat.mul_one, ← List.map_drop] at this
  unfold By
  rw [List.length_drop]
  exact this
theorem By.take {w : World} {G : Nat → Prop} {c k : Nat} {A : Option Addr} {l : List UInt8} (h : By w G (.slice A l.length c) l) (hk : k ≤ l.length) : By w G (.slice A k c) (l.take k) := by
  have := Sl.take h hk
  simp only [Nat.mul_one, ← List.map_take] at this
  unfold By
  rw [List.length_take, Nat.min_eq_left hk]
  exact this

/-! ### Room: a slice's cells up to its capacity may be written -/
/-- v is a slice whose cells, up to its capacity, are there, none of them frozen; its block is of G's (where it has any). -/
def Room (w : World) (G : Nat → Prop) (v : Value) : Prop :=
  ∃ A n c, v = .slice A n c ∧ n ≤ c ∧ c ≤ maxLen ∧ (0 < c → ∃ b off, A = some ⟨b, off, none⟩ ∧ G b ∧ ∀ j, j < c → (w.cell? ⟨b, off + j, none⟩).isSome = true ∧ w.frozen? ⟨b, off + j, none⟩ = false)
theorem isSome_lt {w : World} {p : Addr} (h : (w.cell? p).isSome = true) : p.block < w.heap.size := by
  obtain ⟨v, hv⟩ := Option.isSome_iff_exists.1 h
  exact World.block_lt_of_cell? w p hv
theorem Room.nil (w : World) (G : Nat → Prop) : Room w G (.slice none 0 0) := ⟨none, 0, 0, rfl, Nat.le_refl _, by unfold maxLen; omega, fun h => absurd h (by omega)⟩
theorem Room.keep {G : Nat → Prop} {w w' : World} {v : Value} (h : Room w G v) (k : Keep G w w') : Room w' G v := by
  obtain ⟨A, n, c, e, hn, hc, hx⟩ := h
  refine ⟨A, n, c, e, hn, hc, fun hp => ?_⟩
  obtain ⟨b, off, ea, hg, ha⟩ := hx hp
  refine ⟨b, off, ea, hg, fun j hj => ?_⟩
  have h1 := (ha j hj).1
  obtain ⟨u, hu⟩ := Option.isSome_iff_exists.1 h1
  exact ⟨by rw [k.cell (p := ⟨b, off + j, none⟩) hg hu]; rfl, (k.frozen (p := ⟨b, off + j, none⟩) hg (isSome_lt h1)).trans (ha j hj).2⟩
theorem Room.mono' {G H : Nat → Prop} {w w' : World} {v : Value} (h : Room w' G v) (h0 : Room w G v) (hi : ∀ i, i < w.heap.size → G i → H i) : Room w' H v := by
  obtain ⟨A, n, c, e, hn, hc, hx⟩ := h
  obtain ⟨A', n', c', e', _, _, hx'⟩ := h0
  rw [e] at e'
  cases e'
  refine ⟨A, n, c, e, hn, hc, fun hp => ?_⟩
  obtain ⟨b, off, ea, hg, ha⟩ := hx hp
  obtain ⟨b', off', ea', _, ha'⟩ := hx' hp
  rw [ea] at ea'
  cases ea'
  exact ⟨b, off, ea, hi _ (isSome_lt (ha' 0 hp).1) hg, ha⟩
theorem Room.mono {G H : Nat → Prop} {w : World} {v : Value} (h : Room w G v) (hi : ∀ i, i < w.heap.size → G i → H i) : Room w H v := h.mono' h hi
theorem Room.of_own {w : World} {base n : Nat} {e : TypeId} {v : Value} {xs : List Value} (h : w.ownsRow base e 1 v n xs) : Room w (fun i => base ≤ i) v := by
  rcases h.2 with ⟨rfl, rfl⟩ | ⟨g, cap, cur, rfl, hb, hh, hn, hc, hs, _⟩
  · exact Room.nil _ _
  · refine ⟨_, n, cap, rfl, hn, hc, fun _ => ⟨g, 0, rfl, hb, fun j hj => ?_⟩⟩
    rw [Nat.zero_add]
    have hj' : j < cur.size := by omega
    constructor
    · simp [World.cell?, hh, hj']
    · simp [World.frozen?, hh]
theorem own_base {w : World} {base base' : Nat} {e : TypeId} {sz n : Nat} {v : Value} {xs : List Value} (h : w.ownsRow base e sz v n xs) (hb : base' ≤ base) : w.ownsRow base' e sz v n xs :=
  ⟨h.1, h.2.imp id fun ⟨g, cap, cur, hv, h1, r⟩ => ⟨g, cap, cur, hv, Nat.le_trans hb h1, r⟩⟩
/-- Bytes, with room. -/
def ByR (w : World) (G : Nat → Prop) (v : Value) (l : List UInt8) : Prop := By w G v l ∧ Room w G v
theorem ByR.keep {G : Nat → Prop} {w w' : World} {v : Value} {l : List UInt8} (h : ByR w G v l) (k : Keep G w w') : ByR w' G v l := ⟨h.1.keep k, h.2.keep k⟩
theorem ByR.mono {G H : Nat → Prop} {w : World} {v : Value} {l : List UInt8} (h : ByR w G v l) (hi : ∀ i, i < w.heap.size → G i → H i) : ByR w H v l := ⟨h.1.mono hi, h.2.mono hi⟩
theorem ByR.mono' {G H : Nat → Prop} {w w' : World} {v : Value} {l : List UInt8} (h : ByR w' G v l) (h0 : ByR w G v l) (hi : ∀ i, i < w.heap.size → G i → H i) : ByR w' H v l := ⟨h.1.mono' h0.1 hi, h.2.mono' h0.2 hi⟩
theorem ByR.nil (w : World) (G : Nat → Prop) : ByR w G (.slice none 0 0) [] := ⟨By.nil _ _, Room.nil _ _⟩
theorem ByR.of_own {w : World} {base n : Nat} {e : TypeId} {v : Value} {l : List UInt8} (h : w.ownsRow base e 1 v n (l.map u8v)) : ByR w (fun i => base ≤ i) v l := ⟨By.of_own h, Room.of_own h⟩
theorem ByR.open {G : Nat → Prop} {w : World} {v : Value} {l : List UInt8} (h : ByR w G v l) :
    ∃ A c, v = .slice A l.length c ∧ l.length ≤ c ∧ c ≤ maxLen ∧ (A = none → c = 0) ∧ (0 < l.length → ∃ b off, A = some ⟨b, off, none⟩ ∧ G b ∧ ∀ j, j < l.length → w.cell? ⟨b, off + j, none⟩ = some (.int .u8 (l[j]?.getD 0).toNat)) := h.1.open

/-! ### Endings, small words -/
theorem ret_bool {a b : Bool} (h : a = b) : Ending.returned (.bool a) = .returned (.bool b) := by rw [h]
theorem ret_int {k : IntKind} {a b : Int} (h : a = b) : Ending.returned (.int k a) = .returned (.int k b) := by rw [h]
theorem drewN2 (w : World) (n m : Nat) : ∃ k, (w.drewN n).drewN m = w.drewN k := ⟨n + m, World.drewN_drewN ..⟩
/-- It answers v, and has drawn orders alone. -/
def Quiet (w : World) (v : Value) (e : Ending) (w' : World) : Prop := e = .returned v ∧ ∃ n, w' = w.drewN n
theorem Quiet.keep {G : Nat → Prop} {w w' : World} {v : Value} {e : Ending} (h : Quiet w v e w') : Keep G w w' := by
  obtain ⟨_, n, rfl⟩ := h; exact (Keep.refl G w).drewN n
end Go.Proofs.YtddmbdigdnmfgaaGreatDoor
