/- Two rows that one call owns, of which one may have grown out of the other. -/
import Derived.Test.YtddmbdigdnmfgaaGreatDoorMark
import Derived.Maps.AppendAt
namespace Go.Proofs.YtddmbdigdnmfgaaGreatDoor
open Go.RowKit
set_option maxHeartbeats 400000
set_option maxRecDepth 100000

/-- Where an append has laid the new row: behind the old one in its block, or in the block just made. -/
def Lain (w w' : World) (v v' : Value) (n m : Nat) : Prop :=
  (w.grownBy w' none ∧ v'.ownBlock = some w.heap.size) ∨ ∃ g cap, v = .slice (some ⟨g, 0, none⟩) n cap ∧ v' = .slice (some ⟨g, 0, none⟩) (n + m) cap
/-- The kit's law on append, its proof turned at the ends: it says where the new row lies. -/
theorem run_append_lain {P : Program} (w : World) (base : Nat) (t ty e : TypeId) (i : TypeInfo) (z : Value) (size bytes : Nat) (ht : P.underlying t = some (.slice e)) (hi : P.info? e = some i) (hz : i.zero = some z)
    (hsize : i.size = size) (hby : i.bytes = bytes) (hzs : z.cells.size = size)
    (v : Value) (n : Nat) (xs : List Value) (hown : w.ownsRow base e size v n xs)
    (a : Addr) (m c : Nat) (hm0 : 0 < m) (news : List Value) (hl : news.length = m * size) (hnews : ∀ j u, news[j]? = some u → w.cell? (a.add j) = some u) (h1 : ∀ u ∈ news, u.oneCell' = true)
    (h63 : n + m ≤ maxLen) (hbytes : (n + m) * bytes ≤ 140737488355328) (hbase : base ≤ w.heap.size) :
    ∃ v' w', (Builtin.append_ #[t, t] ty #[v, .slice (some a) m c]).run P w = .ok v' w' ∧ w'.ownsRow base e size v' (n + m) (xs ++ news) ∧ w.grownBy w' v.ownBlock ∧ Lain w w' v v' n m := by
  subst hsize
  subst hby
  have hsmall : n + m ≤ 9223372036854775807 := by simp only [maxLen] at h63; omega
  have hlen : (xs ++ news).length = (n + m) * i.size := by rw [List.length_append, hown.1, hl, Nat.add_mul]
  have grown : ∀ (old : Nat), old < n + m → ∀ (row : Option Nat),
      (w.drew.alloc (.cells (xs.toArray ++ news.toArray ++ Builtin.zeroCells z.cells (grownCap w (n + m) old e - (n + m))) e)).ownsRow base e i.size
        (.slice (some ⟨w.heap.size, 0, none⟩) (n + m) (grownCap w (n + m) old e)) (n + m) (xs ++ news) ∧
      w.grownBy (w.drew.alloc (.cells (xs.toArray ++ news.toArray ++ Builtin.zeroCells z.cells (grownCap w (n + m) old e - (n + m))) e)) row := by
    intro old ho row
    have hge := grownCap_ge w (n + m) old e
    have hcm : grownCap w (n + m) old e ≤ maxLen := grownCap_le_maxLen w (n + m) old e h63
    refine ⟨⟨hlen, .inr ⟨w.heap.size, _, _, rfl, hbase, heap_alloc_new w.drew _, hge, hcm, ?_, ?_⟩⟩, ⟨rfl, rfl, rfl, by simp, fun k hk _ => Below.heap_alloc w.drew _ k hk⟩⟩
    · simp only [Array.size_append, List.size_toArray, size_zeroCells, hzs, hown.1, hl, ← Nat.add_mul]
      congr 1
      omega
    · simp only [Array.toList_append, List.append_assoc]
      rw [← List.append_assoc, ← hlen]
      exact List.take_left
  rcases hown.2 with ⟨rfl, rfl⟩ | ⟨g, cap, cur, rfl, hbg, hg, hnc, hcm, hcs, htake⟩
  · have hx : xs = [] := List.eq_nil_of_length_eq_zero (by simpa using hown.1)
    subst hx
    have hr := run_append_nil (P := P) w t ty e i z ht hi hz a m c news hl hnews (by omega) (by omega) (by have hb := hbytes; simp only [Nat.zero_add] at hb; omega)
    have hgr := grown 0 (by omega)
    simp only [Nat.zero_add, List.nil_append, Array.empty_append] at hgr ⊢
    exact ⟨_, _, hr, (hgr none).1, (hgr _).2, .inl ⟨(hgr none).2, rfl⟩⟩
  · by_cases hroom : n + m ≤ cap
    · have hfit : n * i.size + news.length ≤ cur.size := by rw [hl, hcs, ← Nat.add_mul]; exact Nat.mul_le_mul_right _ hroom
      have hr := run_append_room (P := P) w t ty e i ht hi g n cap cur hg a m c news hl hnews h1 hroom hfit
      refine ⟨_, _, hr, ⟨hlen, .inr ⟨g, cap, _, rfl, hbg, setRow_heap w g cur _ e _ hg, hroom, hcm, ?_, ?_⟩⟩, ⟨rfl, rfl, rfl, by simp, fun k _ hk => setRow_other w g k _ (fun e => hk (by simp [Value.ownBlock, e]))⟩, .inr ⟨g, cap, rfl, rfl⟩⟩
      · simp only [List.size_toArray, List.length_append, List.length_take, List.length_drop, Array.length_toList]
        omega
      · rw [htake, ← hlen]
        exact List.take_left
    · have holds : ∀ j u, xs[j]? = some u → w.cell? ((⟨g, 0, none⟩ : Addr).add j) = some u := hown.cells (g := g) rfl
      have hr := run_append_grow (P := P) w t ty e i z ht hi hz ⟨g, 0, none⟩ n cap xs hown.1 holds a m c news hl hnews (by omega) (by omega) (growslice_fits (by omega) hbytes)
      have hgr := grown cap (by omega)
      exact ⟨_, _, hr, (hgr none).1, (hgr _).2, .inl ⟨(hgr none).2, rfl⟩⟩
theorem wpList_lain {P : Program} {w : World} {ops : Array Oper} {rest : List Oper} {o : Oper} {a : Act} {Q : Exit → Act → World → Prop} (hgd : o.guard = none) (s x : Operand) (t e : TypeId) (sz bytes base n m : Nat) {v : Value} {g c : Nat} {xs ys : List Value} {G : Nat → Prop}
    (hown : w.ownsRow base e sz v n xs) (hxs : Sl w G sz (.slice (some ⟨g, 0, none⟩) m c) m ys) (ho : o.op = .call { callee := .builtin .append, args := #[s, x], argTypes := #[t, t] }) (hT : SlTy P t e sz bytes) (hs : a.eval s = v) (hx : a.eval x = .slice (some ⟨g, 0, none⟩) m c)
    (hm0 : 0 < m) (hf : Fits n m bytes) (hbase : base ≤ w.heap.size)
    (h : ∀ v' w', w'.ownsRow base e sz v' (n + m) (xs ++ ys) → w.grownBy w' v.ownBlock → Lain w w' v v' n m → wpList P ops Q rest (a.put o.dst v') w') : wpList P ops Q (o :: rest) a w := by
  refine wpList_plain hgd fun K hK => ?_
  obtain ⟨ht, hsz, i, z, hi, hz, hs1, hs2, hzs⟩ := hT
  obtain ⟨h1, A, c', e', hl, hn, hc, hA, hat⟩ := hxs
  simp only [Value.slice.injEq] at e'
  obtain ⟨rfl, -, rfl⟩ := e'
  obtain ⟨v', w', hr, h2, h3, h4⟩ := run_append_lain (P := P) w base t o.type e i z sz bytes ht hi hz hs1 hs2 hzs v n xs hown ⟨g, 0, none⟩ m c hm0 ys hl (fun j u hu => by
    obtain ⟨hj, _⟩ := List.getElem?_eq_some_iff.1 hu
    obtain ⟨b, off, ea, _, ha⟩ := hat (by omega)
    cases ea
    rw [add_at]
    exact ha.get j u hu) h1 hf.2 hf.1 hbase
  unfold Oper.wp execOp
  simp only [ho, resolve, invoke, builtin, Sem.run_bind, Sem.run_pure, Result.andThen_ok, List.map_toArray, List.map_cons, List.map_nil, hs, hx, hr]
  exact hK _ _ (h v' w' h2 h3 h4)

/-- A row of bytes that the call owns. -/
def Row (w : World) (v : Value) (l : List UInt8) : Prop := w.ownsRow 0 5 1 v l.length (l.map u8v)
theorem Row.keep {G : Nat → Prop} {w w' : World} {v : Value} {l : List UInt8} (h : Row w v l) (k : Keep G w w') (hb : ∀ g, v.ownBlock = some g → G g) : Row w' v l := own_keep h k hb
theorem Row.lt {w : World} {v : Value} {l : List UInt8} (h : Row w v l) {b : Nat} (hb : v.ownBlock = some b) : b < w.heap.size := (World.ownsRow.lt h b hb).2
/-- What a row looks like. -/
theorem Row.open {w : World} {v : Value} {l : List UInt8} (h : Row w v l) :
    ∃ A c, v = .slice A l.length c ∧ l.length ≤ c ∧ c ≤ maxLen ∧ ∀ j, j < l.length → ∃ g, A = some ⟨g, 0, none⟩ ∧ w.cell? ⟨g, j, none⟩ = some (.int .u8 (l[j]?.getD 0).toNat) ∧ w.frozen? ⟨g, j, none⟩ = false := by
  rcases h.2 with ⟨rfl, h0⟩ | ⟨g, cap, cur, rfl, hb, hh, hn, hc, hs, ht⟩
  · refine ⟨none, 0, by rw [h0], by omega, by unfold maxLen; omega, fun j hj => by omega⟩
  · refine ⟨_, cap, rfl, hn, hc, fun j hj => ⟨g, rfl, ?_, ?_⟩⟩
    · rw [World.ownsRow.cellAt h j (by omega)]
      simp [u8v, List.getElem?_eq_getElem hj]
    · exact World.ownsRow.frozenAt h j
/-- One byte of a row is written. -/
theorem Row.set {w : World} {g n c : Nat} {l : List UInt8} (h : Row w (.slice (some ⟨g, 0, none⟩) n c) l) (j : Nat) (x : UInt8) : Row (w.setCell ⟨g, j, none⟩ (.int .u8 (x.toNat : Int))) (.slice (some ⟨g, 0, none⟩) n c) (l.set j x) := by
  obtain ⟨A, c', e', -⟩ := h.open
  simp only [Value.slice.injEq] at e'
  have hn := e'.2.1
  subst hn
  have := (World.ownsRow.stored h j (u8v x)).1
  rw [← List.map_set] at this
  show World.ownsRow _ 0 5 1 _ (l.set j x).length _
  rw [List.length_set]
  exact this
/-- A row, and one that may have grown out of it. -/
def Twin (w : World) (v : Value) (l : List UInt8) (g : Value) (m : List UInt8) : Prop :=
  Row w v l ∧ Row w g m ∧ ∀ b, v.ownBlock = some b → g.ownBlock = some b → l <+: m
theorem Twin.refl {w : World} {v : Value} {l : List UInt8} (h : Row w v l) : Twin w v l v l := ⟨h, h, fun _ _ _ => List.prefix_refl _⟩
theorem Twin.keep {G : Nat → Prop} {w w' : World} {v g : Value} {l m : List UInt8} (h : Twin w v l g m) (k : Keep G w w') (hb : ∀ b, v.ownBlock = some b ∨ g.ownBlock = some b → G b) : Twin w' v l g m :=
  ⟨h.1.keep k fun b e => hb b (.inl e), h.2.1.keep k fun b e => hb b (.inr e), h.2.2⟩
/-- The younger one grows. -/
theorem Twin.grow {w w' : World} {v g g' : Value} {l m xs : List UInt8} (h : Twin w v l g m) (ho : w'.ownsRow 0 5 1 g' (m.length + xs.length) (m.map u8v ++ xs.map u8v)) (hg : w.grownBy w' g.ownBlock) (hl : Lain w w' g g' m.length xs.length) :
    Twin w' v l g' (m ++ xs) := by
  have hr : Row w' g' (m ++ xs) := by simpa [Row] using ho
  rcases hl with ⟨hn, hb⟩ | ⟨b, cap, rfl, rfl⟩
  · refine ⟨World.ownsRow.kept h.1 hn ?_, hr, fun b e1 e2 => ?_⟩
    · cases v.ownBlock <;> simp
    · rw [hb] at e2
      cases e2
      exact absurd (h.1.lt e1) (Nat.lt_irrefl _)
  · by_cases hv : v.ownBlock = some b
    · have hpre := h.2.2 b hv rfl
      refine ⟨?_, hr, fun _ _ _ => hpre.trans (List.prefix_append _ _)⟩
      rcases h.1.2 with ⟨rfl, -⟩ | ⟨b1, c1, cur1, rfl, -, hh1, hn1, hc1, hs1, ht1⟩
      · cases hv
      · simp only [Value.ownBlock, Option.some.injEq] at hv
        subst hv
        rcases h.2.1.2 with ⟨h0, -⟩ | ⟨b2, c2, cur2, e2, -, hh2, hn2, hc2, hs2, ht2⟩
        · cases h0
        · cases e2
          rw [hh1] at hh2
          cases hh2
          rcases hr.2 with ⟨h0, -⟩ | ⟨b3, c3, cur3, e3, -, hh3, hn3, hc3, hs3, ht3⟩
          · cases h0
          · simp only [Value.slice.injEq, Option.some.injEq, Addr.mk.injEq, and_true] at e3
            obtain ⟨rfl, -, rfl⟩ := e3
            refine ⟨h.1.1, .inr ⟨_, c1, cur3, rfl, Nat.zero_le _, hh3, hn1, hc1, by omega, ?_⟩⟩
            have e4 : cur3.toList.take (l.length * 1) = (cur3.toList.take ((m ++ xs).length * 1)).take (l.length * 1) := by
              rw [List.take_take, Nat.min_eq_left]
              have := hpre.length_le
              simp only [List.length_append]
              omega
            rw [e4, ht3, ← List.map_take, Nat.mul_one]
            obtain ⟨s, rfl⟩ := hpre
            simp
    · refine ⟨World.ownsRow.kept h.1 hg (.inr (fun e => hv (by rw [e]; rfl))), hr, fun b' e1 e2 => ?_⟩
      simp only [Value.ownBlock, Option.some.injEq] at e2
      subst e2
      exact absurd e1 hv
end Go.Proofs.YtddmbdigdnmfgaaGreatDoor

/- Two rows of bytes, and what has grown out of them: no block in common. -/
namespace Go.Proofs.YtddmbdigdnmfgaaGreatDoor
open Go.RowKit
set_option maxHeartbeats 400000
set_option maxRecDepth 100000

def upd {α : Type} (f : Nat → α) (i : Nat) (x : α) : Nat → α := fun r => if r = i then x else f r
theorem upd_same {α : Type} (f : Nat → α) (i : Nat) (x : α) : upd f i x i = x := if_pos rfl
theorem upd_ne {α : Type} (f : Nat → α) {i r : Nat} (x : α) (h : r ≠ i) : upd f i x r = f r := if_neg h
/-- The two cells of a row of rows. -/
def two (c : Nat → Value) : List Value := [c 0, c 1]
theorem two_get (c : Nat → Value) {k : Nat} (hk : k < 2) : (two c)[k]? = some (c k) := by
  rcases k with _ | _ | k
  · rfl
  · rfl
  · omega
theorem two_set (c : Nat → Value) {k : Nat} (hk : k < 2) (x : Value) : (two c).set k x = two (upd c k x) := by
  rcases k with _ | _ | k
  · rfl
  · rfl
  · omega
theorem two_like {c d : Nat → Value} (h : ∀ r, r < 2 → c r = d r) : two c = two d := by
  unfold two
  rw [h 0 (by decide), h 1 (by decide)]
def Has (v g : Nat → Value) (r b : Nat) : Prop := (v r).ownBlock = some b ∨ (g r).ownBlock = some b
def Free (v : Nat → Value) (b : Nat) : Prop := ∀ r, r < 2 → (v r).ownBlock ≠ some b
structure St (w0 w : World) (v : Nat → Value) (xs : Nat → List UInt8) (g : Nat → Value) (ys : Nat → List UInt8) (Z : Nat → Prop) : Prop where
  twin : ∀ r, r < 2 → Twin w (v r) (xs r) (g r) (ys r)
  far : ∀ r s, r < 2 → s < 2 → r ≠ s → ∀ b, Has v g r b → ¬ Has v g s b
  out : ∀ r, r < 2 → ∀ b, Has v g r b → ¬ Z b
  new : ∀ r, r < 2 → ∀ b, (g r).ownBlock = some b → (v r).ownBlock = some b ∨ w0.heap.size ≤ b
  keep : Keep (Free v) w0 w
  zlt : ∀ b, Z b → b < w.heap.size
  znew : ∀ b, Z b → w0.heap.size ≤ b
section
variable {w0 w w' : World} {v g : Nat → Value} {xs ys : Nat → List UInt8} {Z : Nat → Prop}
theorem Twin.has_lt {v g : Value} {l m : List UInt8} (h : Twin w v l g m) {b : Nat} (hb : v.ownBlock = some b ∨ g.ownBlock = some b) : b < w.heap.size :=
  hb.elim (fun e => h.1.lt e) (fun e => h.2.1.lt e)
theorem St.has_lt (h : St w0 w v xs g ys Z) {r b : Nat} (hr : r < 2) (hb : Has v g r b) : b < w.heap.size := (h.twin r hr).has_lt hb
theorem St.free_not (h : St w0 w v xs g ys Z) {r b : Nat} (hr : r < 2) (hb : (g r).ownBlock = some b) : w0.heap.size ≤ b ∨ ¬ Free v b :=
  (h.new r hr b hb).elim (fun e => .inr fun hf => hf r hr e) .inl
theorem St.all (h : St w0 w v xs g ys Z) (k : Keep All w w') : St w0 w' v xs g ys Z :=
  ⟨fun r hr => (h.twin r hr).keep k fun _ _ => trivial, h.far, h.out, h.new, h.keep.trans k.all, fun b hb => Nat.lt_of_lt_of_le (h.zlt b hb) k.size, h.znew⟩
/-- A block besides. -/
theorem St.beside (h : St w0 w v xs g ys Z) (o : Obj) : St w0 (w.alloc o) v xs g ys (fun b => b = w.heap.size) := by
  have h2 := h.all ((Keep.refl All w).alloc o)
  exact ⟨h2.twin, h2.far, fun r hr b hb e => absurd (h.has_lt hr hb) (by omega), h2.new, h2.keep, fun b e => by simp; omega, fun b e => by have := h.keep.size; omega⟩
/-- Only what lies besides is written. -/
theorem St.aside (h : St w0 w v xs g ys Z) (k : Keep (fun b => ¬ Z b) w w') : St w0 w' v xs g ys Z :=
  ⟨fun r hr => (h.twin r hr).keep k fun b hb => h.out r hr b hb, h.far, h.out, h.new, h.keep.then_ k fun b hb _ hz => absurd (h.znew b hz) (by omega), fun b hb => Nat.lt_of_lt_of_le (h.zlt b hb) k.size, h.znew⟩
theorem St.reset (h : St w0 w v xs g ys Z) (i : Nat) : St w0 w v xs (upd g i (v i)) (upd ys i (xs i)) Z := by
  have hh : ∀ r b, Has v (upd g i (v i)) r b → Has v g r b := fun r b hb => by
    by_cases hr : r = i
    · subst hr
      rcases hb with e | e
      · exact .inl e
      · rw [upd_same] at e; exact .inl e
    · rcases hb with e | e
      · exact .inl e
      · rw [upd_ne _ _ hr] at e; exact .inr e
  refine ⟨fun r hr => ?_, fun r s hr hs hn b h1 h2 => h.far r s hr hs hn b (hh r b h1) (hh s b h2), fun r hr b hb => h.out r hr b (hh r b hb), fun r hr b hb => ?_, h.keep, h.zlt, h.znew⟩
  · by_cases hri : r = i
    · subst hri; rw [upd_same, upd_same]; exact Twin.refl (h.twin r hr).1
    · rw [upd_ne _ _ hri, upd_ne _ _ hri]; exact h.twin r hr
  · by_cases hri : r = i
    · subst hri; rw [upd_same] at hb; exact .inl hb
    · rw [upd_ne _ _ hri] at hb; exact h.new r hr b hb
theorem St.like {xs' : Nat → List UInt8} (h : St w0 w v xs v xs Z) (he : ∀ r, r < 2 → xs r = xs' r) : St w0 w v xs' v xs' Z :=
  ⟨fun r hr => he r hr ▸ h.twin r hr, h.far, h.out, h.new, h.keep, h.zlt, h.znew⟩
theorem St.like2 {ys' : Nat → List UInt8} (h : St w0 w v xs g ys Z) (he : ∀ r, r < 2 → ys r = ys' r) : St w0 w v xs g ys' Z :=
  ⟨fun r hr => he r hr ▸ h.twin r hr, h.far, h.out, h.new, h.keep, h.zlt, h.znew⟩
/-- A row grows. -/
theorem St.grow {i : Nat} {g' : Value} {news : List UInt8} (h : St w0 w v xs g ys Z) (hi : i < 2) (ho : w'.ownsRow 0 5 1 g' ((ys i).length + news.length) ((ys i).map u8v ++ news.map u8v)) (hg : w.grownBy w' (g i).ownBlock) (hl : Lain w w' (g i) g' (ys i).length news.length) :
    St w0 w' v xs (upd g i g') (upd ys i (ys i ++ news)) Z ∧ Keep Z w w' := by
  have kp : Keep (fun b => (g i).ownBlock ≠ some b) w w' := (Keep.refl _ _).grown hg fun k hk => .inr fun hn => hn hk
  have hb' : ∀ b, g'.ownBlock = some b → (g i).ownBlock = some b ∨ b = w.heap.size := by
    rcases hl with ⟨-, e⟩ | ⟨b, cap, e1, e2⟩
    · intro b hb; rw [e] at hb; cases hb; exact .inr rfl
    · intro b' hb; rw [e2] at hb; rw [e1]; exact .inl hb
  have hh : ∀ r b, Has v (upd g i g') r b → Has v g r b ∨ (r = i ∧ b = w.heap.size) := fun r b hb => by
    rcases hb with e | e
    · exact .inl (.inl e)
    · by_cases hr : r = i
      · subst hr
        rw [upd_same] at e
        exact (hb' b e).elim (fun e => .inl (.inr e)) fun e => .inr ⟨rfl, e⟩
      · rw [upd_ne _ _ hr] at e; exact .inl (.inr e)
  refine ⟨⟨fun r hr => ?_, fun r s hr hs hn b h1 h2 => ?_, fun r hr b hb hz => ?_, fun r hr b hb => ?_, h.keep.grown hg fun k hk => h.free_not hi hk, fun b hb => Nat.lt_of_lt_of_le (h.zlt b hb) kp.size, h.znew⟩, kp.mono fun b hz e => h.out i hi b (.inr e) hz⟩
  · by_cases hri : r = i
    · subst hri; rw [upd_same, upd_same]; exact (h.twin r hr).grow ho hg hl
    · rw [upd_ne _ _ hri, upd_ne _ _ hri]
      exact (h.twin r hr).keep kp fun b hb e => h.far r i hr hi hri b hb (.inr e)
  · rcases hh r b h1 with a | ⟨rfl, rfl⟩
    · rcases hh s b h2 with c | ⟨rfl, rfl⟩
      · exact h.far r s hr hs hn b a c
      · exact absurd (h.has_lt hr a) (Nat.lt_irrefl _)
    · rcases hh s _ h2 with c | ⟨rfl, -⟩
      · exact absurd (h.has_lt hs c) (Nat.lt_irrefl _)
      · exact hn rfl
  · rcases hh r b hb with a | ⟨rfl, rfl⟩
    · exact h.out r hr b a hz
    · exact absurd (h.zlt _ hz) (Nat.lt_irrefl _)
  · by_cases hri : r = i
    · subst hri
      rw [upd_same] at hb
      rcases hb' b hb with e | e
      · exact h.new r hr b e
      · exact .inr (by have := h.keep.size; omega)
    · rw [upd_ne _ _ hri] at hb; exact h.new r hr b hb
/-- A byte of a row is written. -/
theorem St.set {i b n c : Nat} (h : St w0 w v xs v xs Z) (hi : i < 2) (hv : v i = .slice (some ⟨b, 0, none⟩) n c) (j : Nat) (x : UInt8) :
    St w0 (w.setCell ⟨b, j, none⟩ (.int .u8 (x.toNat : Int))) v (upd xs i ((xs i).set j x)) v (upd xs i ((xs i).set j x)) Z := by
  have hb : (v i).ownBlock = some b := by rw [hv]; rfl
  have kp : Keep (fun k => k ≠ b) w (w.setCell ⟨b, j, none⟩ (.int .u8 (x.toNat : Int))) := (Keep.refl _ _).setCell (.inr (by simp)) _
  refine ⟨fun r hr => ?_, h.far, h.out, h.new, h.keep.then_ kp fun k _ hf e => hf i hi (by rw [e]; exact hb), fun k hk => by simpa using h.zlt k hk, h.znew⟩
  by_cases hri : r = i
  · subst hri
    rw [upd_same]
    refine Twin.refl ?_
    have := (h.twin r hr).1
    rw [hv] at this ⊢
    exact this.set j x
  · rw [upd_ne _ _ hri]
    exact (h.twin r hr).keep kp fun k hk e => h.far r i hr hi hri k hk (.inl (by rw [e]; exact hb))
end
end Go.Proofs.YtddmbdigdnmfgaaGreatDoor
