/- Walks of this seat, packed. -/
import Derived.Test.YtddmbdigdnmfgaaGreatDoorQPut
namespace Go.Proofs.YtddmbdigdnmfgaaGreatDoor
open Go.RowKit
set_option maxHeartbeats 400000
set_option maxRecDepth 100000

/-! ### What operations bytes tell -/
/-- A number, up to a bound: what is left, the error. -/
def numRes (rest : List UInt8) (wrong most : Int) : Nat × List UInt8 × Int :=
  if numGood (numScan 0 0 rest) most = true then ((numScan 0 0 rest).1, rest.drop (numScan 0 0 rest).2, wrong) else (0, [], broken wrong 4)
theorem NumPost.res {w w' : World} {b : Nat} {rest : List UInt8} {wrong most : Int} {e : Ending} (h : NumPost w b rest wrong most e w') :
    e = .returned (.int .i64 (numRes rest wrong most).1) ∧ Cur w' b (numRes rest wrong most).2.1 (numRes rest wrong most).2.2 ∧ Keep (fun i => i ≠ b) w w' := by
  obtain ⟨h1, h2⟩ := h
  unfold numRes
  split at h1
  · rename_i hg
    rw [if_pos hg]
    exact ⟨h1.1, h1.2, h2⟩
  · rename_i hg
    rw [if_neg hg]
    exact ⟨h1.1, h1.2, h2⟩
theorem numRes_small {rest : List UInt8} {wrong most : Int} : (numRes rest wrong most).2.1.length ≤ rest.length := by
  unfold numRes
  split
  · simp
  · simp
theorem numRes_le (rest : List UInt8) (wrong : Int) (most : Nat) : (numRes rest wrong most).1 ≤ most := by
  unfold numRes
  split
  · rename_i h
    have := ((numGood_iff _ _).1 h).2.2.2.2
    simp only
    omega
  · simp
theorem NumPost.res20 {w w' : World} {b : Nat} {rest : List UInt8} {wrong : Int} {most : Nat} {e : Ending} (h : NumPost w b rest wrong most e w') :
    ∃ a, Fact (a = numRes rest wrong most) ∧ e = .returned (.int .i64 a.1) ∧ a.1 ≤ most ∧ Cur w' b a.2.1 a.2.2 ∧ Keep (fun i => i ≠ b) w w' ∧ a.2.1.length ≤ rest.length := by
  obtain ⟨h1, h2, h3⟩ := h.res
  exact ⟨_, ⟨rfl⟩, h1, numRes_le rest wrong most, h2, h3, numRes_small⟩
/-- A text: what is left, the error. -/
def textRes (rest : List UInt8) (most : Int) : List UInt8 × List UInt8 × Int := match textGet rest most with | .ok t r => (t, r, 0) | .bad e => ([], [], e)
theorem textGet_small {rest l r : List UInt8} {most : Int} (h : textGet rest most = .ok l r) : r.length ≤ rest.length ∧ l.length ≤ rest.length := by
  unfold textGet at h
  simp only at h
  split at h
  · split at h
    · cases h
    · split at h
      · cases h; simp only [List.length_drop, List.length_take]; omega
      · cases h
  · cases h
theorem textRes_small (rest : List UInt8) (most : Int) : (textRes rest most).1.length ≤ rest.length ∧ (textRes rest most).2.1.length ≤ rest.length := by
  unfold textRes
  split
  · rename_i h; have := textGet_small h; exact ⟨this.2, this.1⟩
  · simp
theorem TextPost.res {w w' : World} {b : Nat} {rest : List UInt8} {most : Int} {e : Ending} (h : TextPost w b rest most e w') :
    ∃ a A c, Fact (a = textRes rest most) ∧ e = .returned (.slice A a.1.length c) ∧ By w' (fun i => w.heap.size ≤ i) (.slice A a.1.length c) a.1 ∧ Cur w' b a.2.1 a.2.2 ∧ Keep (fun i => i ≠ b) w w' ∧ a.1.length ≤ rest.length ∧ a.2.1.length ≤ rest.length := by
  obtain ⟨h1, h2⟩ := h
  have hs := textRes_small rest most
  unfold textRes at *
  split at h1
  · rename_i t r ht
    rw [ht] at hs
    obtain ⟨A, c, h3, h4, h5⟩ := h1
    exact ⟨(t, r, 0), A, c, ⟨by rw [ht]⟩, h3, h4, h5, h2, hs⟩
  · rename_i x ht
    rw [ht] at hs
    exact ⟨([], [], x), none, 0, ⟨by rw [ht]⟩, h1.1, By.nil _ _, h1.2, h2, hs⟩
/-- A kind, and a text where it has one: what is left, the error. -/
def readHead (rest : List UInt8) : Nat × List UInt8 × List UInt8 × Int :=
  if hasText ((numRes rest 0 20).1 : Int) = true then ((numRes rest 0 20).1, textRes (numRes rest 0 20).2.1 1000)
  else ((numRes rest 0 20).1, [], (numRes rest 0 20).2.1, (numRes rest 0 20).2.2)
theorem numRes_wrong {rest : List UInt8} {most : Int} (h : hasText ((numRes rest 0 most).1 : Int) = true) : (numRes rest 0 most).2.2 = 0 := by
  unfold numRes at *
  split at h
  · rename_i hg; rw [if_pos hg]
  · simp [hasText] at h
def readNum (rest : List UInt8) (wrong : Int) : Nat × List UInt8 × Int := numRes rest wrong 4096
def readNums (q : Nat) (rest : List UInt8) (wrong : Int) : Nat × Nat × List UInt8 × Int :=
  if q = 0 then (0, 0, rest, wrong)
  else if q = 1 then ((readNum rest wrong).1, 0, (readNum rest wrong).2.1, (readNum rest wrong).2.2)
  else ((readNum rest wrong).1, (readNum (readNum rest wrong).2.1 (readNum rest wrong).2.2).1, (readNum (readNum rest wrong).2.1 (readNum rest wrong).2.2).2.1, (readNum (readNum rest wrong).2.1 (readNum rest wrong).2.2).2.2)
def readOp (rest : List UInt8) : POp × List UInt8 × Int :=
  let a := readHead rest
  let b := readNums (numbersOf a.1) a.2.2.1 a.2.2.2
  (⟨a.1, b.1, b.2.1, a.2.1⟩, b.2.2.1, b.2.2.2)
def readAll : Nat → List UInt8 → Int → List POp × Int
  | 0, _, wrong => ([], wrong)
  | n + 1, rest, wrong => if rest.length = 0 then ([], wrong) else ((readOp rest).1 :: (readAll n (readOp rest).2.1 (readOp rest).2.2).1, (readAll n (readOp rest).2.1 (readOp rest).2.2).2)
inductive Ops? where
  | ok (l : List POp)
  | bad (e : Int)
def getOps (b : List UInt8) : Ops? :=
  if b.length > 1000 then .bad 3 else
  if (readAll b.length b 0).2 = 0 ∧ (readAll b.length b 0).1.all opRight = true then .ok (readAll b.length b 0).1 else .bad 4

theorem own_keep {G : Nat → Prop} {w w' : World} {base : Nat} {e : TypeId} {sz n : Nat} {v : Value} {xs : List Value} (h : w.ownsRow base e sz v n xs) (k : Keep G w w') (hg : ∀ g, v.ownBlock = some g → G g) : w'.ownsRow base e sz v n xs := by
  refine ⟨h.1, ?_⟩
  rcases h.2 with h2 | ⟨g, cap, cur, hv, hb, hh, r⟩
  · exact .inl h2
  · exact .inr ⟨g, cap, cur, hv, hb, k.heap (hg g (by rw [hv]; rfl)) hh, r⟩

/-- An operation's cells, its text with room. -/
def OpRepR (w : World) (G : Nat → Prop) (o : POp) (c : List Value) : Prop := ∃ v, c = [.int .i64 o.kind, .int .i64 o.n, .int .i64 o.m, v] ∧ ByR w G v o.text
theorem OpRepR.plain {w : World} {G : Nat → Prop} {o : POp} {c : List Value} (h : OpRepR w G o c) : OpRep w G o c := by
  obtain ⟨v, e, hb⟩ := h; exact ⟨v, e, hb.1⟩
theorem OpRepR.one {w : World} {G : Nat → Prop} (o : POp) (c : List Value) (h : OpRepR w G o c) : ∀ u ∈ c, u.oneCell' = true := OpRep.one o c h.plain
theorem OpRepR.len {w : World} {G : Nat → Prop} (o : POp) (c : List Value) (h : OpRepR w G o c) : c.length = 4 := OpRep.len o c h.plain
/-- Where the texts of what has been gathered lie. -/
def Tx (bc : Nat) (v : Value) (S : Nat → Prop) : Nat → Prop := fun i => bc < i ∧ v.ownBlock ≠ some i ∧ S i
/-- Amid Get: the cursor at bc, the row v of what has been got. -/
structure InGet (w wx : World) (bc : Nat) (rest : List UInt8) (wrong : Int) (v : Value) (l : List POp) (S : Nat → Prop) : Prop where
  cur : Cur wx bc rest wrong
  keep : Keep All w wx
  base : w.heap.size ≤ bc
  small : rest.length ≤ 1000
  row : ∃ xs, wx.ownsRow (bc + 1) 25 4 v l.length xs ∧ Reps (OpRepR wx (Tx bc v S)) l xs
section
variable {w wx w2 : World} {bc : Nat} {rest rest' : List UInt8} {wrong wrong' : Int} {v : Value} {l : List POp} {S : Nat → Prop}
theorem OpRep.keep {G : Nat → Prop} {w w' : World} {o : POp} {c : List Value} (h : OpRep w G o c) (k : Keep G w w') : OpRep w' G o c := by
  obtain ⟨v, e, hb⟩ := h; exact ⟨v, e, hb.keep k⟩
theorem OpRep.mono {G H : Nat → Prop} {w : World} {o : POp} {c : List Value} (h : OpRep w G o c) (hi : ∀ i, i < w.heap.size → G i → H i) : OpRep w H o c := by
  obtain ⟨v, e, hb⟩ := h; exact ⟨v, e, hb.mono hi⟩
theorem OpRepR.keep {G : Nat → Prop} {w w' : World} {o : POp} {c : List Value} (h : OpRepR w G o c) (k : Keep G w w') : OpRepR w' G o c := by
  obtain ⟨v, e, hb⟩ := h; exact ⟨v, e, hb.keep k⟩
theorem OpRepR.mono {G H : Nat → Prop} {w : World} {o : POp} {c : List Value} (h : OpRepR w G o c) (hi : ∀ i, i < w.heap.size → G i → H i) : OpRepR w H o c := by
  obtain ⟨v, e, hb⟩ := h; exact ⟨v, e, hb.mono hi⟩
theorem InGet.own_ne (h : InGet w wx bc rest wrong v l S) (g : Nat) (hg : v.ownBlock = some g) : bc < g ∧ g < wx.heap.size := by
  obtain ⟨xs, h1, _⟩ := h.row
  have := h1.lt g hg
  omega
/-- The cursor has been turned. -/
theorem InGet.step (h : InGet w wx bc rest wrong v l S) (k : Keep (fun i => i ≠ bc) wx w2) (hc : Cur w2 bc rest' wrong') (hs : rest'.length ≤ 1000) : InGet w w2 bc rest' wrong' v l S := by
  obtain ⟨xs, h1, h2⟩ := h.row
  refine ⟨hc, h.keep.then_ k fun i hi _ => ?_, h.base, hs, xs, own_keep h1 k fun g hg => ?_, h2.mono fun x c _ hx => hx.keep (k.mono fun i hi => ?_)⟩
  · have := h.base; omega
  · have := h.own_ne g hg; omega
  · have := hi.1; omega
theorem InGet.all (h : InGet w wx bc rest wrong v l S) (k : Keep All wx w2) : InGet w w2 bc rest wrong v l S := by
  obtain ⟨xs, h1, h2⟩ := h.row
  exact ⟨h.cur.keep k, h.keep.trans k, h.base, h.small, xs, own_keep h1 k fun _ _ => trivial, h2.mono fun x c _ hx => hx.keep k.all⟩
theorem InGet.alloc (h : InGet w wx bc rest wrong v l S) (o : Obj) : InGet w (wx.alloc o) bc rest wrong v l S := h.all ((Keep.refl _ _).alloc o)
/-- What lies from here on is none of it. -/
theorem InGet.fresh (h : InGet w wx bc rest wrong v l S) : InGet w wx bc rest wrong v l (fun i => S i ∧ i < wx.heap.size) := by
  obtain ⟨xs, h1, h2⟩ := h.row
  exact ⟨h.cur, h.keep, h.base, h.small, xs, h1, h2.mono fun x c _ hx => hx.mono fun i hi hg => ⟨hg.1, hg.2.1, hg.2.2, hi⟩⟩
theorem InGet.wide {S' : Nat → Prop} (h : InGet w wx bc rest wrong v l S) (hi : ∀ i, S i → S' i) : InGet w wx bc rest wrong v l S' := by
  obtain ⟨xs, h1, h2⟩ := h.row
  exact ⟨h.cur, h.keep, h.base, h.small, xs, h1, h2.mono fun x c _ hx => hx.mono fun i _ hg => ⟨hg.1, hg.2.1, hi i hg.2.2⟩⟩
end
/-- The operation's own variable at bt. -/
structure InT (wx : World) (bc bt : Nat) (v : Value) (k n m : Nat) (vt : Value) (t : List UInt8) : Prop where
  blk : Blk wx bt [.int .i64 k, .int .i64 n, .int .i64 m, vt] 25
  gt : bc < bt
  row : ∀ g, v.ownBlock = some g → g < bt
  txt : ByR wx (fun i => bt < i) vt t
section
variable {w wx w2 : World} {bc bt : Nat} {rest rest' : List UInt8} {wrong wrong' : Int} {v vt : Value} {l : List POp} {k n m : Nat} {t : List UInt8}
theorem InT.step (h : InT wx bc bt v k n m vt t) (kp : Keep (fun i => i ≠ bc) wx w2) : InT w2 bc bt v k n m vt t :=
  ⟨h.blk.keep kp (by have := h.gt; omega), h.gt, h.row, h.txt.keep (kp.mono fun i hi => by have := h.gt; omega)⟩
theorem InT.all (h : InT wx bc bt v k n m vt t) (kp : Keep All wx w2) : InT w2 bc bt v k n m vt t :=
  ⟨h.blk.keep kp trivial, h.gt, h.row, h.txt.keep kp.all⟩
theorem InT.alloc (h : InT wx bc bt v k n m vt t) (o : Obj) : InT (wx.alloc o) bc bt v k n m vt t := h.all ((Keep.refl _ _).alloc o)
theorem InT.set3 {vt' : Value} {t' : List UInt8} (h : InT wx bc bt v k n m vt t) (hb : ByR wx (fun i => bt < i) vt' t') : InT (wx.setCell ⟨bt, 3, none⟩ vt') bc bt v k n m vt' t' :=
  ⟨h.blk.set 3 _, h.gt, h.row, hb.keep ((Keep.refl _ _).setCell (.inr (by simp)) _)⟩
theorem InT.set1 (h : InT wx bc bt v k n m vt t) (x : Nat) : InT (wx.setCell ⟨bt, 1, none⟩ (.int .i64 x)) bc bt v k x m vt t :=
  ⟨h.blk.set 1 _, h.gt, h.row, h.txt.keep ((Keep.refl _ _).setCell (.inr (by simp)) _)⟩
theorem InT.set2 (h : InT wx bc bt v k n m vt t) (x : Nat) : InT (wx.setCell ⟨bt, 2, none⟩ (.int .i64 x)) bc bt v k n x vt t :=
  ⟨h.blk.set 2 _, h.gt, h.row, h.txt.keep ((Keep.refl _ _).setCell (.inr (by simp)) _)⟩
theorem InGet.set (h : InGet w wx bc rest wrong v l (fun i => i < bt)) (hT : InT wx bc bt v k n m vt t) (j : Nat) (u : Value) : InGet w (wx.setCell ⟨bt, j, none⟩ u) bc rest wrong v l (fun i => i < bt) := by
  have kp : Keep (fun i => i ≠ bt) wx (wx.setCell ⟨bt, j, none⟩ u) := (Keep.refl _ _).setCell (.inr (by simp)) _
  obtain ⟨xs, h1, h2⟩ := h.row
  have hbase := h.base
  have hgt := hT.gt
  refine ⟨?_, h.keep.then_ kp fun i hi _ => by omega, h.base, h.small, xs, own_keep h1 kp fun g hg => ?_, h2.mono fun x c _ hx => hx.keep (kp.mono fun i hi => ?_)⟩
  · obtain ⟨v0, c1, c2⟩ := h.cur
    exact ⟨v0, c1.keep kp (by omega), c2.keep (kp.mono fun i hi => by omega)⟩
  · have := hT.row g hg; omega
  · have := hi.2.2; omega
end

theorem InGet.push {w wx w3 : World} {bc bt : Nat} {rest : List UInt8} {wrong : Int} {v v' vt : Value} {l : List POp} {k n m : Nat} {t : List UInt8} {xs : List Value} {S : Nat → Prop} {o : Obj}
    (h : InGet w wx bc rest wrong v l S) (it : InT wx bc bt v k n m vt t) (hr : Reps (OpRepR wx (Tx bc v S)) l xs)
    (ho : w3.ownsRow (bc + 1) 25 4 v' (l.length + 1) (xs ++ [.int .i64 k, .int .i64 n, .int .i64 m, vt])) (hg : (wx.alloc o).grownBy w3 v.ownBlock) (hb : v'.ownBlock = v.ownBlock ∨ v'.ownBlock = some (wx.alloc o).heap.size) :
    InGet w w3 bc rest wrong v' (l ++ [⟨k, n, m, t⟩]) (fun _ => True) := by
  have kp : Keep (fun i => v.ownBlock ≠ some i) wx w3 := ((Keep.refl _ _).alloc o).grown hg fun k hk => .inr fun hn => hn hk
  have hne : ∀ i, i ≤ bc → v.ownBlock ≠ some i := fun i hi e => by have := (h.own_ne i e).1; omega
  have hv' : ∀ i, i < wx.heap.size → v.ownBlock ≠ some i → v'.ownBlock ≠ some i := fun i hi hn => by
    rcases hb with e | e
    · rw [e]; exact hn
    · rw [e]; intro e2; cases e2; simp at hi; omega
  obtain ⟨v0, c1, c2⟩ := h.cur
  refine ⟨⟨v0, c1.keep kp (hne bc (Nat.le_refl _)), c2.keep (kp.mono fun i hi => hne i (Nat.le_of_lt hi))⟩, h.keep.then_ kp fun i hi _ => hne i (by have := h.base; omega), h.base, h.small, _, by simpa using ho, Reps.append ?_ (Reps.one ?_)⟩
  · exact hr.mono fun x c _ ⟨u, e, hu⟩ => ⟨u, e, (hu.keep (kp.mono fun i hi => hi.2.1)).mono' hu fun i hi hg => ⟨hg.1, hv' i hi hg.2.1, trivial⟩⟩
  · have hrow : ∀ i, bt < i → v.ownBlock ≠ some i := fun i hi e => by have := it.row i e; omega
    exact ⟨vt, rfl, (it.txt.keep (kp.mono hrow)).mono' it.txt fun i hi hg => ⟨by have := it.gt; omega, hv' i hi (hrow i hg), trivial⟩⟩

theorem readHead_small {rest : List UInt8} (h : rest.length ≤ 1000) : (readHead rest).2.2.1.length ≤ 1000 := by
  have h1 : (numRes rest 0 20).2.1.length ≤ rest.length := numRes_small
  have h2 := (textRes_small (numRes rest 0 20).2.1 1000).2
  unfold readHead
  split
  · show (textRes (numRes rest 0 20).2.1 1000).2.1.length ≤ 1000
    omega
  · show (numRes rest 0 20).2.1.length ≤ 1000
    omega
theorem numRes_less {rest : List UInt8} {wrong most : Int} (h : 0 < rest.length) : (numRes rest wrong most).2.1.length + 1 ≤ rest.length := by
  unfold numRes
  split
  · rename_i hg
    have := ((numGood_iff _ _).1 hg).1
    simp only [List.length_drop]
    omega
  · simp; omega
theorem readNums_small (q : Nat) (rest : List UInt8) (wrong : Int) : (readNums q rest wrong).2.2.1.length ≤ rest.length := by
  have h1 : (readNum rest wrong).2.1.length ≤ rest.length := numRes_small
  have h2 : (readNum (readNum rest wrong).2.1 (readNum rest wrong).2.2).2.1.length ≤ (readNum rest wrong).2.1.length := numRes_small
  unfold readNums
  split
  · exact Nat.le_refl _
  · split
    · exact h1
    · exact Nat.le_trans h2 h1
theorem readOp_less {rest : List UInt8} (h : 0 < rest.length) : (readOp rest).2.1.length + 1 ≤ rest.length := by
  have h1 : (numRes rest 0 20).2.1.length + 1 ≤ rest.length := numRes_less h
  have h2 := (textRes_small (numRes rest 0 20).2.1 1000).2
  have h3 := readNums_small (numbersOf (readHead rest).1) (readHead rest).2.2.1 (readHead rest).2.2.2
  have h4 : (readHead rest).2.2.1.length ≤ (numRes rest 0 20).2.1.length := by
    unfold readHead
    split
    · exact h2
    · exact Nat.le_refl _
  show (readNums (numbersOf (readHead rest).1) (readHead rest).2.2.1 (readHead rest).2.2.2).2.2.1.length + 1 ≤ _
  omega
theorem numRes_ok {rest : List UInt8} {wrong most : Int} (h : 0 < (numRes rest wrong most).2.1.length) : (numRes rest wrong most).2.2 = wrong := by
  unfold numRes at *
  split at h
  · rename_i hg; rw [if_pos hg]
  · simp at h
theorem textRes_ok {rest : List UInt8} {most : Int} (h : 0 < (textRes rest most).2.1.length) : (textRes rest most).2.2 = 0 := by
  unfold textRes at *
  split at h
  · rfl
  · simp at h
theorem readNums_ok {q : Nat} {rest : List UInt8} {wrong : Int} (h : 0 < (readNums q rest wrong).2.2.1.length) : (readNums q rest wrong).2.2.2 = wrong ∧ 0 < rest.length := by
  have h1 : (readNum rest wrong).2.1.length ≤ rest.length := numRes_small
  unfold readNums at *
  split
  · rename_i hq; rw [if_pos hq] at h; exact ⟨rfl, h⟩
  · rename_i hq
    rw [if_neg hq] at h
    split
    · rename_i hq1
      rw [if_pos hq1] at h
      simp only at h
      exact ⟨numRes_ok h, by omega⟩
    · rename_i hq1
      rw [if_neg hq1] at h
      simp only at h
      have h2 : (readNum (readNum rest wrong).2.1 (readNum rest wrong).2.2).2.1.length ≤ (readNum rest wrong).2.1.length := numRes_small
      have h3 : 0 < (readNum rest wrong).2.1.length := by omega
      refine ⟨?_, by omega⟩
      show (readNum (readNum rest wrong).2.1 (readNum rest wrong).2.2).2.2 = wrong
      rw [readNum, numRes_ok h]
      exact numRes_ok h3
theorem readOp_wrong {rest : List UInt8} (h : 0 < (readOp rest).2.1.length) : (readOp rest).2.2 = 0 := by
  have h1 := readNums_ok (q := numbersOf (readHead rest).1) (rest := (readHead rest).2.2.1) (wrong := (readHead rest).2.2.2) h
  show (readNums (numbersOf (readHead rest).1) (readHead rest).2.2.1 (readHead rest).2.2.2).2.2.2 = 0
  rw [h1.1]
  have h2 := h1.2
  unfold readHead at *
  split
  · rename_i ht; rw [if_pos ht] at h2; exact textRes_ok h2
  · rename_i ht; rw [if_neg ht] at h2; exact numRes_ok h2
theorem readAll_nil (n : Nat) (wrong : Int) : readAll n [] wrong = ([], wrong) := by cases n <;> simp [readAll]
theorem readAll_len (n : Nat) : ∀ (rest : List UInt8) (wrong : Int), (readAll n rest wrong).1.length ≤ n := by
  induction n with
  | zero => intro rest wrong; simp [readAll]
  | succ n ih => intro rest wrong; rw [readAll]; split
                 · simp
                 · simpa using ih _ _
theorem T22 : SlTy Tryz.prog 22 25 4 48 := by
  obtain ⟨i, hi, h0, h1, h2⟩ := info_parts (P := Tryz.prog) (e := 25) (z := .agg #[.int .i64 0, .int .i64 0, .int .i64 0, .slice none 0 0]) (size := 4) (bytes := 48) (by kernel_rfl)
  exact ⟨Tryz.underlying22, by decide, i, _, hi, h0, h1, h2, rfl⟩

def GetPost (w : World) (b : List UInt8) (e : Ending) (w' : World) : Prop :=
  (match getOps b with
   | .ok l => ∃ A c, e = .returned (.tuple #[.slice A l.length c, .int .i64 0]) ∧ OpsR w' (fun i => w.heap.size ≤ i) (.slice A l.length c) l
   | .bad x => e = .returned (.tuple #[.slice none 0 0, .int .i64 x])) ∧ Keep All w w'

/-- .. each text with room, none of them in the row's own block. -/
def GetPostR (w : World) (b : List UInt8) (e : Ending) (w' : World) : Prop :=
  (match getOps b with
   | .ok l => ∃ A c xs, e = .returned (.tuple #[.slice A l.length c, .int .i64 0]) ∧ w'.ownsRow w.heap.size 25 4 (.slice A l.length c) l.length xs ∧ Reps (OpRepR w' (fun i => w.heap.size ≤ i ∧ (Value.slice A l.length c).ownBlock ≠ some i)) l xs
   | .bad x => e = .returned (.tuple #[.slice none 0 0, .int .i64 x])) ∧ Keep All w w'
theorem GetPostR.plain {w w' : World} {b : List UInt8} {e : Ending} (h : GetPostR w b e w') : GetPost w b e w' := by
  obtain ⟨h1, h2⟩ := h
  refine ⟨?_, h2⟩
  cases hp : getOps b with
  | ok l =>
    rw [hp] at h1
    obtain ⟨A, c, xs, rfl, h3, h4⟩ := h1
    exact ⟨A, c, rfl, xs, Sl.of_own h3 (h4.all1 OpRepR.one), h4.mono fun x c _ h => h.plain.mono fun i _ hi => hi.1⟩
  | bad x => rw [hp] at h1; exact h1

theorem get13r (w : World) (G : Nat → Prop) (v : Value) (b : List UInt8) (h : By w G v b) (hlen : b.length ≤ 1000) :
    Calls Tryz.prog 13 #[v] w (GetPostR w b) := by
  obtain ⟨A, c, rfl, -⟩ := h.open
  have H := Fact.mk h
  clear h
  have HSM : Small b.length := Small.of (by omega)
  go_enter Tryz.func13, Tryz.ntmps13
  go_upto_block 0 with (go_at_call 44; go_must (refine (over44 _ _ _ _ H.out HSM).mono ?_); rintro e w1 ⟨bc, rfl, hbc, hcur, hk1⟩; have HC := Fact.mk hcur; have HK := Fact.mk hk1; have HB := Fact.mk hbc; clear hcur hk1 hbc)
  go_cut [2] (fun x w' => ∃ l wrong A c, x = .slice A l.length c ∧ InGet w w' bc [] wrong (.slice A l.length c) l (fun _ => True) ∧ readAll b.length b 0 = (l, wrong))
  case first =>
    go_wp2
    go_loopg [2] b.length (fun g x w' => ∃ l rest wrong A c, x = .slice A l.length c ∧ InGet w w' bc rest wrong (.slice A l.length c) l (fun _ => True) ∧ (0 < rest.length → wrong = 0) ∧ rest.length ≤ g ∧ l.length + rest.length ≤ 1000 ∧ readAll b.length b 0 = (l ++ (readAll g rest wrong).1, (readAll g rest wrong).2))
    case atStart => exact ⟨[], b, 0, none, 0, rfl, ⟨HC.out, HK.out, HB.out, hlen, [], World.ownsRow_nil _ _ _ _, rfl⟩, fun _ => rfl, Nat.le_refl _, by simpa using hlen, by simp⟩
    case round =>
      obtain ⟨l, rest, wrong, A2, c2, rfl, hin, hw0, hrg, hlr, hall⟩ := hrel
      have HI := Fact.mk hin
      have HALL := Fact.mk hall
      have HW0 := Fact.mk hw0
      have hcur := Fact.mk hin.cur
      clear hin hall hw0
      by_cases hr : 0 < rest.length
      · have hw := HW0.out hr
        subst hw
        have HSM2 : Small rest.length := Small.of (by have := HI.out.small; omega)
        go_upto_if 22 with (first
          | (go_at_call 45; go_must (refine (left45 _ _ _ _ hcur.out).mono ?_); rintro e w1 ⟨rfl, rfl⟩)
          | (go_at_call 46; go_must (refine (num46 _ _ _ _ _ hcur.out (by decide) HSM2).mono ?_); rintro e w2 hp; obtain ⟨a, HA', rfl, ha20, hc2, hk2, hs2⟩ := hp.res20; have HA : Fact (a = numRes rest 0 20) := ⟨HA'.out⟩; clear HA'; have I2 := Fact.mk (HI.out.step hk2 hc2 (Nat.le_trans hs2 HI.out.small)); clear hp hc2 hk2 hs2)
          | (go_at_call 35; go_must (refine (text35 _ _ ha20).mono ?_); rintro e w' ⟨rfl, rfl⟩))
        have IT0 : Fact (InT (w2.alloc (.cells #[.int .i64 a.1, .int .i64 0, .int .i64 0, .slice none 0 0] 25)) bc w2.heap.size (.slice A2 l.length c2) a.1 0 0 (.slice none 0 0) []) :=
          ⟨⟨Blk.new _ [_, _, _, _] _, I2.out.cur.lt, fun g hg => (I2.out.own_ne g hg).2, ByR.nil _ _⟩⟩
        have I3 := Fact.mk ((I2.out.fresh.alloc (.cells #[.int .i64 a.1, .int .i64 0, .int .i64 0, .slice none 0 0] 25)).wide (S' := fun i => i < w2.heap.size) fun i h => h.2)
        obtain ⟨hd, hhd⟩ : ∃ h, h = readHead rest := ⟨_, rfl⟩
        have HHD := Fact.mk hhd
        clear hhd
        go_cut [] (fun w' => ∃ vt, InT w' bc w2.heap.size (.slice A2 l.length c2) hd.1 0 0 vt hd.2.1 ∧ InGet w w' bc hd.2.2.1 hd.2.2.2 (.slice A2 l.length c2) l (fun i => i < w2.heap.size))
        case first =>
          by_cases htx : hasText (a.1 : Int) = true
          · have HD : Fact (hd = (a.1, textRes a.2.1 1000)) := ⟨by rw [HHD.out, readHead, ← HA.out, if_pos htx]⟩
            have hw2 : a.2.2 = 0 := by rw [HA.out]; exact numRes_wrong (by rw [← HA.out]; exact htx)
            have C3 := Fact.mk (hw2 ▸ I3.out.cur)
            have HSM3 : Small a.2.1.length := Small.of (by have := I2.out.small; omega)
            clear hw2
            rw [htx]
            go_wp2_with (first
              | (go_at_call 48; go_must (refine (text48 _ _ _ _ C3.out HSM3).mono ?_); rintro e w3 hp; obtain ⟨d, Ad, cd, HDD, rfl, hby, hc3, hk3, hs3, hs4⟩ := hp.res; have I4 := Fact.mk (I3.out.step hk3 hc3 (Nat.le_trans hs4 I3.out.small)); have IT1 := Fact.mk (IT0.out.step hk3); have HBY := Fact.mk hby; have HS3 := Fact.mk hs3; clear hp hby hc3 hk3 hs3 hs4)
              | (go_at_call 47; go_must (refine (clone47o _ _ _ _ HBY.out (Small.mono HSM3 HS3.out)).mono ?_); rintro e w4 ⟨Ae, ce, rfl, h4, hk4⟩; have I5 := Fact.mk (I4.out.all hk4); have IT2 := Fact.mk (IT1.out.all hk4); have HB4 := Fact.mk (ByR.of_own h4); have q3 := IT2.out.blk.cell 3 _ rfl; have f3 := IT2.out.blk.free 3; clear h4 hk4))
            go_meet
            case rel => exact ⟨_, by rw [HD.out, ← HDD.out]; exact IT2.out.set3 (HB4.out.mono fun i _ h => Nat.lt_of_lt_of_le IT1.out.blk.lt h), by rw [HD.out, ← HDD.out]; exact I5.out.set IT2.out 3 _⟩
          · have HD : Fact (hd = (a.1, [], a.2.1, a.2.2)) := ⟨by rw [HHD.out, readHead, ← HA.out, if_neg htx]⟩
            have hf : hasText (a.1 : Int) = false := by simpa using htx
            rw [hf]
            go_wp2
            go_meet
            case rel => exact ⟨_, by rw [HD.out]; exact IT0.out, by rw [HD.out]; exact I3.out⟩
        case rest =>
          obtain ⟨vt, it, ig⟩ := hcut
          obtain ⟨At, ct, rfl, -⟩ := it.txt.open
          have IT := Fact.mk it
          have IG := Fact.mk ig
          have t0 := it.blk.cell 0 _ rfl
          obtain ⟨q, hq⟩ : ∃ q, q = numbersOf (hd.1 : Int) := ⟨_, rfl⟩
          have HQ := Fact.mk hq
          clear it ig hq
          go_upto_block 2 with (fail)
          go_cut [] (fun w' => ∃ n m rest' wrong', InT w' bc w2.heap.size (.slice A2 l.length c2) hd.1 n m (.slice At hd.2.1.length ct) hd.2.1 ∧ InGet w w' bc rest' wrong' (.slice A2 l.length c2) l (fun i => i < w2.heap.size) ∧ readNums q hd.2.2.1 hd.2.2.2 = (n, m, rest', wrong'))
          case first =>
            have ip : Blk (wc.alloc (.cells #[.pointer (some ⟨w2.heap.size, 1, none⟩), .pointer (some ⟨w2.heap.size, 2, none⟩)] 94)) wc.heap.size [.pointer (some ⟨w2.heap.size, 1, none⟩), .pointer (some ⟨w2.heap.size, 2, none⟩)] 94 := Blk.new _ _ _
            have p0 := ip.cell 0 _ rfl
            have p1 := ip.cell 1 _ rfl
            have IP := Fact.mk ip
            have IT1 := Fact.mk (IT.out.alloc (.cells #[.pointer (some ⟨w2.heap.size, 1, none⟩), .pointer (some ⟨w2.heap.size, 2, none⟩)] 94))
            have IG1 := Fact.mk (IG.out.alloc (.cells #[.pointer (some ⟨w2.heap.size, 1, none⟩), .pointer (some ⟨w2.heap.size, 2, none⟩)] 94))
            have c1 := IT1.out.blk.cell 0 _ rfl
            have HSM4 : Small hd.2.2.1.length := Small.of (by have := IG.out.small; omega)
            have hltP := Fact.mk IT.out.blk.lt
            have hgtP := Fact.mk IT.out.gt
            clear ip
            have hq3 := numbersOf_le (hd.1 : Int)
            rw [← HQ.out] at hq3
            rcases hq3 with rfl | rfl | rfl
            · go_wp2
              refine wp_loop_rounds 3 ?_
              rw [rounds_succ]
              go_wp2_with (go_at_call 37; go_must (refine (numbers37 _ _).mono ?_); rintro e w' ⟨rfl, rfl⟩; rw [← HQ.out])
              rw [rounds_succ]
              go_wp2_with (go_at_call 37; go_must (refine (numbers37 _ _).mono ?_); rintro e w' ⟨rfl, rfl⟩; rw [← HQ.out])
              rw [rounds_succ]
              go_wp2
              go_meet
              case rel => exact ⟨0, 0, _, _, IT1.out, IG1.out, rfl⟩
            · go_wp2
              refine wp_loop_rounds 3 ?_
              rw [rounds_succ]
              go_wp2_with (first
                | (go_at_call 37; go_must (refine (numbers37 _ _).mono ?_); rintro e w' ⟨rfl, rfl⟩; rw [← HQ.out])
                | (go_at_call 46; go_must (refine (num46 _ _ _ _ _ IG1.out.cur (by decide) HSM4).mono ?_); rintro e w3 hp; obtain ⟨d, HD', rfl, hd4, hc3, hk3, hs3⟩ := hp.res20 (most := 4096); have HD1 : Fact (d = readNum hd.2.2.1 hd.2.2.2) := ⟨HD'.out⟩; have IT2 := Fact.mk (IT1.out.step hk3); have IG2 := Fact.mk (IG1.out.step hk3 hc3 (Nat.le_trans hs3 IG1.out.small)); have IP1 := Fact.mk (IP.out.keep hk3 (by have := hltP.out; have := hgtP.out; omega)); have n1 := IT2.out.blk.cell 1 _ rfl; have m1 := IT2.out.blk.free 1; clear hp hc3 hk3 hs3 HD'))
              have IT3 := Fact.mk (IT2.out.set1 d.1)
              have IG3 := Fact.mk (IG2.out.set IT2.out 1 (.int .i64 d.1))
              have IP2 := Fact.mk (IP1.out.other ⟨w2.heap.size, 1, none⟩ (by have := hltP.out; simp; omega) (.int .i64 d.1))
              have r1 := IP2.out.cell 1 _ rfl
              have r2 := IT3.out.blk.cell 0 _ rfl
              rw [rounds_succ]
              go_wp2_with (go_at_call 37; go_must (refine (numbers37 _ _).mono ?_); rintro e w' ⟨rfl, rfl⟩; rw [← HQ.out])
              rw [rounds_succ]
              go_wp2
              go_meet
              case rel => exact ⟨d.1, 0, _, _, IT3.out, IG3.out, by rw [readNums, if_neg (by decide), if_pos rfl, ← HD1.out]⟩
            · go_wp2
              refine wp_loop_rounds 3 ?_
              rw [rounds_succ]
              go_wp2_with (first
                | (go_at_call 37; go_must (refine (numbers37 _ _).mono ?_); rintro e w' ⟨rfl, rfl⟩; rw [← HQ.out])
                | (go_at_call 46; go_must (refine (num46 _ _ _ _ _ IG1.out.cur (by decide) HSM4).mono ?_); rintro e w3 hp; obtain ⟨d, HD', rfl, hd4, hc3, hk3, hs3⟩ := hp.res20 (most := 4096); have HD1 : Fact (d = readNum hd.2.2.1 hd.2.2.2) := ⟨HD'.out⟩; have IT2 := Fact.mk (IT1.out.step hk3); have IG2 := Fact.mk (IG1.out.step hk3 hc3 (Nat.le_trans hs3 IG1.out.small)); have IP1 := Fact.mk (IP.out.keep hk3 (by have := hltP.out; have := hgtP.out; omega)); have n1 := IT2.out.blk.cell 1 _ rfl; have m1 := IT2.out.blk.free 1; clear hp hc3 hk3 hs3 HD'))
              have IT3 := Fact.mk (IT2.out.set1 d.1)
              have IG3 := Fact.mk (IG2.out.set IT2.out 1 (.int .i64 d.1))
              have IP2 := Fact.mk (IP1.out.other ⟨w2.heap.size, 1, none⟩ (by have := hltP.out; simp; omega) (.int .i64 d.1))
              have r1 := IP2.out.cell 1 _ rfl
              have r2 := IT3.out.blk.cell 0 _ rfl
              have HSM5 : Small d.2.1.length := Small.of (by have := IG3.out.small; omega)
              rw [rounds_succ]
              go_wp2_with (first
                | (go_at_call 37; go_must (refine (numbers37 _ _).mono ?_); rintro e w' ⟨rfl, rfl⟩; rw [← HQ.out])
                | (go_at_call 46; go_must (refine (num46 _ _ _ _ _ IG3.out.cur (by decide) HSM5).mono ?_); rintro e w4 hp; obtain ⟨f, HF', rfl, hf4, hc3, hk3, hs3⟩ := hp.res20 (most := 4096); have HF1 : Fact (f = readNum d.2.1 d.2.2) := ⟨HF'.out⟩; have IT4 := Fact.mk (IT3.out.step hk3); have IG4 := Fact.mk (IG3.out.step hk3 hc3 (Nat.le_trans hs3 IG3.out.small)); have n2 := IT4.out.blk.cell 2 _ rfl; have m2 := IT4.out.blk.free 2; clear hp hc3 hk3 hs3 HF'))
              rw [rounds_succ]
              go_wp2
              go_meet
              case rel => exact ⟨d.1, f.1, _, _, IT4.out.set2 f.1, IG4.out.set IT4.out 2 (.int .i64 f.1), by rw [readNums, if_neg (by decide), if_neg (by decide), ← HD1.out, ← HF1.out]⟩
          case rest =>
            obtain ⟨n, m, rest', wrong', it, ig, hrn⟩ := hcut
            have e0 := it.blk.cell 0 _ rfl
            have e1 := it.blk.cell 1 _ rfl
            have e2 := it.blk.cell 2 _ rfl
            have e3 := it.blk.cell 3 _ rfl
            have IT5 := Fact.mk it
            have IG5 := Fact.mk ig
            have HRN := Fact.mk hrn
            obtain ⟨xs, hrow, hreps⟩ := ig.row
            have HROW := Fact.mk hrow
            have HREPS := Fact.mk hreps
            clear it ig hrn hrow hreps
            have HF := Fact.mk (Fits.of (n := l.length) (m := 1) (Small.of (by omega)) 48 (by decide))
            have hone : ∀ u ∈ [Value.int .i64 hd.1, .int .i64 n, .int .i64 m, .slice At hd.2.1.length ct], u.oneCell' = true := by simp [Value.oneCell']
            have HO := Fact.mk hone
            clear hone
            go_wp2_with (at_builtin; go_must (refine wpList_ap rfl _ _ 22 25 4 48 (bc + 1) l.length 1 (HROW.out.alloc _) (Sl.new wc 25 4 1 [.int .i64 hd.1, .int .i64 n, .int .i64 m, .slice At hd.2.1.length ct] rfl (by decide) HO.out) rfl T22 rfl rfl HF.out (alloc_le IG5.out.cur.lt) ?_); intro v' w6 ho hg hb; have I6 := Fact.mk (IG5.out.push IT5.out HREPS.out ho hg hb); obtain ⟨A6, c6, rfl⟩ := own_form ho; clear ho hg hb)
            have HOP : Fact (readOp rest = (⟨hd.1, n, m, hd.2.1⟩, rest', wrong')) := ⟨by
              show ((⟨(readHead rest).1, (readNums (numbersOf (readHead rest).1) (readHead rest).2.2.1 (readHead rest).2.2.2).1, (readNums (numbersOf (readHead rest).1) (readHead rest).2.2.1 (readHead rest).2.2.2).2.1, (readHead rest).2.1⟩, (readNums (numbersOf (readHead rest).1) (readHead rest).2.2.1 (readHead rest).2.2.2).2.2.1, (readNums (numbersOf (readHead rest).1) (readHead rest).2.2.1 (readHead rest).2.2.2).2.2.2) : POp × List UInt8 × Int) = _
              rw [← HHD.out, ← HQ.out, HRN.out]⟩
            have hless := readOp_less hr
            rw [HOP.out] at hless
            simp only at hless
            go_roundg (gk - 1)
            case measure => omega
            case rel =>
              refine ⟨l ++ [⟨hd.1, n, m, hd.2.1⟩], rest', wrong', A6, c6, by simp, by simpa using I6.out, ?_, by omega, by simp; omega, ?_⟩
              · intro hp
                have := readOp_wrong (rest := rest) (by rw [HOP.out]; exact hp)
                rw [HOP.out] at this
                exact this
              · rw [HALL.out]
                obtain ⟨g1, rfl⟩ : ∃ g1, gk = g1 + 1 := ⟨gk - 1, by omega⟩
                rw [readAll, if_neg (by omega), HOP.out]
                simp
      · have hr0 : rest = [] := List.eq_nil_of_length_eq_zero (by omega)
        subst hr0
        go_wp2_with (go_at_call 45; go_must (refine (left45 _ _ _ _ hcur.out).mono ?_); rintro e w1 ⟨rfl, rfl⟩)
        go_meet
        case rel => exact ⟨l, wrong, A2, c2, rfl, HI.out, by rw [HALL.out, readAll_nil]; simp⟩
  case rest =>
    obtain ⟨l, wrong, A2, c2, rfl, hin, hall⟩ := hcut
    have HI := Fact.mk hin
    have HALL := Fact.mk hall
    have hcur := Fact.mk hin.cur
    clear hin hall
    have hE : endErr [] wrong = wrong := by simp [endErr]
    have HSL : Small l.length := Small.of (by have := readAll_len b.length b 0; rw [HALL.out] at this; simp only at this; omega)
    have HO : Fact (OpsR wc (fun i => w.heap.size ≤ i) (.slice A2 l.length c2) l) := ⟨by
      obtain ⟨xs, ho, hr⟩ := HI.out.row
      have hb := HI.out.base
      exact ⟨xs, (Sl.of_own ho (hr.all1 OpRepR.one)).mono fun i _ h => by omega, hr.mono fun x c _ h => h.plain.mono fun i _ h => by have := h.1; omega⟩⟩
    have HOR : Fact (∃ xs, wc.ownsRow w.heap.size 25 4 (.slice A2 l.length c2) l.length xs ∧ Reps (OpRepR wc (fun i => w.heap.size ≤ i ∧ (Value.slice A2 l.length c2).ownBlock ≠ some i)) l xs) := ⟨by
      obtain ⟨xs, ho, hr⟩ := HI.out.row
      have hb := HI.out.base
      exact ⟨xs, own_base ho (by omega), hr.mono fun x c _ h => h.mono fun i _ h => ⟨by have := h.1; omega, h.2.1⟩⟩⟩
    by_cases hw : wrong = 0
    · subst hw
      cases hbad : l.all opRight
      · go_wp2_with (first
          | (go_at_call 50; go_must (refine (end50 _ _ _ _ hcur.out).mono ?_); rintro e w' ⟨rfl, rfl⟩; rw [hE])
          | (go_at_call 51; go_must (refine (has51 _ _ _ _ HO.out HSL).mono ?_); rintro e w3 ⟨rfl, hk2⟩; have K2 := Fact.mk hk2; clear hk2; rw [hbad]))
        go_ret2
        have hg : getOps b = .bad 4 := by rw [getOps, if_neg (by omega), HALL.out, if_neg (by simp [hbad])]
        exact ⟨by rw [hg]; rfl, HI.out.keep.trans K2.out⟩
      · go_wp2_with (first
          | (go_at_call 50; go_must (refine (end50 _ _ _ _ hcur.out).mono ?_); rintro e w' ⟨rfl, rfl⟩; rw [hE])
          | (go_at_call 51; go_must (refine (has51 _ _ _ _ HO.out HSL).mono ?_); rintro e w3 ⟨rfl, hk2⟩; have K2 := Fact.mk hk2; clear hk2; rw [hbad]))
        go_ret2
        have hg : getOps b = .ok l := by rw [getOps, if_neg (by omega), HALL.out, if_pos (by simp [hbad])]
        obtain ⟨xs, h1, h2⟩ := HOR.out
        exact ⟨by rw [hg]; exact ⟨A2, c2, xs, rfl, own_keep h1 K2.out fun _ _ => trivial, h2.mono fun x c _ h => h.keep K2.out.all⟩, HI.out.keep.trans K2.out⟩
    · go_wp2_with (first
          | (go_at_call 50; go_must (refine (end50 _ _ _ _ hcur.out).mono ?_); rintro e w' ⟨rfl, rfl⟩; rw [hE]))
      go_ret2
      have hg : getOps b = .bad 4 := by rw [getOps, if_neg (by omega), HALL.out, if_neg (by simp [hw])]
      exact ⟨by rw [hg]; rfl, HI.out.keep⟩
theorem get13 (w : World) (G : Nat → Prop) (v : Value) (b : List UInt8) (h : By w G v b) (hlen : b.length ≤ 1000) : Calls Tryz.prog 13 #[v] w (GetPost w b) := (get13r w G v b h hlen).mono fun _ _ h => h.plain
end Go.Proofs.YtddmbdigdnmfgaaGreatDoor

/- Operations' bytes and bytes' operations: each is the other turned round. Plain lists, no program. -/
namespace Go.Proofs.YtddmbdigdnmfgaaGreatDoor
open Go.RowKit
set_option maxRecDepth 100000

theorem pow7 (k : Nat) : 2 ^ (7 * (k + 1)) = 128 * 2 ^ (7 * k) := by
  rw [show 7 * (k + 1) = 7 * k + 7 from by omega, Nat.pow_add, Nat.mul_comm]
theorem numScan_bytes (n : Nat) : ∀ (k acc : Nat) (r : List UInt8), k + numLen n ≤ 6 → numScan k acc (numBytes n ++ r) = (acc + n * 2 ^ (7 * k), k + numLen n) := by
  induction n using Nat.strongRecOn with
  | ind n ih =>
    intro k acc r hk
    by_cases h : n < 128
    · have hl : numLen n = 1 := by rw [numLen, if_pos h]
      rw [numBytes_small h]
      have hx : (UInt8.ofNat n).toNat = n := by rw [UInt8.toNat_ofNat']; exact Nat.mod_eq_of_lt (by omega)
      rw [List.cons_append, numScan_last (by omega) (by omega), hx, hl]
    · have hl := numLen_big h
      rw [numBytes_big h]
      have hx : (UInt8.ofNat (n % 128 + 128)).toNat = n % 128 + 128 := by rw [UInt8.toNat_ofNat']; exact Nat.mod_eq_of_lt (by omega)
      rw [List.cons_append, numScan_more (by omega) (by omega), ih (n / 128) (by omega) (k + 1) _ r (by omega), hx, hl]
      refine Prod.ext ?_ (by show _ = _; omega)
      show acc + (n % 128 + 128) % 128 * 2 ^ (7 * k) + n / 128 * 2 ^ (7 * (k + 1)) = acc + n * 2 ^ (7 * k)
      rw [pow7, Nat.add_mod_right, Nat.mod_mod, Nat.add_assoc, ← Nat.mul_assoc, ← Nat.add_mul]
      congr 2
      omega
theorem numScan_back : ∀ (rest : List UInt8) (k acc : Nat), (numScan k acc rest).2 ≠ 0 → k < (numScan k acc rest).2 ∧ ∃ n, (numScan k acc rest).1 = acc + n * 2 ^ (7 * k) ∧ numLen n ≤ (numScan k acc rest).2 - k ∧
    ((numScan k acc rest).2 - k = numLen n → rest = numBytes n ++ rest.drop ((numScan k acc rest).2 - k))
  | [], k, acc, h => absurd rfl h
  | x :: r, k, acc, h => by
    by_cases h6 : k = 6
    · subst h6
      rw [numScan_six] at h
      exact absurd rfl h
    by_cases hx : x.toNat < 128
    · rw [numScan_last h6 hx]
      have hl : numLen x.toNat = 1 := by rw [numLen, if_pos hx]
      refine ⟨by show k < k + 1; omega, x.toNat, rfl, by rw [hl]; show 1 ≤ k + 1 - k; omega, fun _ => ?_⟩
      show _ = _ ++ (x :: r).drop (k + 1 - k)
      rw [show k + 1 - k = 1 from by omega, numBytes_small hx]
      simp
    · rw [numScan_more h6 hx] at h ⊢
      obtain ⟨h1, n, h2, h3, h4⟩ := numScan_back r (k + 1) (acc + (x.toNat % 128) * 2 ^ (7 * k)) h
      generalize numScan (k + 1) (acc + (x.toNat % 128) * 2 ^ (7 * k)) r = q at *
      have hxl := x.toNat_lt
      refine ⟨by omega, x.toNat % 128 + 128 * n, ?_, ?_, ?_⟩
      · rw [h2, pow7, Nat.add_mul, Nat.add_assoc, ← Nat.mul_assoc, Nat.mul_comm n 128]
      · by_cases hn : n = 0
        · subst hn
          have : numLen (x.toNat % 128 + 128 * 0) = 1 := by rw [numLen, if_pos (by omega)]
          omega
        · have e : (x.toNat % 128 + 128 * n) / 128 = n := by omega
          rw [numLen_big (by omega), e]
          omega
      · intro he
        by_cases hn : n = 0
        · subst hn
          have : numLen (x.toNat % 128 + 128 * 0) = 1 := by rw [numLen, if_pos (by omega)]
          omega
        · have e : (x.toNat % 128 + 128 * n) / 128 = n := by omega
          rw [numLen_big (by omega), e] at he
          rw [numBytes_big (by omega), e]
          have hr := h4 (by omega)
          have ex : UInt8.ofNat ((x.toNat % 128 + 128 * n) % 128 + 128) = x := by
            rw [show (x.toNat % 128 + 128 * n) % 128 + 128 = x.toNat from by omega]
            exact UInt8.ofNat_toNat
          rw [ex, List.cons_append, show q.2 - k = (q.2 - (k + 1)) + 1 from by omega, List.drop_succ_cons, ← hr]

theorem numRes_bytes {n : Nat} {most : Int} (r : List UInt8) (wrong : Int) (h6 : Six n) (hn : n ≤ 1099511627776) (hm : (n : Int) ≤ most) : numRes (numBytes n ++ r) wrong most = (n, r, wrong) := by
  have h := numScan_bytes n 0 0 r (by have := numLen_six h6; omega)
  have hp := numLen_pos n
  simp only [Nat.zero_add, Nat.mul_zero, Nat.pow_zero, Nat.mul_one] at h
  unfold numRes
  rw [h, if_pos ((numGood_iff _ _).2 ⟨by show ¬ numLen n = 0; omega, rfl, hn, by omega, hm⟩)]
  show (n, (numBytes n ++ r).drop (numLen n), wrong) = _
  rw [List.drop_left' (numBytes_len n)]
theorem numRes_back {rest : List UInt8} {most : Int} (hg : numGood (numScan 0 0 rest) most = true) : rest = numBytes (numScan 0 0 rest).1 ++ rest.drop (numScan 0 0 rest).2 := by
  obtain ⟨h0, hl, -⟩ := (numGood_iff _ _).1 hg
  obtain ⟨-, n, h1, h2, h3⟩ := numScan_back rest 0 0 h0
  simp only [Nat.zero_add, Nat.mul_zero, Nat.pow_zero, Nat.mul_one, Nat.sub_zero] at h1 h2 h3
  have hn : (numScan 0 0 rest).1 = n := h1
  rw [hn] at hl ⊢
  exact h3 hl
theorem broken_ne (wrong : Int) : broken wrong 4 ≠ 0 := by unfold broken; split <;> omega
/-- Where no error came, the number's bytes stood there. -/
theorem numRes_fine {rest : List UInt8} {wrong most : Int} (h : (numRes rest wrong most).2.2 = 0) : wrong = 0 ∧ rest = numBytes (numRes rest wrong most).1 ++ (numRes rest wrong most).2.1 := by
  unfold numRes at *
  split at h
  · rename_i hg
    rw [if_pos hg]
    exact ⟨h, numRes_back hg⟩
  · exact absurd h (broken_ne _)
theorem textRes_bytes {t : List UInt8} (r : List UInt8) (ht : t.length ≤ 1000) : textRes (numBytes t.length ++ t ++ r) 1000 = (t, r, 0) := by
  have h6 : Six t.length := by show t.length < _; omega
  have h := numScan_bytes t.length 0 0 (t ++ r) (by have := numLen_six h6; omega)
  have hp := numLen_pos t.length
  simp only [Nat.zero_add, Nat.mul_zero, Nat.pow_zero, Nat.mul_one] at h
  have hd : (numBytes t.length ++ (t ++ r)).drop (numLen t.length) = t ++ r := List.drop_left' (numBytes_len _)
  have hg : textGet (numBytes t.length ++ t ++ r) 1000 = .ok t r := by
    rw [List.append_assoc]
    unfold textGet
    simp only [h]
    rw [if_pos ((numGood_iff _ _).2 ⟨by show ¬ numLen t.length = 0; omega, rfl, by show t.length ≤ _; omega, by omega, by show ((t.length : Nat) : Int) ≤ _; omega⟩), if_neg (by show ¬ (1000 : Int) < ((t.length : Nat) : Int); omega)]
    rw [hd, if_pos (by simp)]
    simp
  unfold textRes
  rw [hg]
theorem textRes_fine {rest : List UInt8} (h : (textRes rest 1000).2.2 = 0) : rest = numBytes (textRes rest 1000).1.length ++ (textRes rest 1000).1 ++ (textRes rest 1000).2.1 := by
  unfold textRes at *
  split at h
  · rename_i t r hg
    unfold textGet at hg
    simp only at hg
    split at hg
    · rename_i hgood
      split at hg
      · cases hg
      · split at hg
        · rename_i hle
          cases hg
          have := numRes_back hgood
          simp only [List.length_take, Nat.min_eq_left hle, List.append_assoc, List.take_append_drop]
          exact this
        · cases hg
    · cases hg
  · rename_i x hg
    unfold textGet at hg
    simp only at hg
    simp only at h
    subst h
    split at hg
    · split at hg
      · cases hg
      · split at hg <;> cases hg
    · cases hg

theorem readNum_bytes {n : Nat} (r : List UInt8) (hn : n ≤ 4096) : readNum (numBytes n ++ r) 0 = (n, r, 0) :=
  numRes_bytes r 0 (by show n < _; omega) (by omega) (by omega)
theorem numsBytes_cons (n : Nat) (l : List Nat) : numsBytes (n :: l) = numBytes n ++ numsBytes l := rfl
theorem readNums_bytes {q n m : Nat} (r : List UInt8) (hq : q = 0 ∨ q = 1 ∨ q = 2) (hn : n ≤ 4096) (hm : m ≤ 4096) (h0 : 0 < q ∨ n = 0) (h1 : 1 < q ∨ m = 0) :
    readNums q (numsBytes ([n, m].take q) ++ r) 0 = (n, m, r, 0) := by
  rcases hq with rfl | rfl | rfl
  · obtain rfl : n = 0 := by omega
    obtain rfl : m = 0 := by omega
    rfl
  · obtain rfl : m = 0 := by omega
    show readNums 1 (numsBytes [n] ++ r) 0 = _
    rw [numsBytes_cons, List.append_assoc]
    unfold readNums
    rw [if_neg (by decide), if_pos rfl, readNum_bytes _ hn]
    rfl
  · show readNums 2 (numsBytes [n, m] ++ r) 0 = _
    rw [numsBytes_cons, numsBytes_cons, List.append_assoc, List.append_assoc]
    unfold readNums
    rw [if_neg (by decide), if_neg (by decide), readNum_bytes _ hn]
    simp only
    rw [readNum_bytes _ hm]
    rfl
theorem readHead_bytes {k : Nat} {t : List UInt8} (r : List UInt8) (hk : k ≤ 20) (ht : t.length ≤ 1000) (h0 : t.length = 0 ∨ hasText k = true) :
    readHead (numBytes k ++ ((if hasText k = true then numBytes t.length ++ t else []) ++ r)) = (k, t, r, 0) := by
  have h6 : Six k := by show k < _; omega
  unfold readHead
  rw [numRes_bytes _ 0 h6 (by omega) (by omega)]
  simp only
  by_cases h : hasText k = true
  · rw [if_pos h, if_pos h, textRes_bytes r ht]
  · rw [if_neg h, if_neg h]
    have : t = [] := List.eq_nil_of_length_eq_zero (by rcases h0 with h0 | h0; · exact h0
                                                       · exact absurd h0 h)
    subst this
    rfl
theorem readOp_bytes {o : POp} (h : OpRight o) (r : List UInt8) : readOp (opBytes o ++ r) = (o, r, 0) := by
  obtain ⟨k, n, m, t⟩ := o
  obtain ⟨h1, h2, h3, h4, h5, h6, h7, h8, h9, h10⟩ := h
  simp only at h1 h2 h3 h4 h5 h6 h7 h8 h9 h10
  obtain ⟨k, rfl⟩ := Int.eq_ofNat_of_zero_le (show 0 ≤ k by omega)
  obtain ⟨n, rfl⟩ := Int.eq_ofNat_of_zero_le h5
  obtain ⟨m, rfl⟩ := Int.eq_ofNat_of_zero_le h6
  unfold opBytes readOp
  simp only [Int.toNat_natCast, List.append_assoc]
  rw [readHead_bytes _ (by omega) h4 h3]
  simp only
  rw [readNums_bytes r (numbersOf_le _) (by omega) (by omega) (by omega) (by omega)]
theorem opBytes_pos (o : POp) : 0 < (opBytes o).length := by
  unfold opBytes
  have := numLen_pos o.kind.toNat
  simp only [List.length_append, numBytes_len]
  omega
theorem readAll_bytes : ∀ (l : List POp) (n : Nat), l.all opRight = true → (opsBytes l).length ≤ n → readAll n (opsBytes l) 0 = (l, 0)
  | [], 0, _, _ => rfl
  | [], n + 1, _, _ => rfl
  | o :: l, 0, _, h => by
    have := opBytes_pos o
    simp only [opsBytes, List.flatMap_cons, List.length_append] at h
    omega
  | o :: l, n + 1, ha, h => by
    have hp := opBytes_pos o
    simp only [opsBytes, List.flatMap_cons, List.length_append] at h
    simp only [List.all_cons, Bool.and_eq_true] at ha
    have ho : OpRight o := by simpa [opRight] using ha.1
    have ih := readAll_bytes l n ha.2 (by show (l.flatMap opBytes).length ≤ n; omega)
    have hc : opsBytes (o :: l) = opBytes o ++ opsBytes l := rfl
    rw [readAll, hc, if_neg (by rw [List.length_append]; omega), readOp_bytes ho]
    simp only [ih]
theorem putOps_ok {l : List POp} {b : List UInt8} : putOps l = .ok b ↔ l.all opRight = true ∧ (opsBytes l).length ≤ 1000 ∧ b = opsBytes l := by
  unfold putOps
  split
  · rename_i h
    split
    · constructor
      · intro h; cases h
      · rintro ⟨_, h2, _⟩; omega
    · constructor
      · intro he; cases he; exact ⟨h, by omega, rfl⟩
      · rintro ⟨_, _, rfl⟩; rfl
  · rename_i h
    constructor
    · intro h; cases h
    · rintro ⟨h1, _⟩; exact absurd h1 h
/-- What was put is got. -/
theorem getOps_put {l : List POp} {b : List UInt8} (h : putOps l = .ok b) : getOps b = .ok l := by
  obtain ⟨h1, h2, rfl⟩ := putOps_ok.1 h
  have := readAll_bytes l _ h1 (Nat.le_refl _)
  unfold getOps
  rw [if_neg (by omega), this, if_pos ⟨rfl, h1⟩]

theorem readNums_ok' {q : Nat} {rest : List UInt8} {wrong : Int} (hq : q = 0 ∨ q = 1 ∨ q = 2) (h : (readNums q rest wrong).2.2.2 = 0) :
    wrong = 0 ∧ rest = numsBytes ([(readNums q rest wrong).1, (readNums q rest wrong).2.1].take q) ++ (readNums q rest wrong).2.2.1 := by
  rcases hq with rfl | rfl | rfl
  · exact ⟨h, rfl⟩
  · unfold readNums at *
    rw [if_neg (by decide), if_pos rfl] at *
    obtain ⟨h1, h2⟩ := numRes_fine h
    refine ⟨h1, ?_⟩
    show rest = numsBytes [(readNum rest wrong).1] ++ _
    rw [numsBytes_cons]
    simp only [numsBytes, List.flatMap_nil, List.append_nil]
    exact h2
  · unfold readNums at *
    rw [if_neg (by decide), if_neg (by decide)] at *
    obtain ⟨h1, h2⟩ := numRes_fine h
    obtain ⟨h3, h4⟩ := numRes_fine h1
    refine ⟨h3, ?_⟩
    show rest = numsBytes [(readNum rest wrong).1, (readNum (readNum rest wrong).2.1 (readNum rest wrong).2.2).1] ++ _
    rw [numsBytes_cons, numsBytes_cons]
    simp only [numsBytes, List.flatMap_nil, List.append_nil, List.append_assoc]
    exact h4.trans (congrArg _ h2)
theorem readHead_ok {rest : List UInt8} (h : (readHead rest).2.2.2 = 0) :
    rest = numBytes (readHead rest).1 ++ ((if hasText ((readHead rest).1 : Int) = true then numBytes (readHead rest).2.1.length ++ (readHead rest).2.1 else []) ++ (readHead rest).2.2.1) := by
  unfold readHead at *
  by_cases ht : hasText ((numRes rest 0 20).1 : Int) = true
  · rw [if_pos ht] at *
    simp only at h ⊢
    rw [if_pos ht]
    have h2 := numRes_fine (numRes_wrong ht)
    have h3 := textRes_fine h
    exact h2.2.trans (congrArg _ h3)
  · rw [if_neg ht] at *
    simp only at h ⊢
    rw [if_neg ht]
    exact (numRes_fine h).2
theorem readOp_ok {rest : List UInt8} (h : (readOp rest).2.2 = 0) : rest = opBytes (readOp rest).1 ++ (readOp rest).2.1 := by
  have h1 := readNums_ok' (q := numbersOf (readHead rest).1) (rest := (readHead rest).2.2.1) (wrong := (readHead rest).2.2.2) (numbersOf_le _) h
  have h2 := readHead_ok h1.1
  unfold opBytes readOp
  simp only [Int.toNat_natCast, List.append_assoc]
  exact h2.trans (congrArg _ (congrArg _ h1.2))
theorem readAll_back : ∀ (n : Nat) (rest : List UInt8), rest.length ≤ n → (readAll n rest 0).2 = 0 → rest = opsBytes (readAll n rest 0).1
  | 0, rest, h, _ => List.eq_nil_of_length_eq_zero (by omega)
  | n + 1, rest, h, h0 => by
    by_cases hr : rest.length = 0
    · rw [readAll, if_pos hr]
      exact List.eq_nil_of_length_eq_zero hr
    · rw [readAll, if_neg hr] at h0 ⊢
      simp only at h0 ⊢
      have hl := readOp_less (rest := rest) (by omega)
      have hw : (readOp rest).2.2 = 0 := by
        by_cases hp : 0 < (readOp rest).2.1.length
        · exact readOp_wrong hp
        · cases n with
          | zero => exact h0
          | succ n => rw [readAll, if_pos (by omega)] at h0; exact h0
      rw [hw] at h0 ⊢
      have ih := readAll_back n (readOp rest).2.1 (by omega) h0
      show rest = opBytes _ ++ opsBytes _
      rw [← ih]
      exact readOp_ok hw
/-- What is got is put again. -/
theorem putOps_get {l : List POp} {b : List UInt8} (h : getOps b = .ok l) : putOps l = .ok b := by
  unfold getOps at h
  split at h
  · cases h
  · split at h
    · rename_i h1 h2
      cases h
      have := readAll_back b.length b (Nat.le_refl _) h2.1
      exact putOps_ok.2 ⟨h2.2, by rw [← this]; omega, this⟩
    · cases h
theorem opsBytes_append (l k : List POp) : opsBytes (l ++ k) = opsBytes l ++ opsBytes k := by simp [opsBytes]
end Go.Proofs.YtddmbdigdnmfgaaGreatDoor

/- The law's own small functions: SameBytes, ops, sameOps. -/
namespace Go.Proofs.YtddmbdigdnmfgaaGreatDoor
open Go.RowKit
set_option maxHeartbeats 400000
set_option maxRecDepth 100000

theorem take_succ_eq {l1 l2 : List UInt8} {k : Nat} (h : l1.take k = l2.take k) (hx : l1[k]?.getD 0 = l2[k]?.getD 0) (h1 : k < l1.length) (h2 : k < l2.length) : l1.take (k + 1) = l2.take (k + 1) := by
  rw [List.take_succ_eq_append_getElem h1, List.take_succ_eq_append_getElem h2, h]
  simp [List.getElem?_eq_getElem h1, List.getElem?_eq_getElem h2] at hx
  rw [hx]

theorem sameBytes_ne (w : World) (A1 A2 : Option Addr) (n1 n2 c1 c2 : Nat) (h : ((n1 : Int) != (n2 : Int)) = true) :
    Calls Tryz.prog 15 #[.slice A1 n1 c1, .slice A2 n2 c2] w (Quiet w (.bool false)) := by
  go_enter Tryz.func15, Tryz.ntmps15
  go_wp2
  go_ret
  exact ⟨rfl, 0, rfl⟩

theorem sameBytes_nil (w : World) (A1 A2 : Option Addr) (c1 c2 : Nat) :
    Calls Tryz.prog 15 #[.slice A1 0 c1, .slice A2 0 c2] w (Quiet w (.bool true)) := by
  go_enter Tryz.func15, Tryz.ntmps15
  go_wp2
  refine wp_loop_rounds 1 ?_
  rw [rounds_succ]
  go_wp2
  go_ret
  exact ⟨rfl, 0, rfl⟩

theorem sameBytes_eq (w : World) (b1 o1 b2 o2 n c1 c2 : Nat) (l1 l2 : List UInt8) (hn : l1.length = n) (hn2 : l2.length = n) (hm : n ≤ 9223372036854775807)
    (h1 : ∀ j, j < n → w.cell? ⟨b1, o1 + j, none⟩ = some (.int .u8 (l1[j]?.getD 0).toNat)) (h2 : ∀ j, j < n → w.cell? ⟨b2, o2 + j, none⟩ = some (.int .u8 (l2[j]?.getD 0).toNat)) :
    Calls Tryz.prog 15 #[.slice (some ⟨b1, o1, none⟩) n c1, .slice (some ⟨b2, o2, none⟩) n c2] w (Quiet w (.bool (l1 == l2))) := by
  have Hn := Fact.mk hn
  have Hn2 := Fact.mk hn2
  have H1 := Fact.mk h1
  have H2 := Fact.mk h2
  clear hn hn2 h1 h2
  go_enter Tryz.func15, Tryz.ntmps15
  go_wp2
  go_loopw [5] (fun i wr => ∃ k q : Nat, k ≤ n ∧ i = .int .i64 k ∧ l1.take k = l2.take k ∧ wr = w.drewN q) (fun i _ => n - (intOf i).toNat)
  case atStart => exact ⟨0, 0, Nat.zero_le _, rfl, rfl, rfl⟩
  case round =>
    obtain ⟨k, q, hk, rfl, he, rfl⟩ := hrel
    have He := Fact.mk he
    clear he
    by_cases hlt : k < n
    · have h1 := H1.out k hlt
      have h2 := H2.out k hlt
      go_wp2
      go_quiet (fail)
      by_cases hx : l1[k]?.getD 0 = l2[k]?.getD 0
      · have hx1 : (((l1[k]?.getD 0).toNat : Int) != ((l2[k]?.getD 0).toNat : Int)) = false := by rw [hx]; simp
        go_wp2
        go_roundw
        case rel => exact ⟨k + 1, q + nq, by omega, by go_num, take_succ_eq He.out hx (by rw [Hn.out]; omega) (by rw [Hn2.out]; omega), rfl⟩
        case measure => simp [intOf]; omega
      · have hx1 : (((l1[k]?.getD 0).toNat : Int) != ((l2[k]?.getD 0).toNat : Int)) = true := by
          simp only [bne_iff_ne, ne_eq]; intro e; exact hx (UInt8.toNat_inj.1 (by exact_mod_cast e))
        go_wp2
        go_ret
        exact ⟨ret_bool (by symm; rw [beq_eq_false_iff_ne]; rintro rfl; exact hx rfl), drewN2 _ _ _⟩
    · have : k = n := by omega
      subst this
      go_wp2
      go_ret
      refine ⟨ret_bool ?_, _, rfl⟩
      have := He.out
      rw [List.take_of_length_le (by rw [Hn.out]; omega), List.take_of_length_le (by rw [Hn2.out]; omega)] at this
      simp [this]
theorem sameBytes15 (w : World) (G1 G2 : Nat → Prop) (v1 v2 : Value) (l1 l2 : List UInt8) (h1 : By w G1 v1 l1) (h2 : By w G2 v2 l2) :
    Calls Tryz.prog 15 #[v1, v2] w (Quiet w (.bool (l1 == l2))) := by
  obtain ⟨A1, c1, rfl, hn1, hc1, hA1, hx1⟩ := h1.open
  obtain ⟨A2, c2, rfl, hn2, hc2, hA2, hx2⟩ := h2.open
  by_cases hl : l1.length = l2.length
  · by_cases h0 : l1.length = 0
    · have e1 : l1 = [] := List.eq_nil_of_length_eq_zero h0
      have e2 : l2 = [] := List.eq_nil_of_length_eq_zero (by omega)
      subst e1 e2
      exact sameBytes_nil w A1 A2 c1 c2
    · obtain ⟨b1, o1, rfl, -, hk1⟩ := hx1 (by omega)
      obtain ⟨b2, o2, rfl, -, hk2⟩ := hx2 (by omega)
      rw [← hl]
      rw [← hl] at hk2
      exact sameBytes_eq w b1 o1 b2 o2 _ c1 c2 l1 l2 rfl hl.symm (by unfold maxLen at hc1; omega) hk1 hk2
  · have : (l1 == l2) = false := by rw [beq_eq_false_iff_ne]; rintro rfl; exact hl rfl
    rw [this]
    exact sameBytes_ne w A1 A2 _ _ c1 c2 (by simp only [bne_iff_ne, ne_eq]; omega)

theorem T32 : SlTy Tryz.prog 32 88 4 48 := by
  obtain ⟨i, hi, h0, h1, h2⟩ := info_parts (P := Tryz.prog) (e := 88) (z := .agg #[.int .i64 0, .int .i64 0, .int .i64 0, .slice none 0 0]) (size := 4) (bytes := 48) (by kernel_rfl)
  exact ⟨Tryz.underlying32, by decide, i, _, hi, h0, h1, h2, rfl⟩
theorem quiet_add {P : Program} {f : FuncId} {args : Array Value} {w : World} {a n : Nat} {v : Value}
    (h : Calls P f args (w.drewN (a + n)) fun e w' => e = .returned v ∧ ∃ m, w' = (w.drewN (a + n)).drewN m) :
    Calls P f args (w.drewN (a + n)) fun e w'' => e = .returned v ∧ ∃ m, w'' = w.drewN (a + m) :=
  h.mono fun _ _ ⟨he, m, hm⟩ => ⟨he, n + m, by rw [hm, World.drewN_drewN, Nat.add_assoc]⟩
def OpsPost (w : World) (G : Nat → Prop) (l : List POp) (e : Ending) (w' : World) : Prop :=
  ∃ A c, e = .returned (.slice A l.length c) ∧ OpsR w' (fun i => w.heap.size ≤ i ∨ G i) (.slice A l.length c) l ∧ Keep All w w'
theorem ops12 (w : World) (G : Nat → Prop) (v : Value) (l : List POp) (h : OpsR w G v l) (hl : Small (l.length + 1)) :
    Calls Tryz.prog 12 #[v] w (OpsPost w G l) := by
  obtain ⟨A, c, rfl, -, -, -, hat⟩ := h.open
  have HAT := Fact.mk hat
  have HL := Fact.mk hl
  have hlb := hl.le
  clear h hat hl
  go_enter Tryz.func12, Tryz.ntmps12
  go_wp2
  go_loopg [3, 4] l.length (fun g x i w' => ∃ k : Nat, k + g = l.length ∧ i = .int .i64 k ∧ ∃ A1 c1 xs, x = .slice A1 k c1 ∧ w'.ownsRow w.heap.size 88 4 (.slice A1 k c1) k xs ∧ Reps (OpRep w' (fun i => i < w.heap.size ∧ G i)) (l.take k) xs ∧ Keep All w w')
  case atStart => exact ⟨0, by omega, rfl, none, 0, [], rfl, World.ownsRow_nil _ _ _ _, by simp [Reps], Keep.refl _ _⟩
  case round =>
    obtain ⟨k, hkg, rfl, A1, c1, xs, rfl, hown, hreps, hkp⟩ := hrel
    have HG := Fact.mk hkg
    have HO := Fact.mk hown
    have HR := Fact.mk hreps
    have HK := Fact.mk hkp
    clear hkg hown hreps hkp
    by_cases hk : k < l.length
    · obtain ⟨b1, off, Ax, cx, rfl, hb1, hbt, c0, c1', c2, c3⟩ := HAT.out k hk
      have d0 := HK.out.cell trivial c0
      have d1 := HK.out.cell trivial c1'
      have d2 := HK.out.cell trivial c2
      have d3 := HK.out.cell trivial c3
      have hb1w := World.block_lt_of_cell? w _ c0
      simp only at hb1w
      have HBT : Fact (By wr (fun i => i < w.heap.size ∧ G i) (.slice Ax l[k].text.length cx) l[k].text) := ⟨(hbt.mono fun i hi hg => ⟨hi, hg⟩).keep HK.out.all⟩
      have HFI : Fact (Fits k 1 48) := ⟨Fits.of (HL.out.mono (by omega)) 48 (by decide)⟩
      clear c0 c1' c2 c3 hbt hb1
      go_wp2_with fail
      go_region_held3 (fun w' => w'.cell? ⟨b1, off + k * 4, none⟩ = some (.int .i64 l[k].kind) ∧ w'.cell? ⟨b1, off + k * 4 + 1, none⟩ = some (.int .i64 l[k].n) ∧ w'.cell? ⟨b1, off + k * 4 + 2, none⟩ = some (.int .i64 l[k].m) ∧ w'.cell? ⟨b1, off + k * 4 + 3, none⟩ = some (.slice Ax l[k].text.length cx)) (go_keep)
        (first
          | (rw [if_pos (show Region.wanted _ _ = true by simp [Region.wanted])]; go_loud (refine wp_ap (.tmp 11) (.tmp 33) 32 88 4 48 w.heap.size k 1 (HO.out.alloc _).drew ((Sl.new wr 88 4 1 [.int .i64 l[k].kind, .int .i64 l[k].n, .int .i64 l[k].m, .slice Ax l[k].text.length cx] rfl (by decide) (by simp [Value.oneCell'])).keep (Keep.refl _ _).drew) rfl T32 rfl rfl HFI.out (alloc_le HK.out.size) ?_); intro v' w1 ho hg hb; obtain ⟨A2, c2, rfl⟩ := own_form ho; have KT := ((Keep.refl (fun i => i < w.heap.size) wr).alloc _).drew.grown hg (fun j hj => .inr (by have := (HO.out.lt j hj).1; omega)); have KT2 := Fact.mk KT; have KA := Fact.mk ((HK.out.alloc _).drew.grown hg (fun j hj => .inl (HO.out.lt j hj).1)); have HO2 := Fact.mk ho; have y0 := KT.cell hb1w d0; have y1 := KT.cell hb1w d1; have y2 := KT.cell hb1w d2; have y3 := KT.cell hb1w d3; clear ho hg hb KT))
      all_goals
        go_wp2
        go_roundg (gk - 1)
        case measure => have := HG.out; omega
        case rel =>
          refine ⟨k + 1, by have := HG.out; omega, by go_num, A2, c2, xs ++ [.int .i64 l[k].kind, .int .i64 l[k].n, .int .i64 l[k].m, .slice Ax l[k].text.length cx], rfl, HO2.out, ?_, KA.out⟩
          rw [List.take_succ_eq_append_getElem hk]
          refine Reps.append (HR.out.mono fun x c _ h => h.keep (KT2.out.mono fun i h => h.1)) (Reps.one ⟨_, rfl, HBT.out.keep (KT2.out.mono fun i h => h.1)⟩)
    · go_wp2
      go_ret
      have hkl : k = l.length := by have := HG.out; omega
      subst hkl
      refine ⟨A1, c1, rfl, ⟨xs, ?_, ?_⟩, HK.out⟩
      · exact (Sl.of_own HO.out (HR.out.all1 OpRep.one)).mono fun i _ h => .inl h
      · have := HR.out
        rw [List.take_length] at this
        exact this.mono fun x c _ h => h.mono fun i _ hi => .inr hi.2
theorem sameOps16 (w : World) (G1 G2 : Nat → Prop) (v1 v2 : Value) (l : List POp) (h1 : OpsR w G1 v1 l) (h2 : OpsR w G2 v2 l) (hl : Small (l.length + 1)) :
    Calls Tryz.prog 16 #[v1, v2] w (Quiet w (.bool true)) := by
  obtain ⟨A1, c1, rfl, -, -, -, hat1⟩ := h1.open
  obtain ⟨A2, c2, rfl, -, -, -, hat2⟩ := h2.open
  have H1 := Fact.mk hat1
  have H2 := Fact.mk hat2
  have hlb := hl.le
  clear h1 h2 hat1 hat2 hl
  go_enter Tryz.func16, Tryz.ntmps16
  go_wp2
  go_loopw [5] (fun i wr => ∃ k q : Nat, k ≤ l.length ∧ i = .int .i64 k ∧ wr = w.drewN q) (fun i _ => l.length - (intOf i).toNat)
  case atStart => exact ⟨0, 0, Nat.zero_le _, rfl, rfl⟩
  case round =>
    obtain ⟨k, q, hk, rfl, rfl⟩ := hrel
    by_cases hlt : k < l.length
    · obtain ⟨b1, o1, Ax, cx, rfl, -, hb1, c0, c1', c2', c3⟩ := H1.out k hlt
      obtain ⟨b2, o2, Ay, cy, rfl, -, hb2, e0, e1, e2, e3⟩ := H2.out k hlt
      have HB1 := Fact.mk hb1
      have HB2 := Fact.mk hb2
      have q0 : (l[k].kind != l[k].kind) = false := by simp
      have q1 : (l[k].n != l[k].n) = false := by simp
      have q2 : (l[k].m != l[k].m) = false := by simp
      clear hb1 hb2
      go_wp2_with fail
      go_quiet ((go_at_call 15; exact quiet_add ((sameBytes15 _ G1 G2 _ _ _ _ (HB1.out.keep ((Keep.refl _ _).drewN _)) (HB2.out.keep ((Keep.refl _ _).drewN _))).mono fun _ _ h => h)))
      go_wp2
      go_roundw
      case rel => exact ⟨k + 1, q + nq, by omega, by go_num, rfl⟩
      case measure => simp [intOf]; omega
    · go_wp2
      go_ret
      exact ⟨rfl, _, rfl⟩
end Go.Proofs.YtddmbdigdnmfgaaGreatDoor

/- Words that the laws' walks share: sums of texts, what Put and Get have answered, appends. -/
namespace Go.Proofs.YtddmbdigdnmfgaaGreatDoor
open Go.RowKit
set_option maxHeartbeats 1000000
set_option maxRecDepth 100000

def Truly (w : World) (e : Ending) (w' : World) : Prop := e = .returned (.bool true) ∧ Keep All w w'
def sumText (l : List POp) : Nat := (l.map fun o => o.text.length).sum
theorem sumText_take {l : List POp} {k : Nat} (hk : k < l.length) : sumText (l.take (k + 1)) = sumText (l.take k) + l[k].text.length := by
  rw [List.take_succ_eq_append_getElem hk]
  simp only [sumText, List.map_append, List.sum_append, List.map_cons, List.map_nil, List.sum_cons, List.sum_nil, Nat.add_zero]
theorem sumText_le {l : List POp} {k : Nat} : sumText (l.take k) ≤ sumText l := by
  conv => rhs; rw [← List.take_append_drop k l]
  simp only [sumText, List.map_append, List.sum_append]
  omega
theorem opsSize_sum (l : List POp) : opsSize l = sumText l + 32 * l.length := by
  induction l with
  | nil => rfl
  | cons o l ih => simp only [opsSize, sumText, List.map_cons, List.sum_cons, List.length_cons] at *; omega
theorem get13_long (w : World) (A : Option Addr) (c : Nat) (b : List UInt8) (hb : 1000 < b.length) :
    Calls Tryz.prog 13 #[.slice A b.length c] w (GetPost w b) := by
  have HG : Fact (getOps b = .bad 3) := ⟨by rw [getOps, if_pos hb]⟩
  go_enter Tryz.func13, Tryz.ntmps13
  go_wp2
  go_ret2
  exact ⟨by rw [HG.out]; rfl, Keep.refl _ _⟩
theorem get13_any (w : World) (G : Nat → Prop) (v : Value) (b : List UInt8) (h : By w G v b) : Calls Tryz.prog 13 #[v] w (GetPost w b) := by
  by_cases hb : b.length ≤ 1000
  · exact get13 w G v b h hb
  · obtain ⟨A, c, rfl, -⟩ := h.open
    exact get13_long w A c b (by omega)
theorem putOps_bad {l : List POp} {x : Int} (h : putOps l = .bad x) : x = 2 ∨ x = 3 := by
  unfold putOps at h
  split at h
  · split at h
    · cases h; exact .inr rfl
    · cases h
  · cases h; exact .inl rfl
theorem getOps_bad {b : List UInt8} {x : Int} (h : getOps b = .bad x) : x = 3 ∨ x = 4 := by
  unfold getOps at h
  split at h
  · cases h; exact .inl rfl
  · split at h
    · cases h
    · cases h; exact .inr rfl
/-- What Put has answered. -/
def PutIs (w : World) (base : Nat) (l : List POp) (A : Option Addr) (n c : Nat) (x : Int) : Prop :=
  (∃ b, putOps l = .ok b ∧ x = 0 ∧ n = b.length ∧ By w (fun i => base ≤ i) (.slice A n c) b) ∨ (putOps l = .bad x ∧ ¬ x = 0 ∧ A = none ∧ n = 0 ∧ c = 0)
theorem PutPost.form {w w' : World} {l : List POp} {e : Ending} (h : PutPost w l e w') : ∃ A n c x, e = .returned (.tuple #[.slice A n c, .int .i64 x]) ∧ Fact (PutIs w' w.heap.size l A n c x) ∧ Fact (Keep All w w') := by
  obtain ⟨h1, h2⟩ := h
  cases hp : putOps l with
  | ok b =>
    rw [hp] at h1
    obtain ⟨A, c, rfl, hb⟩ := h1
    exact ⟨A, _, c, 0, rfl, ⟨.inl ⟨b, hp, rfl, rfl, hb⟩⟩, ⟨h2⟩⟩
  | bad y =>
    rw [hp] at h1
    have := putOps_bad hp
    exact ⟨none, 0, 0, y, h1, ⟨.inr ⟨hp, by omega, rfl, rfl, rfl⟩⟩, ⟨h2⟩⟩
theorem PutIs.keep {w w' : World} {base : Nat} {l : List POp} {A : Option Addr} {n c : Nat} {x : Int} (h : PutIs w base l A n c x) (k : Keep All w w') : PutIs w' base l A n c x := by
  rcases h with ⟨b, h1, h2, h3, h4⟩ | h
  · exact .inl ⟨b, h1, h2, h3, h4.keep k.all⟩
  · exact .inr h
/-- What Get has answered. -/
def GetIs (w : World) (base : Nat) (b : List UInt8) (A : Option Addr) (n c : Nat) (x : Int) : Prop :=
  (∃ l, getOps b = .ok l ∧ x = 0 ∧ n = l.length ∧ OpsR w (fun i => base ≤ i) (.slice A n c) l) ∨ (getOps b = .bad x ∧ ¬ x = 0 ∧ A = none ∧ n = 0 ∧ c = 0)
theorem GetPost.form {w w' : World} {b : List UInt8} {e : Ending} (h : GetPost w b e w') : ∃ A n c x, e = .returned (.tuple #[.slice A n c, .int .i64 x]) ∧ Fact (GetIs w' w.heap.size b A n c x) ∧ Fact (Keep All w w') := by
  obtain ⟨h1, h2⟩ := h
  cases hp : getOps b with
  | ok l =>
    rw [hp] at h1
    obtain ⟨A, c, rfl, hb⟩ := h1
    exact ⟨A, _, c, 0, rfl, ⟨.inl ⟨l, hp, rfl, rfl, hb⟩⟩, ⟨h2⟩⟩
  | bad y =>
    rw [hp] at h1
    have := getOps_bad hp
    exact ⟨none, 0, 0, y, h1, ⟨.inr ⟨hp, by omega, rfl, rfl, rfl⟩⟩, ⟨h2⟩⟩
theorem OpsR.nil (w : World) (G : Nat → Prop) : OpsR w G (.slice none 0 0) [] := ⟨[], Sl.nil w G 4, rfl⟩
/-- What was put: how much room it takes. -/
theorem putOps_size {l : List POp} {b : List UInt8} (h : putOps l = .ok b) : b.length ≤ 1000 := by
  obtain ⟨_, h2, rfl⟩ := putOps_ok.1 h
  exact h2
theorem own_empty (w : World) (e : TypeId) (sz : Nat) : (w.alloc (.cells #[] e)).ownsRow w.heap.size e sz (.slice (some ⟨w.heap.size, 0, none⟩) 0 0) 0 [] :=
  ⟨by simp, .inr ⟨w.heap.size, 0, #[], rfl, Nat.le_refl _, by show (w.heap.push _)[w.heap.size]? = _; simp, Nat.le_refl _, by unfold maxLen; omega, by simp, by simp⟩⟩
theorem putOps_two {l m : List POp} {x y : List UInt8} (h1 : putOps l = .ok x) (h2 : putOps m = .ok y) : putOps (l ++ m) = if x.length + y.length ≤ 1000 then .ok (x ++ y) else .bad 3 := by
  obtain ⟨a1, a2, rfl⟩ := putOps_ok.1 h1
  obtain ⟨b1, b2, rfl⟩ := putOps_ok.1 h2
  unfold putOps
  rw [if_pos (by rw [List.all_append, a1, b1]; rfl), opsBytes_append, List.length_append]
  by_cases h : (opsBytes l).length + (opsBytes m).length ≤ 1000
  · rw [if_pos h, if_neg (by omega)]
  · rw [if_neg h, if_pos (by omega)]
theorem putOps_none {l m : List POp} {x : List UInt8} {e : Int} (h1 : putOps l = .ok x) (h2 : putOps m = .bad e) : ∃ f, putOps (l ++ m) = .bad f := by
  obtain ⟨a1, a2, rfl⟩ := putOps_ok.1 h1
  unfold putOps at *
  by_cases hm : m.all opRight = true
  · rw [if_pos hm] at h2
    by_cases hl : (opsBytes m).length > 1000
    · rw [if_pos (by rw [List.all_append, a1, hm]; rfl), opsBytes_append, List.length_append, if_pos (by omega)]
      exact ⟨_, rfl⟩
    · rw [if_neg hl] at h2
      cases h2
  · rw [if_neg (by rw [List.all_append, a1]; simpa using hm)]
    exact ⟨_, rfl⟩
theorem opsSize_append (l m : List POp) : opsSize (l ++ m) = opsSize l + opsSize m := by simp [opsSize]
theorem ops_own {w : World} {base : Nat} {v : Value} {l m : List POp} {xl xm : List Value} (ho : w.ownsRow base 25 4 v (0 + l.length + m.length) ([] ++ xl ++ xm)) (r1 : Reps (OpRep w All) l xl) (r2 : Reps (OpRep w All) m xm) : OpsR w All v (l ++ m) := by
  rw [Nat.zero_add, ← List.length_append, List.nil_append] at ho
  have hr := Reps.append r1 r2
  exact ⟨xl ++ xm, (Sl.of_own ho (hr.all1 OpRep.one)).mono fun _ _ _ => trivial, hr⟩
theorem by_own {w : World} {base n m : Nat} {v : Value} {x y : List UInt8} (ho : w.ownsRow base 5 1 v (0 + n + m) ([] ++ x.map u8v ++ y.map u8v)) : By w All v (x ++ y) := by
  rw [List.nil_append, ← List.map_append] at ho
  exact (By.of_own ho).mono fun _ _ _ => trivial
theorem opBytes_ge {o : POp} (h : OpRight o) : o.text.length + 1 ≤ (opBytes o).length := by
  unfold opBytes
  have hp := numLen_pos o.kind.toNat
  have hq := numLen_pos o.text.length
  by_cases ht : hasText o.kind = true
  · rw [if_pos ht]
    simp only [List.length_append, numBytes_len]
    omega
  · have : o.text.length = 0 := by
      rcases h.2.2.1 with h0 | h0
      · exact h0
      · exact absurd h0 ht
    rw [if_neg ht]
    simp only [List.length_append, numBytes_len]
    omega
theorem opsBytes_ge : ∀ (l : List POp), l.all opRight = true → l.length ≤ (opsBytes l).length ∧ sumText l ≤ (opsBytes l).length
  | [], _ => ⟨Nat.le_refl _, Nat.le_refl _⟩
  | o :: l, h => by
    simp only [List.all_cons, Bool.and_eq_true] at h
    have h1 := opBytes_ge (by simpa [opRight] using h.1 : OpRight o)
    have h2 := opsBytes_ge l h.2
    simp only [opsBytes, sumText, List.flatMap_cons, List.length_append, List.map_cons, List.sum_cons, List.length_cons] at *
    omega
theorem putOps_room {l : List POp} {b : List UInt8} (h : putOps l = .ok b) : l.length ≤ 1000 ∧ opsSize l ≤ 33000 := by
  obtain ⟨h1, h2, rfl⟩ := putOps_ok.1 h
  have := opsBytes_ge l h1
  rw [opsSize_sum]
  omega
/-- An append behind a guard that says yes. -/
theorem wpList_ap_if {P : Program} {w : World} {ops : Array Oper} {rest : List Oper} {o : Oper} {a : Act} {Q : Exit → Act → World → Prop} (hw : Region.wanted o (yielded ops a.tmps) = true) (s x : Operand) (t e : TypeId) (sz bytes base n m : Nat) {v xv : Value} {xs ys : List Value} {G : Nat → Prop}
    (hown : w.ownsRow base e sz v n xs) (hxs : Sl w G sz xv m ys) (ho : o.op = .call { callee := .builtin .append, args := #[s, x], argTypes := #[t, t] }) (hT : SlTy P t e sz bytes) (hs : a.eval s = v) (hx : a.eval x = xv)
    (hf : Fits n m bytes) (hbase : base ≤ w.heap.size)
    (h : ∀ v' w', w'.ownsRow base e sz v' (n + m) (xs ++ ys) → w.grownBy w' v.ownBlock → (v'.ownBlock = v.ownBlock ∨ v'.ownBlock = some w.heap.size) → wpList P ops Q rest (a.put o.dst v') w') : wpList P ops Q (o :: rest) a w :=
  wpList_step fun K hK => by
    rw [if_pos hw]
    exact wp_ap s x t e sz bytes base n m hown hxs ho hT hs hx hf hbase fun v' w' h2 h3 h4 => hK _ _ (h v' w' h2 h3 h4)
end Go.Proofs.YtddmbdigdnmfgaaGreatDoor
