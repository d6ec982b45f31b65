import Derived.Test.YtddmbdigdnmfgaaGreatDoorPut
import Derived.Test.YtddmbdigdnmfgaaGreatDoorGet2
namespace Go.Proofs.YtddmbdigdnmfgaaGreatDoor
open Go.RowKit
set_option maxHeartbeats 400000
set_option maxRecDepth 100000

/-! ### What operations bytes tell -/
/-- A number, up to a bound: what is left, the error. -/
def numRes (rest : List UInt8) (wrong most : Int) : Nat × List UInt8 × Int :=
  if numGood (numScan 0 0 rest) most = true then ((numScan 0 0 rest).1, rest.drop (numScan 0 0 rest).2, wrong) else (0, [], broken wrong 4)
theorem NumPost.res {w w' : World} {b : Nat} {rest : List UInt8} {wrong most : Int} {e : Ending} (h : NumPost w b rest wrong most e w') :
    e = .returned (.int .i64 (numRes rest wrong most).1) ∧ Cur w' b (numRes rest wrong most).2.1 (numRes rest wrong most).2.2 ∧ Keep (fun i => i ≠ b) w w' := by
  obtain ⟨h1, h2⟩ := h
  unfold numRes
  split at h1
  · rename_i hg
    rw [if_pos hg]
    exact ⟨h1.1, h1.2, h2⟩
  · rename_i hg
    rw [if_neg hg]
    exact ⟨h1.1, h1.2, h2⟩
theorem numRes_small {rest : List UInt8} {wrong most : Int} : (numRes rest wrong most).2.1.length ≤ rest.length := by
  unfold numRes
  split
  · simp
  · simp
theorem numRes_le (rest : List UInt8) (wrong : Int) (most : Nat) : (numRes rest wrong most).1 ≤ most := by
  unfold numRes
  split
  · rename_i h
    have := ((numGood_iff _ _).1 h).2.2.2.2
    simp only
    omega
  · simp
theorem NumPost.res20 {w w' : World} {b : Nat} {rest : List UInt8} {wrong : Int} {most : Nat} {e : Ending} (h : NumPost w b rest wrong most e w') :
    ∃ a, Fact (a = numRes rest wrong most) ∧ e = .returned (.int .i64 a.1) ∧ a.1 ≤ most ∧ Cur w' b a.2.1 a.2.2 ∧ Keep (fun i => i ≠ b) w w' ∧ a.2.1.length ≤ rest.length := by
  obtain ⟨h1, h2, h3⟩ := h.res
  exact ⟨_, ⟨rfl⟩, h1, numRes_le rest wrong most, h2, h3, numRes_small⟩
/-- A text: what is left, the error. -/
def textRes (rest : List UInt8) (most : Int) : List UInt8 × List UInt8 × Int := match textGet rest most with | .ok t r => (t, r, 0) | .bad e => ([], [], e)
theorem textGet_small {rest l r : List UInt8} {most : Int} (h : textGet rest most = .ok l r) : r.length ≤ rest.length ∧ l.length ≤ rest.length := by
  unfold textGet at h
  simp only at h
  split at h
  · split at h
    · cases h
    · split at h
      · cases h; simp only [List.length_drop, List.length_take]; omega
      · cases h
  · cases h
theorem textRes_small (rest : List UInt8) (most : Int) : (textRes rest most).1.length ≤ rest.length ∧ (textRes rest most).2.1.length ≤ rest.length := by
  unfold textRes
  split
  · rename_i h; have := textGet_small h; exact ⟨this.2, this.1⟩
  · simp
theorem TextPost.res {w w' : World} {b : Nat} {rest : List UInt8} {most : Int} {e : Ending} (h : TextPost w b rest most e w') :
    ∃ a A c, Fact (a = textRes rest most) ∧ e = .returned (.slice A a.1.length c) ∧ By w' (fun i => w.heap.size ≤ i) (.slice A a.1.length c) a.1 ∧ Cur w' b a.2.1 a.2.2 ∧ Keep (fun i => i ≠ b) w w' ∧ a.1.length ≤ rest.length ∧ a.2.1.length ≤ rest.length := by
  obtain ⟨h1, h2⟩ := h
  have hs := textRes_small rest most
  unfold textRes at *
  split at h1
  · rename_i t r ht
    rw [ht] at hs
    obtain ⟨A, c, h3, h4, h5⟩ := h1
    exact ⟨(t, r, 0), A, c, ⟨by rw [ht]⟩, h3, h4, h5, h2, hs⟩
  · rename_i x ht
    rw [ht] at hs
    exact ⟨([], [], x), none, 0, ⟨by rw [ht]⟩, h1.1, By.nil _ _, h1.2, h2, hs⟩
/-- A kind, and a text where it has one: what is left, the error. -/
def readHead (rest : List UInt8) : Nat × List UInt8 × List UInt8 × Int :=
  if hasText ((numRes rest 0 20).1 : Int) = true then ((numRes rest 0 20).1, textRes (numRes rest 0 20).2.1 1000)
  else ((numRes rest 0 20).1, [], (numRes rest 0 20).2.1, (numRes rest 0 20).2.2)
theorem numRes_wrong {rest : List UInt8} {most : Int} (h : hasText ((numRes rest 0 most).1 : Int) = true) : (numRes rest 0 most).2.2 = 0 := by
  unfold numRes at *
  split at h
  · rename_i hg; rw [if_pos hg]
  · simp [hasText] at h
def readNum (rest : List UInt8) (wrong : Int) : Nat × List UInt8 × Int := numRes rest wrong 4096
def readNums (q : Nat) (rest : List UInt8) (wrong : Int) : Nat × Nat × List UInt8 × Int :=
  if q = 0 then (0, 0, rest, wrong)
  else if q = 1 then ((readNum rest wrong).1, 0, (readNum rest wrong).2.1, (readNum rest wrong).2.2)
  else ((readNum rest wrong).1, (readNum (readNum rest wrong).2.1 (readNum rest wrong).2.2).1, (readNum (readNum rest wrong).2.1 (readNum rest wrong).2.2).2.1, (readNum (readNum rest wrong).2.1 (readNum rest wrong).2.2).2.2)
def readOp (rest : List UInt8) : POp × List UInt8 × Int :=
  let a := readHead rest
  let b := readNums (numbersOf a.1) a.2.2.1 a.2.2.2
  (⟨a.1, b.1, b.2.1, a.2.1⟩, b.2.2.1, b.2.2.2)
def readAll : Nat → List UInt8 → Int → List POp × Int
  | 0, _, wrong => ([], wrong)
  | n + 1, rest, wrong => if rest.length = 0 then ([], wrong) else ((readOp rest).1 :: (readAll n (readOp rest).2.1 (readOp rest).2.2).1, (readAll n (readOp rest).2.1 (readOp rest).2.2).2)
inductive Ops? where
  | ok (l : List POp)
  | bad (e : Int)
def getOps (b : List UInt8) : Ops? :=
  if b.length > 1000 then .bad 3 else
  if (readAll b.length b 0).2 = 0 ∧ (readAll b.length b 0).1.all opRight = true then .ok (readAll b.length b 0).1 else .bad 4

theorem own_keep {G : Nat → Prop} {w w' : World} {base : Nat} {e : TypeId} {sz n : Nat} {v : Value} {xs : List Value} (h : w.ownsRow base e sz v n xs) (k : Keep G w w') (hg : ∀ g, v.ownBlock = some g → G g) : w'.ownsRow base e sz v n xs := by
  refine ⟨h.1, ?_⟩
  rcases h.2 with h2 | ⟨g, cap, cur, hv, hb, hh, r⟩
  · exact .inl h2
  · exact .inr ⟨g, cap, cur, hv, hb, k.heap (hg g (by rw [hv]; rfl)) hh, r⟩

/-- An operation's cells, its text with room. -/
def OpRepR (w : World) (G : Nat → Prop) (o : POp) (c : List Value) : Prop := ∃ v, c = [.int .i64 o.kind, .int .i64 o.n, .int .i64 o.m, v] ∧ ByR w G v o.text
theorem OpRepR.plain {w : World} {G : Nat → Prop} {o : POp} {c : List Value} (h : OpRepR w G o c) : OpRep w G o c := by
  obtain ⟨v, e, hb⟩ := h; exact ⟨v, e, hb.1⟩
theorem OpRepR.one {w : World} {G : Nat → Prop} (o : POp) (c : List Value) (h : OpRepR w G o c) : ∀ u ∈ c, u.oneCell' = true := OpRep.one o c h.plain
theorem OpRepR.len {w : World} {G : Nat → Prop} (o : POp) (c : List Value) (h : OpRepR w G o c) : c.length = 4 := OpRep.len o c h.plain
/-- Where the texts of what has been gathered lie. -/
def Tx (bc : Nat) (v : Value) (S : Nat → Prop) : Nat → Prop := fun i => bc < i ∧ v.ownBlock ≠ some i ∧ S i
/-- Amid Get: the cursor at bc, the row v of what has been got. -/
structure InGet (w wx : World) (bc : Nat) (rest : List UInt8) (wrong : Int) (v : Value) (l : List POp) (S : Nat → Prop) : Prop where
  cur : Cur wx bc rest wrong
  keep : Keep All w wx
  base : w.heap.size ≤ bc
  small : rest.length ≤ 1000
  row : ∃ xs, wx.ownsRow (bc + 1) 25 4 v l.length xs ∧ Reps (OpRepR wx (Tx bc v S)) l xs
section
variable {w wx w2 : World} {bc : Nat} {rest rest' : List UInt8} {wrong wrong' : Int} {v : Value} {l : List POp} {S : Nat → Prop}
theorem OpRep.keep {G : Nat → Prop} {w w' : World} {o : POp} {c : List Value} (h : OpRep w G o c) (k : Keep G w w') : OpRep w' G o c := by
  obtain ⟨v, e, hb⟩ := h; exact ⟨v, e, hb.keep k⟩
theorem OpRep.mono {G H : Nat → Prop} {w : World} {o : POp} {c : List Value} (h : OpRep w G o c) (hi : ∀ i, i < w.heap.size → G i → H i) : OpRep w H o c := by
  obtain ⟨v, e, hb⟩ := h; exact ⟨v, e, hb.mono hi⟩
theorem OpRepR.keep {G : Nat → Prop} {w w' : World} {o : POp} {c : List Value} (h : OpRepR w G o c) (k : Keep G w w') : OpRepR w' G o c := by
  obtain ⟨v, e, hb⟩ := h; exact ⟨v, e, hb.keep k⟩
theorem OpRepR.mono {G H : Nat → Prop} {w : World} {o : POp} {c : List Value} (h : OpRepR w G o c) (hi : ∀ i, i < w.heap.size → G i → H i) : OpRepR w H o c := by
  obtain ⟨v, e, hb⟩ := h; exact ⟨v, e, hb.mono hi⟩
theorem InGet.own_ne (h : InGet w wx bc rest wrong v l S) (g : Nat) (hg : v.ownBlock = some g) : bc < g ∧ g < wx.heap.size := by
  obtain ⟨xs, h1, _⟩ := h.row
  have := h1.lt g hg
  omega
/-- The cursor has been turned. -/
theorem InGet.step (h : InGet w wx bc rest wrong v l S) (k : Keep (fun i => i ≠ bc) wx w2) (hc : Cur w2 bc rest' wrong') (hs : rest'.length ≤ 1000) : InGet w w2 bc rest' wrong' v l S := by
  obtain ⟨xs, h1, h2⟩ := h.row
  refine ⟨hc, h.keep.then_ k fun i hi _ => ?_, h.base, hs, xs, own_keep h1 k fun g hg => ?_, h2.mono fun x c _ hx => hx.keep (k.mono fun i hi => ?_)⟩
  · have := h.base; omega
  · have := h.own_ne g hg; omega
  · have := hi.1; omega
theorem InGet.all (h : InGet w wx bc rest wrong v l S) (k : Keep All wx w2) : InGet w w2 bc rest wrong v l S := by
  obtain ⟨xs, h1, h2⟩ := h.row
  exact ⟨h.cur.keep k, h.keep.trans k, h.base, h.small, xs, own_keep h1 k fun _ _ => trivial, h2.mono fun x c _ hx => hx.keep k.all⟩
theorem InGet.alloc (h : InGet w wx bc rest wrong v l S) (o : Obj) : InGet w (wx.alloc o) bc rest wrong v l S := h.all ((Keep.refl _ _).alloc o)
/-- What lies from here on is none of it. -/
theorem InGet.fresh (h : InGet w wx bc rest wrong v l S) : InGet w wx bc rest wrong v l (fun i => S i ∧ i < wx.heap.size) := by
  obtain ⟨xs, h1, h2⟩ := h.row
  exact ⟨h.cur, h.keep, h.base, h.small, xs, h1, h2.mono fun x c _ hx => hx.mono fun i hi hg => ⟨hg.1, hg.2.1, hg.2.2, hi⟩⟩
theorem InGet.wide {S' : Nat → Prop} (h : InGet w wx bc rest wrong v l S) (hi : ∀ i, S i → S' i) : InGet w wx bc rest wrong v l S' := by
  obtain ⟨xs, h1, h2⟩ := h.row
  exact ⟨h.cur, h.keep, h.base, h.small, xs, h1, h2.mono fun x c _ hx => hx.mono fun i _ hg => ⟨hg.1, hg.2.1, hi i hg.2.2⟩⟩
end
/-- The operation's own variable at bt. -/
structure InT (wx : World) (bc bt : Nat) (v : Value) (k n m : Nat) (vt : Value) (t : List UInt8) : Prop where
  blk : Blk wx bt [.int .i64 k, .int .i64 n, .int .i64 m, vt] 25
  gt : bc < bt
  row : ∀ g, v.ownBlock = some g → g < bt
  txt : ByR wx (fun i => bt < i) vt t
section
variable {w wx w2 : World} {bc bt : Nat} {rest rest' : List UInt8} {wrong wrong' : Int} {v vt : Value} {l : List POp} {k n m : Nat} {t : List UInt8}
theorem InT.step (h : InT wx bc bt v k n m vt t) (kp : Keep (fun i => i ≠ bc) wx w2) : InT w2 bc bt v k n m vt t :=
  ⟨h.blk.keep kp (by have := h.gt; omega), h.gt, h.row, h.txt.keep (kp.mono fun i hi => by have := h.gt; omega)⟩
theorem InT.all (h : InT wx bc bt v k n m vt t) (kp : Keep All wx w2) : InT w2 bc bt v k n m vt t :=
  ⟨h.blk.keep kp trivial, h.gt, h.row, h.txt.keep kp.all⟩
theorem InT.alloc (h : InT wx bc bt v k n m vt t) (o : Obj) : InT (wx.alloc o) bc bt v k n m vt t := h.all ((Keep.refl _ _).alloc o)
theorem InT.set3 {vt' : Value} {t' : List UInt8} (h : InT wx bc bt v k n m vt t) (hb : ByR wx (fun i => bt < i) vt' t') : InT (wx.setCell ⟨bt, 3, none⟩ vt') bc bt v k n m vt' t' :=
  ⟨h.blk.set 3 _, h.gt, h.row, hb.keep ((Keep.refl _ _).setCell (.inr (by simp)) _)⟩
theorem InT.set1 (h : InT wx bc bt v k n m vt t) (x : Nat) : InT (wx.setCell ⟨bt, 1, none⟩ (.int .i64 x)) bc bt v k x m vt t :=
  ⟨h.blk.set 1 _, h.gt, h.row, h.txt.keep ((Keep.refl _ _).setCell (.inr (by simp)) _)⟩
theorem InT.set2 (h : InT wx bc bt v k n m vt t) (x : Nat) : InT (wx.setCell ⟨bt, 2, none⟩ (.int .i64 x)) bc bt v k n x vt t :=
  ⟨h.blk.set 2 _, h.gt, h.row, h.txt.keep ((Keep.refl _ _).setCell (.inr (by simp)) _)⟩
theorem InGet.set (h : InGet w wx bc rest wrong v l (fun i => i < bt)) (hT : InT wx bc bt v k n m vt t) (j : Nat) (u : Value) : InGet w (wx.setCell ⟨bt, j, none⟩ u) bc rest wrong v l (fun i => i < bt) := by
  have kp : Keep (fun i => i ≠ bt) wx (wx.setCell ⟨bt, j, none⟩ u) := (Keep.refl _ _).setCell (.inr (by simp)) _
  obtain ⟨xs, h1, h2⟩ := h.row
  have hbase := h.base
  have hgt := hT.gt
  refine ⟨?_, h.keep.then_ kp fun i hi _ => by omega, h.base, h.small, xs, own_keep h1 kp fun g hg => ?_, h2.mono fun x c _ hx => hx.keep (kp.mono fun i hi => ?_)⟩
  · obtain ⟨v0, c1, c2⟩ := h.cur
    exact ⟨v0, c1.keep kp (by omega), c2.keep (kp.mono fun i hi => by omega)⟩
  · have := hT.row g hg; omega
  · have := hi.2.2; omega
end

theorem InGet.push {w wx w3 : World} {bc bt : Nat} {rest : List UInt8} {wrong : Int} {v v' vt : Value} {l : List POp} {k n m : Nat} {t : List UInt8} {xs : List Value} {S : Nat → Prop} {o : Obj}
    (h : InGet w wx bc rest wrong v l S) (it : InT wx bc bt v k n m vt t) (hr : Reps (OpRepR wx (Tx bc v S)) l xs)
    (ho : w3.ownsRow (bc + 1) 25 4 v' (l.length + 1) (xs ++ [.int .i64 k, .int .i64 n, .int .i64 m, vt])) (hg : (wx.alloc o).grownBy w3 v.ownBlock) (hb : v'.ownBlock = v.ownBlock ∨ v'.ownBlock = some (wx.alloc o).heap.size) :
    InGet w w3 bc rest wrong v' (l ++ [⟨k, n, m, t⟩]) (fun _ => True) := by
  have kp : Keep (fun i => v.ownBlock ≠ some i) wx w3 := ((Keep.refl _ _).alloc o).grown hg fun k hk => .inr fun hn => hn hk
  have hne : ∀ i, i ≤ bc → v.ownBlock ≠ some i := fun i hi e => by have := (h.own_ne i e).1; omega
  have hv' : ∀ i, i < wx.heap.size → v.ownBlock ≠ some i → v'.ownBlock ≠ some i := fun i hi hn => by
    rcases hb with e | e
    · rw [e]; exact hn
    · rw [e]; intro e2; cases e2; simp at hi; omega
  obtain ⟨v0, c1, c2⟩ := h.cur
  refine ⟨⟨v0, c1.keep kp (hne bc (Nat.le_refl _)), c2.keep (kp.mono fun i hi => hne i (Nat.le_of_lt hi))⟩, h.keep.then_ kp fun i hi _ => hne i (by have := h.base; omega), h.base, h.small, _, by simpa using ho, Reps.append ?_ (Reps.one ?_)⟩
  · exact hr.mono fun x c _ ⟨u, e, hu⟩ => ⟨u, e, (hu.keep (kp.mono fun i hi => hi.2.1)).mono' hu fun i hi hg => ⟨hg.1, hv' i hi hg.2.1, trivial⟩⟩
  · have hrow : ∀ i, bt < i → v.ownBlock ≠ some i := fun i hi e => by have := it.row i e; omega
    exact ⟨vt, rfl, (it.txt.keep (kp.mono hrow)).mono' it.txt fun i hi hg => ⟨by have := it.gt; omega, hv' i hi (hrow i hg), trivial⟩⟩

theorem readHead_small {rest : List UInt8} (h : rest.length ≤ 1000) : (readHead rest).2.2.1.length ≤ 1000 := by
  have h1 : (numRes rest 0 20).2.1.length ≤ rest.length := numRes_small
  have h2 := (textRes_small (numRes rest 0 20).2.1 1000).2
  unfold readHead
  split
  · show (textRes (numRes rest 0 20).2.1 1000).2.1.length ≤ 1000
    omega
  · show (numRes rest 0 20).2.1.length ≤ 1000
    omega
theorem numRes_less {rest : List UInt8} {wrong most : Int} (h : 0 < rest.length) : (numRes rest wrong most).2.1.length + 1 ≤ rest.length := by
  unfold numRes
  split
  · rename_i hg
    have := ((numGood_iff _ _).1 hg).1
    simp only [List.length_drop]
    omega
  · simp; omega
theorem readNums_small (q : Nat) (rest : List UInt8) (wrong : Int) : (readNums q rest wrong).2.2.1.length ≤ rest.length := by
  have h1 : (readNum rest wrong).2.1.length ≤ rest.length := numRes_small
  have h2 : (readNum (readNum rest wrong).2.1 (readNum rest wrong).2.2).2.1.length ≤ (readNum rest wrong).2.1.length := numRes_small
  unfold readNums
  split
  · exact Nat.le_refl _
  · split
    · exact h1
    · exact Nat.le_trans h2 h1
theorem readOp_less {rest : List UInt8} (h : 0 < rest.length) : (readOp rest).2.1.length + 1 ≤ rest.length := by
  have h1 : (numRes rest 0 20).2.1.length + 1 ≤ rest.length := numRes_less h
  have h2 := (textRes_small (numRes rest 0 20).2.1 1000).2
  have h3 := readNums_small (numbersOf (readHead rest).1) (readHead rest).2.2.1 (readHead rest).2.2.2
  have h4 : (readHead rest).2.2.1.length ≤ (numRes rest 0 20).2.1.length := by
    unfold readHead
    split
    · exact h2
    · exact Nat.le_refl _
  show (readNums (numbersOf (readHead rest).1) (readHead rest).2.2.1 (readHead rest).2.2.2).2.2.1.length + 1 ≤ _
  omega
theorem numRes_ok {rest : List UInt8} {wrong most : Int} (h : 0 < (numRes rest wrong most).2.1.length) : (numRes rest wrong most).2.2 = wrong := by
  unfold numRes at *
  split at h
  · rename_i hg; rw [if_pos hg]
  · simp at h
theorem textRes_ok {rest : List UInt8} {most : Int} (h : 0 < (textRes rest most).2.1.length) : (textRes rest most).2.2 = 0 := by
  unfold textRes at *
  split at h
  · rfl
  · simp at h
theorem readNums_ok {q : Nat} {rest : List UInt8} {wrong : Int} (h : 0 < (readNums q rest wrong).2.2.1.length) : (readNums q rest wrong).2.2.2 = wrong ∧ 0 < rest.length := by
  have h1 : (readNum rest wrong).2.1.length ≤ rest.length := numRes_small
  unfold readNums at *
  split
  · rename_i hq; rw [if_pos hq] at h; exact ⟨rfl, h⟩
  · rename_i hq
    rw [if_neg hq] at h
    split
    · rename_i hq1
      rw [if_pos hq1] at h
      simp only at h
      exact ⟨numRes_ok h, by omega⟩
    · rename_i hq1
      rw [if_neg hq1] at h
      simp only at h
      have h2 : (readNum (readNum rest wrong).2.1 (readNum rest wrong).2.2).2.1.length ≤ (readNum rest wrong).2.1.length := numRes_small
      have h3 : 0 < (readNum rest wrong).2.1.length := by omega
      refine ⟨?_, by omega⟩
      show (readNum (readNum rest wrong).2.1 (readNum rest wrong).2.2).2.2 = wrong
      rw [readNum, numRes_ok h]
      exact numRes_ok h3
theorem readOp_wrong {rest : List UInt8} (h : 0 < (readOp rest).2.1.length) : (readOp rest).2.2 = 0 := by
  have h1 := readNums_ok (q := numbersOf (readHead rest).1) (rest := (readHead rest).2.2.1) (wrong := (readHead rest).2.2.2) h
  show (readNums (numbersOf (readHead rest).1) (readHead rest).2.2.1 (readHead rest).2.2.2).2.2.2 = 0
  rw [h1.1]
  have h2 := h1.2
  unfold readHead at *
  split
  · rename_i ht; rw [if_pos ht] at h2; exact textRes_ok h2
  · rename_i ht; rw [if_neg ht] at h2; exact numRes_ok h2
theorem readAll_nil (n : Nat) (wrong : Int) : readAll n [] wrong = ([], wrong) := by cases n <;> simp [readAll]
theorem readAll_len (n : Nat) : ∀ (rest : List UInt8) (wrong : Int), (readAll n rest wrong).1.length ≤ n := by
  induction n with
  | zero => intro rest wrong; simp [readAll]
  | succ n ih => intro rest wrong; rw [readAll]; split
                 · simp
                 · simpa using ih _ _
theorem T22 : SlTy Tryz.prog 22 25 4 48 := by
  obtain ⟨i, hi, h0, h1, h2⟩ := info_parts (P := Tryz.prog) (e := 25) (z := .agg #[.int .i64 0, .int .i64 0, .int .i64 0, .slice none 0 0]) (size := 4) (bytes := 48) (by kernel_rfl)
  exact ⟨Tryz.underlying22, by decide, i, _, hi, h0, h1, h2, rfl⟩

def GetPost (w : World) (b : List UInt8) (e : Ending) (w' : World) : Prop :=
  (match getOps b with
   | .ok l => ∃ A c, e = .returned (.tuple #[.slice A l.length c, .int .i64 0]) ∧ OpsR w' (fun i => w.heap.size ≤ i) (.slice A l.length c) l
   | .bad x => e = .returned (.tuple #[.slice none 0 0, .int .i64 x])) ∧ Keep All w w'

/-- .. each text with room, none of them in the row's own block. -/
def GetPostR (w : World) (b : List UInt8) (e : Ending) (w' : World) : Prop :=
  (match getOps b with
   | .ok l => ∃ A c xs, e = .returned (.tuple #[.slice A l.length c, .int .i64 0]) ∧ w'.ownsRow w.heap.size 25 4 (.slice A l.length c) l.length xs ∧ Reps (OpRepR w' (fun i => w.heap.size ≤ i ∧ (Value.slice A l.length c).ownBlock ≠ some i)) l xs
   | .bad x => e = .returned (.tuple #[.slice none 0 0, .int .i64 x])) ∧ Keep All w w'
theorem GetPostR.plain {w w' : World} {b : List UInt8} {e : Ending} (h : GetPostR w b e w') : GetPost w b e w' := by
  obtain ⟨h1, h2⟩ := h
  refine ⟨?_, h2⟩
  cases hp : getOps b with
  | ok l =>
    rw [hp] at h1
    obtain ⟨A, c, xs, rfl, h3, h4⟩ := h1
    exact ⟨A, c, rfl, xs, Sl.of_own h3 (h4.all1 OpRepR.one), h4.mono fun x c _ h => h.plain.mono fun i _ hi => hi.1⟩
  | bad x => rw [hp] at h1; exact h1

theorem get13r (w : World) (G : Nat → Prop) (v : Value) (b : List UInt8) (h : By w G v b) (hlen : b.length ≤ 1000) :
    Calls Tryz.prog 13 #[v] w (GetPostR w b) := by
  obtain ⟨A, c, rfl, -⟩ := h.open
  have H := Fact.mk h
  clear h
  have HSM : Small b.length := Small.of (by omega)
  go_enter Tryz.func13, Tryz.ntmps13
  go_upto_block 0 with (go_at_call 44; go_must (refine (over44 _ _ _ _ H.out HSM).mono ?_); rintro e w1 ⟨bc, rfl, hbc, hcur, hk1⟩; have HC := Fact.mk hcur; have HK := Fact.mk hk1; have HB := Fact.mk hbc; clear hcur hk1 hbc)
  go_cut [2] (fun x w' => ∃ l wrong A c, x = .slice A l.length c ∧ InGet w w' bc [] wrong (.slice A l.length c) l (fun _ => True) ∧ readAll b.length b 0 = (l, wrong))
  case first =>
    go_wp2
    go_loopg [2] b.length (fun g x w' => ∃ l rest wrong A c, x = .slice A l.length c ∧ InGet w w' bc rest wrong (.slice A l.length c) l (fun _ => True) ∧ (0 < rest.length → wrong = 0) ∧ rest.length ≤ g ∧ l.length + rest.length ≤ 1000 ∧ readAll b.length b 0 = (l ++ (readAll g rest wrong).1, (readAll g rest wrong).2))
    case atStart => exact ⟨[], b, 0, none, 0, rfl, ⟨HC.out, HK.out, HB.out, hlen, [], World.ownsRow_nil _ _ _ _, rfl⟩, fun _ => rfl, Nat.le_refl _, by simpa using hlen, by simp⟩
    case round =>
      obtain ⟨l, rest, wrong, A2, c2, rfl, hin, hw0, hrg, hlr, hall⟩ := hrel
      have HI := Fact.mk hin
      have HALL := Fact.mk hall
      have HW0 := Fact.mk hw0
      have hcur := Fact.mk hin.cur
      clear hin hall hw0
      by_cases hr : 0 < rest.length
      · have hw := HW0.out hr
        subst hw
        have HSM2 : Small rest.length := Small.of (by have := HI.out.small; omega)
        go_upto_if 22 with (first
          | (go_at_call 45; go_must (refine (left45 _ _ _ _ hcur.out).mono ?_); rintro e w1 ⟨rfl, rfl⟩)
          | (go_at_call 46; go_must (refine (num46 _ _ _ _ _ hcur.out (by decide) HSM2).mono ?_); rintro e w2 hp; obtain ⟨a, HA', rfl, ha20, hc2, hk2, hs2⟩ := hp.res20; have HA : Fact (a = numRes rest 0 20) := ⟨HA'.out⟩; clear HA'; have I2 := Fact.mk (HI.out.step hk2 hc2 (Nat.le_trans hs2 HI.out.small)); clear hp hc2 hk2 hs2)
          | (go_at_call 35; go_must (refine (text35 _ _ ha20).mono ?_); rintro e w' ⟨rfl, rfl⟩))
        have IT0 : Fact (InT (w2.alloc (.cells #[.int .i64 a.1, .int .i64 0, .int .i64 0, .slice none 0 0] 25)) bc w2.heap.size (.slice A2 l.length c2) a.1 0 0 (.slice none 0 0) []) :=
          ⟨⟨Blk.new _ [_, _, _, _] _, I2.out.cur.lt, fun g hg => (I2.out.own_ne g hg).2, ByR.nil _ _⟩⟩
        have I3 := Fact.mk ((I2.out.fresh.alloc (.cells #[.int .i64 a.1, .int .i64 0, .int .i64 0, .slice none 0 0] 25)).wide (S' := fun i => i < w2.heap.size) fun i h => h.2)
        obtain ⟨hd, hhd⟩ : ∃ h, h = readHead rest := ⟨_, rfl⟩
        have HHD := Fact.mk hhd
        clear hhd
        go_cut [] (fun w' => ∃ vt, InT w' bc w2.heap.size (.slice A2 l.length c2) hd.1 0 0 vt hd.2.1 ∧ InGet w w' bc hd.2.2.1 hd.2.2.2 (.slice A2 l.length c2) l (fun i => i < w2.heap.size))
        case first =>
          by_cases htx : hasText (a.1 : Int) = true
          · have HD : Fact (hd = (a.1, textRes a.2.1 1000)) := ⟨by rw [HHD.out, readHead, ← HA.out, if_pos htx]⟩
            have hw2 : a.2.2 = 0 := by rw [HA.out]; exact numRes_wrong (by rw [← HA.out]; exact htx)
            have C3 := Fact.mk (hw2 ▸ I3.out.cur)
            have HSM3 : Small a.2.1.length := Small.of (by have := I2.out.small; omega)
            clear hw2
            rw [htx]
            go_wp2_with (first
              | (go_at_call 48; go_must (refine (text48 _ _ _ _ C3.out HSM3).mono ?_); rintro e w3 hp; obtain ⟨d, Ad, cd, HDD, rfl, hby, hc3, hk3, hs3, hs4⟩ := hp.res; have I4 := Fact.mk (I3.out.step hk3 hc3 (Nat.le_trans hs4 I3.out.small)); have IT1 := Fact.mk (IT0.out.step hk3); have HBY := Fact.mk hby; have HS3 := Fact.mk hs3; clear hp hby hc3 hk3 hs3 hs4)
              | (go_at_call 47; go_must (refine (clone47o _ _ _ _ HBY.out (Small.mono HSM3 HS3.out)).mono ?_); rintro e w4 ⟨Ae, ce, rfl, h4, hk4⟩; have I5 := Fact.mk (I4.out.all hk4); have IT2 := Fact.mk (IT1.out.all hk4); have HB4 := Fact.mk (ByR.of_own h4); have q3 := IT2.out.blk.cell 3 _ rfl; have f3 := IT2.out.blk.free 3; clear h4 hk4))
            go_meet
            case rel => exact ⟨_, by rw [HD.out, ← HDD.out]; exact IT2.out.set3 (HB4.out.mono fun i _ h => Nat.lt_of_lt_of_le IT1.out.blk.lt h), by rw [HD.out, ← HDD.out]; exact I5.out.set IT2.out 3 _⟩
          · have HD : Fact (hd = (a.1, [], a.2.1, a.2.2)) := ⟨by rw [HHD.out, readHead, ← HA.out, if_neg htx]⟩
            have hf : hasText (a.1 : Int) = false := by simpa using htx
            rw [hf]
            go_wp2
            go_meet
            case rel => exact ⟨_, by rw [HD.out]; exact IT0.out, by rw [HD.out]; exact I3.out⟩
        case rest =>
          obtain ⟨vt, it, ig⟩ := hcut
          obtain ⟨At, ct, rfl, -⟩ := it.txt.open
          have IT := Fact.mk it
          have IG := Fact.mk ig
          have t0 := it.blk.cell 0 _ rfl
          obtain ⟨q, hq⟩ : ∃ q, q = numbersOf (hd.1 : Int) := ⟨_, rfl⟩
          have HQ := Fact.mk hq
          clear it ig hq
          go_upto_block 2 with (fail)
          go_cut [] (fun w' => ∃ n m rest' wrong', InT w' bc w2.heap.size (.slice A2 l.length c2) hd.1 n m (.slice At hd.2.1.length ct) hd.2.1 ∧ InGet w w' bc rest' wrong' (.slice A2 l.length c2) l (fun i => i < w2.heap.size) ∧ readNums q hd.2.2.1 hd.2.2.2 = (n, m, rest', wrong'))
          case first =>
            have ip : Blk (wc.alloc (.cells #[.pointer (some ⟨w2.heap.size, 1, none⟩), .pointer (some ⟨w2.heap.size, 2, none⟩)] 94)) wc.heap.size [.pointer (some ⟨w2.heap.size, 1, none⟩), .pointer (some ⟨w2.heap.size, 2, none⟩)] 94 := Blk.new _ _ _
            have p0 := ip.cell 0 _ rfl
            have p1 := ip.cell 1 _ rfl
            have IP := Fact.mk ip
            have IT1 := Fact.mk (IT.out.alloc (.cells #[.pointer (some ⟨w2.heap.size, 1, none⟩), .pointer (some ⟨w2.heap.size, 2, none⟩)] 94))
            have IG1 := Fact.mk (IG.out.alloc (.cells #[.pointer (some ⟨w2.heap.size, 1, none⟩), .pointer (some ⟨w2.heap.size, 2, none⟩)] 94))
            have c1 := IT1.out.blk.cell 0 _ rfl
            have HSM4 : Small hd.2.2.1.length := Small.of (by have := IG.out.small; omega)
            have hltP := Fact.mk IT.out.blk.lt
            have hgtP := Fact.mk IT.out.gt
            clear ip
            have hq3 := numbersOf_le (hd.1 : Int)
            rw [← HQ.out] at hq3
            rcases hq3 with rfl | rfl | rfl
            · go_wp2
              refine wp_loop_rounds 3 ?_
              rw [rounds_succ]
              go_wp2_with (go_at_call 37; go_must (refine (numbers37 _ _).mono ?_); rintro e w' ⟨rfl, rfl⟩; rw [← HQ.out])
              rw [rounds_succ]
              go_wp2_with (go_at_call 37; go_must (refine (numbers37 _ _).mono ?_); rintro e w' ⟨rfl, rfl⟩; rw [← HQ.out])
              rw [rounds_succ]
              go_wp2
              go_meet
              case rel => exact ⟨0, 0, _, _, IT1.out, IG1.out, rfl⟩
            · go_wp2
              refine wp_loop_rounds 3 ?_
              rw [rounds_succ]
              go_wp2_with (first
                | (go_at_call 37; go_must (refine (numbers37 _ _).mono ?_); rintro e w' ⟨rfl, rfl⟩; rw [← HQ.out])
                | (go_at_call 46; go_must (refine (num46 _ _ _ _ _ IG1.out.cur (by decide) HSM4).mono ?_); rintro e w3 hp; obtain ⟨d, HD', rfl, hd4, hc3, hk3, hs3⟩ := hp.res20 (most := 4096); have HD1 : Fact (d = readNum hd.2.2.1 hd.2.2.2) := ⟨HD'.out⟩; have IT2 := Fact.mk (IT1.out.step hk3); have IG2 := Fact.mk (IG1.out.step hk3 hc3 (Nat.le_trans hs3 IG1.out.small)); have IP1 := Fact.mk (IP.out.keep hk3 (by have := hltP.out; have := hgtP.out; omega)); have n1 := IT2.out.blk.cell 1 _ rfl; have m1 := IT2.out.blk.free 1; clear hp hc3 hk3 hs3 HD'))
              have IT3 := Fact.mk (IT2.out.set1 d.1)
              have IG3 := Fact.mk (IG2.out.set IT2.out 1 (.int .i64 d.1))
              have IP2 := Fact.mk (IP1.out.other ⟨w2.heap.size, 1, none⟩ (by have := hltP.out; simp; omega) (.int .i64 d.1))
              have r1 := IP2.out.cell 1 _ rfl
              have r2 := IT3.out.blk.cell 0 _ rfl
              rw [rounds_succ]
              go_wp2_with (go_at_call 37; go_must (refine (numbers37 _ _).mono ?_); rintro e w' ⟨rfl, rfl⟩; rw [← HQ.out])
              rw [rounds_succ]
              go_wp2
              go_meet
              case rel => exact ⟨d.1, 0, _, _, IT3.out, IG3.out, by rw [readNums, if_neg (by decide), if_pos rfl, ← HD1.out]⟩
            · go_wp2
              refine wp_loop_rounds 3 ?_
              rw [rounds_succ]
              go_wp2_with (first
                | (go_at_call 37; go_must (refine (numbers37 _ _).mono ?_); rintro e w' ⟨rfl, rfl⟩; rw [← HQ.out])
                | (go_at_call 46; go_must (refine (num46 _ _ _ _ _ IG1.out.cur (by decide) HSM4).mono ?_); rintro e w3 hp; obtain ⟨d, HD', rfl, hd4, hc3, hk3, hs3⟩ := hp.res20 (most := 4096); have HD1 : Fact (d = readNum hd.2.2.1 hd.2.2.2) := ⟨HD'.out⟩; have IT2 := Fact.mk (IT1.out.step hk3); have IG2 := Fact.mk (IG1.out.step hk3 hc3 (Nat.le_trans hs3 IG1.out.small)); have IP1 := Fact.mk (IP.out.keep hk3 (by have := hltP.out; have := hgtP.out; omega)); have n1 := IT2.out.blk.cell 1 _ rfl; have m1 := IT2.out.blk.free 1; clear hp hc3 hk3 hs3 HD'))
              have IT3 := Fact.mk (IT2.out.set1 d.1)
              have IG3 := Fact.mk (IG2.out.set IT2.out 1 (.int .i64 d.1))
              have IP2 := Fact.mk (IP1.out.other ⟨w2.heap.size, 1, none⟩ (by have := hltP.out; simp; omega) (.int .i64 d.1))
              have r1 := IP2.out.cell 1 _ rfl
              have r2 := IT3.out.blk.cell 0 _ rfl
              have HSM5 : Small d.2.1.length := Small.of (by have := IG3.out.small; omega)
              rw [rounds_succ]
              go_wp2_with (first
                | (go_at_call 37; go_must (refine (numbers37 _ _).mono ?_); rintro e w' ⟨rfl, rfl⟩; rw [← HQ.out])
                | (go_at_call 46; go_must (refine (num46 _ _ _ _ _ IG3.out.cur (by decide) HSM5).mono ?_); rintro e w4 hp; obtain ⟨f, HF', rfl, hf4, hc3, hk3, hs3⟩ := hp.res20 (most := 4096); have HF1 : Fact (f = readNum d.2.1 d.2.2) := ⟨HF'.out⟩; have IT4 := Fact.mk (IT3.out.step hk3); have IG4 := Fact.mk (IG3.out.step hk3 hc3 (Nat.le_trans hs3 IG3.out.small)); have n2 := IT4.out.blk.cell 2 _ rfl; have m2 := IT4.out.blk.free 2; clear hp hc3 hk3 hs3 HF'))
              rw [rounds_succ]
              go_wp2
              go_meet
              case rel => exact ⟨d.1, f.1, _, _, IT4.out.set2 f.1, IG4.out.set IT4.out 2 (.int .i64 f.1), by rw [readNums, if_neg (by decide), if_neg (by decide), ← HD1.out, ← HF1.out]⟩
          case rest =>
            obtain ⟨n, m, rest', wrong', it, ig, hrn⟩ := hcut
            have e0 := it.blk.cell 0 _ rfl
            have e1 := it.blk.cell 1 _ rfl
            have e2 := it.blk.cell 2 _ rfl
            have e3 := it.blk.cell 3 _ rfl
            have IT5 := Fact.mk it
            have IG5 := Fact.mk ig
            have HRN := Fact.mk hrn
            obtain ⟨xs, hrow, hreps⟩ := ig.row
            have HROW := Fact.mk hrow
            have HREPS := Fact.mk hreps
            clear it ig hrn hrow hreps
            have HF := Fact.mk (Fits.of (n := l.length) (m := 1) (Small.of (by omega)) 48 (by decide))
            have hone : ∀ u ∈ [Value.int .i64 hd.1, .int .i64 n, .int .i64 m, .slice At hd.2.1.length ct], u.oneCell' = true := by simp [Value.oneCell']
            have HO := Fact.mk hone
            clear hone
            go_wp2_with (at_builtin; go_must (refine wpList_ap rfl _ _ 22 25 4 48 (bc + 1) l.length 1 (HROW.out.alloc _) (Sl.new wc 25 4 1 [.int .i64 hd.1, .int .i64 n, .int .i64 m, .slice At hd.2.1.length ct] rfl (by decide) HO.out) rfl T22 rfl rfl HF.out (alloc_le IG5.out.cur.lt) ?_); intro v' w6 ho hg hb; have I6 := Fact.mk (IG5.out.push IT5.out HREPS.out ho hg hb); obtain ⟨A6, c6, rfl⟩ := own_form ho; clear ho hg hb)
            have HOP : Fact (readOp rest = (⟨hd.1, n, m, hd.2.1⟩, rest', wrong')) := ⟨by
              show ((⟨(readHead rest).1, (readNums (numbersOf (readHead rest).1) (readHead rest).2.2.1 (readHead rest).2.2.2).1, (readNums (numbersOf (readHead rest).1) (readHead rest).2.2.1 (readHead rest).2.2.2).2.1, (readHead rest).2.1⟩, (readNums (numbersOf (readHead rest).1) (readHead rest).2.2.1 (readHead rest).2.2.2).2.2.1, (readNums (numbersOf (readHead rest).1) (readHead rest).2.2.1 (readHead rest).2.2.2).2.2.2) : POp × List UInt8 × Int) = _
              rw [← HHD.out, ← HQ.out, HRN.out]⟩
            have hless := readOp_less hr
            rw [HOP.out] at hless
            simp only at hless
            go_roundg (gk - 1)
            case measure => omega
            case rel =>
              refine ⟨l ++ [⟨hd.1, n, m, hd.2.1⟩], rest', wrong', A6, c6, by simp, by simpa using I6.out, ?_, by omega, by simp; omega, ?_⟩
              · intro hp
                have := readOp_wrong (rest := rest) (by rw [HOP.out]; exact hp)
                rw [HOP.out] at this
                exact this
              · rw [HALL.out]
                obtain ⟨g1, rfl⟩ : ∃ g1, gk = g1 + 1 := ⟨gk - 1, by omega⟩
                rw [readAll, if_neg (by omega), HOP.out]
                simp
      · have hr0 : rest = [] := List.eq_nil_of_length_eq_zero (by omega)
        subst hr0
        go_wp2_with (go_at_call 45; go_must (refine (left45 _ _ _ _ hcur.out).mono ?_); rintro e w1 ⟨rfl, rfl⟩)
        go_meet
        case rel => exact ⟨l, wrong, A2, c2, rfl, HI.out, by rw [HALL.out, readAll_nil]; simp⟩
  case rest =>
    obtain ⟨l, wrong, A2, c2, rfl, hin, hall⟩ := hcut
    have HI := Fact.mk hin
    have HALL := Fact.mk hall
    have hcur := Fact.mk hin.cur
    clear hin hall
    have hE : endErr [] wrong = wrong := by simp [endErr]
    have HSL : Small l.length := Small.of (by have := readAll_len b.length b 0; rw [HALL.out] at this; simp only at this; omega)
    have HO : Fact (OpsR wc (fun i => w.heap.size ≤ i) (.slice A2 l.length c2) l) := ⟨by
      obtain ⟨xs, ho, hr⟩ := HI.out.row
      have hb := HI.out.base
      exact ⟨xs, (Sl.of_own ho (hr.all1 OpRepR.one)).mono fun i _ h => by omega, hr.mono fun x c _ h => h.plain.mono fun i _ h => by have := h.1; omega⟩⟩
    have HOR : Fact (∃ xs, wc.ownsRow w.heap.size 25 4 (.slice A2 l.length c2) l.length xs ∧ Reps (OpRepR wc (fun i => w.heap.size ≤ i ∧ (Value.slice A2 l.length c2).ownBlock ≠ some i)) l xs) := ⟨by
      obtain ⟨xs, ho, hr⟩ := HI.out.row
      have hb := HI.out.base
      exact ⟨xs, own_base ho (by omega), hr.mono fun x c _ h => h.mono fun i _ h => ⟨by have := h.1; omega, h.2.1⟩⟩⟩
    by_cases hw : wrong = 0
    · subst hw
      cases hbad : l.all opRight
      · go_wp2_with (first
          | (go_at_call 50; go_must (refine (end50 _ _ _ _ hcur.out).mono ?_); rintro e w' ⟨rfl, rfl⟩; rw [hE])
          | (go_at_call 51; go_must (refine (has51 _ _ _ _ HO.out HSL).mono ?_); rintro e w3 ⟨rfl, hk2⟩; have K2 := Fact.mk hk2; clear hk2; rw [hbad]))
        go_ret2
        have hg : getOps b = .bad 4 := by rw [getOps, if_neg (by omega), HALL.out, if_neg (by simp [hbad])]
        exact ⟨by rw [hg]; rfl, HI.out.keep.trans K2.out⟩
      · go_wp2_with (first
          | (go_at_call 50; go_must (refine (end50 _ _ _ _ hcur.out).mono ?_); rintro e w' ⟨rfl, rfl⟩; rw [hE])
          | (go_at_call 51; go_must (refine (has51 _ _ _ _ HO.out HSL).mono ?_); rintro e w3 ⟨rfl, hk2⟩; have K2 := Fact.mk hk2; clear hk2; rw [hbad]))
        go_ret2
        have hg : getOps b = .ok l := by rw [getOps, if_neg (by omega), HALL.out, if_pos (by simp [hbad])]
        obtain ⟨xs, h1, h2⟩ := HOR.out
        exact ⟨by rw [hg]; exact ⟨A2, c2, xs, rfl, own_keep h1 K2.out fun _ _ => trivial, h2.mono fun x c _ h => h.keep K2.out.all⟩, HI.out.keep.trans K2.out⟩
    · go_wp2_with (first
          | (go_at_call 50; go_must (refine (end50 _ _ _ _ hcur.out).mono ?_); rintro e w' ⟨rfl, rfl⟩; rw [hE]))
      go_ret2
      have hg : getOps b = .bad 4 := by rw [getOps, if_neg (by omega), HALL.out, if_neg (by simp [hw])]
      exact ⟨by rw [hg]; rfl, HI.out.keep⟩
theorem get13 (w : World) (G : Nat → Prop) (v : Value) (b : List UInt8) (h : By w G v b) (hlen : b.length ≤ 1000) : Calls Tryz.prog 13 #[v] w (GetPost w b) := (get13r w G v b h hlen).mono fun _ _ h => h.plain
end Go.Proofs.YtddmbdigdnmfgaaGreatDoor
