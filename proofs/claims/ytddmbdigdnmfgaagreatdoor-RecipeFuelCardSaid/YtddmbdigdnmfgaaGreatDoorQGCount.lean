/- tree.step at any tree that is right: what it hands over, and what may happen meanwhile. -/
import Derived.Sort.LoopGhostIn
import Derived.Test.YtddmbdigdnmfgaaGreatDoorQGFind
namespace Go.Proofs.YtddmbdigdnmfgaaGreatDoor
open Go.RowKit Go.Shelf
set_option maxHeartbeats 1000000
set_option maxRecDepth 100000
attribute [local go_sem] Oper.semAt_some

/-- The row that the box at Bs holds. -/
def rowAt (W : World) (Bs : Nat) : Option Nat := match W.cell? ⟨Bs, 0, none⟩ with
  | some v => v.ownBlock
  | none => none
def RowOk (Bs : Nat) (W : World) : Prop := Bs < W.heap.size ∧ ∀ g, rowAt W Bs = some g → g < W.heap.size
/-- Neither the box nor its row. -/
def Safe (Bs : Nat) (W : World) (i : Nat) : Prop := i ≠ Bs ∧ rowAt W Bs ≠ some i
/-- Every block of cells stands, but the box at Bs, and its row. -/
structure KeepR (Bs : Nat) (W W' : World) : Prop where
  size : W.heap.size ≤ W'.heap.size
  same : ∀ (i : Nat) (o : Obj), Safe Bs W i → W.heap[i]? = some o → o.isCells = true → W'.heap[i]? = some o
  row : ∀ g, rowAt W' Bs = some g → rowAt W Bs = some g ∨ W.heap.size ≤ g
  ok : RowOk Bs W → RowOk Bs W'
section
variable {w w' A B C W W' : World} {G : Nat → Prop} {Bs : Nat}
theorem KeepR.safe (k : KeepR Bs W W') {i : Nat} (hi : i < W.heap.size) (h : Safe Bs W i) : Safe Bs W' i :=
  ⟨h.1, fun e => by
    rcases k.row i e with h1 | h1
    · exact h.2 h1
    · omega⟩
theorem KeepR.refl (Bs : Nat) (W : World) : KeepR Bs W W := ⟨Nat.le_refl _, fun _ _ _ h _ => h, fun _ h => .inl h, id⟩
theorem KeepR.trans (h : KeepR Bs A B) (k : KeepR Bs B C) : KeepR Bs A C :=
  ⟨Nat.le_trans h.size k.size, fun i o hi ho hc => k.same i o (h.safe (Array.getElem?_eq_some_iff.1 ho).1 hi) (h.same i o hi ho hc) hc, fun g hg => by
    rcases k.row g hg with h1 | h1
    · exact h.row g h1
    · exact .inr (Nat.le_trans h.size h1), fun h0 => k.ok (h.ok h0)⟩
theorem rowAt_of_block {W W' : World} {Bs : Nat} (h : W'.heap[Bs]? = W.heap[Bs]?) : rowAt W' Bs = rowAt W Bs := by
  unfold rowAt
  rw [World.cell?_of_block (w := W) (w' := W') (a := ⟨Bs, 0, none⟩) h]
theorem rowAt_alloc (W : World) (o : Obj) (h : Bs < W.heap.size) : rowAt (W.alloc o) Bs = rowAt W Bs := rowAt_of_block (Below.heap_alloc W o Bs h)
theorem KeepR.alloc (h : KeepR Bs A W) (hb : Bs < W.heap.size) (o : Obj) : KeepR Bs A (W.alloc o) :=
  h.trans ⟨by simp, fun i o' _ ho _ => (Below.heap_alloc W o i (Array.getElem?_eq_some_iff.1 ho).1).trans ho, fun g hg => .inl (by rwa [rowAt_alloc W o hb] at hg),
    fun h0 => ⟨by have := h0.1; simp; omega, fun g hg => by rw [rowAt_alloc W o hb] at hg; have := h0.2 g hg; simp; omega⟩⟩
/-- The box gets a value whose row is the one it had, or a new one; blocks that are neither stay. -/
theorem KeepR.box {row : Option Nat} (hg : A.grownBy W row) (hrow : ∀ g, row = some g → rowAt A Bs = some g) (v u : Value) (hc : W.cell? ⟨Bs, 0, none⟩ = some u) (hv : ∀ g, v.ownBlock = some g → (rowAt A Bs = some g ∨ A.heap.size ≤ g) ∧ g < W.heap.size) : KeepR Bs A (W.setCell ⟨Bs, 0, none⟩ v) := by
  have e1 : (W.setCell ⟨Bs, 0, none⟩ v).heap.size = W.heap.size := by simp [World.setCell]
  have e2 : rowAt (W.setCell ⟨Bs, 0, none⟩ v) Bs = v.ownBlock := by
    unfold rowAt
    rw [World.cell?_setCell_same' _ _ _ (by rw [hc]; rfl)]
  refine ⟨by rw [e1]; exact hg.size, fun i o hi ho hcc => ?_, fun g hgv => ?_, fun h0 => ⟨by rw [e1]; exact Nat.lt_of_lt_of_le h0.1 hg.size, fun g hgv => ?_⟩⟩
  · rw [Below.heap_setCell W ⟨Bs, 0, none⟩ v i hi.1, hg.block i (Array.getElem?_eq_some_iff.1 ho).1 (fun e => hi.2 (hrow i e.symm))]
    exact ho
  · rw [e2] at hgv
    exact (hv g hgv).1
  · rw [e2] at hgv
    rw [e1]
    exact (hv g hgv).2
theorem KeepR.putObj (W : World) (l : Nat) (o o' : Obj) (hlb : l ≠ Bs) (hl : W.heap[l]? = some o) (ho : o.isCells = false) : KeepR Bs W (W.putObj l o') := by
  have e1 : rowAt (W.putObj l o') Bs = rowAt W Bs := rowAt_of_block (World.putObj_heap_other (Ne.symm hlb))
  have e2 : (W.putObj l o').heap.size = W.heap.size := by simp
  refine ⟨by rw [e2]; exact Nat.le_refl _, fun i p hi hp hc => ?_, fun g hg => .inl (by rwa [e1] at hg), fun h0 => ⟨by rw [e2]; exact h0.1, fun g hg => by rw [e1] at hg; rw [e2]; exact h0.2 g hg⟩⟩
  have : i ≠ l := fun e => by subst e; rw [hl] at hp; cases hp; rw [ho] at hc; cases hc
  exact (World.putObj_heap_other this).trans hp
theorem Blk.keepR {b : Nat} {c : List Value} {T : TypeId} (h : Blk W b c T) (k : KeepR Bs W W') (hb : Safe Bs W b) : Blk W' b c T := k.same b _ hb h rfl
theorem KeepR.cell (k : KeepR Bs W W') {p : Addr} {v : Value} (hp : Safe Bs W p.block) (h : W.cell? p = some v) : W'.cell? p = some v := by
  obtain ⟨o, ho, hc⟩ := cells_of_cell h
  exact (World.cell?_of_block (w := W) ((k.same _ _ hp ho hc).trans ho.symm)).trans h
theorem At.keepR {b off : Nat} {vs : List Value} (h : At w b off vs) (k : KeepR Bs w w') (hb : Safe Bs w b) : At w' b off vs :=
  fun j hj => k.cell (p := ⟨b, off + j, none⟩) hb (h j hj)
theorem Sl.keepR {sz n : Nat} {v : Value} {xs : List Value} (h : Sl w G sz v n xs) (k : KeepR Bs w w') (hg : ∀ i, G i → Safe Bs w i) : Sl w' G sz v n xs := by
  obtain ⟨h1, A, c, e, hl, hn, hc, hA, hx⟩ := h
  refine ⟨h1, A, c, e, hl, hn, hc, hA, fun hp => ?_⟩
  obtain ⟨b, off, ea, hb, ha⟩ := hx hp
  exact ⟨b, off, ea, hb, ha.keepR k (hg b hb)⟩
mutual
theorem RepN.keepR (k : KeepR Bs w w') (hg : ∀ i, G i → Safe Bs w i) : ∀ {x : PNode} {vb vk : Value}, RepN w G x vb vk → RepN w' G x vb vk
  | .mk _ b l, vb, vk, h => by
    rw [RepN] at *
    obtain ⟨h1, cs, h2, h3⟩ := h
    exact ⟨Sl.keepR h1 k hg, cs, h2.keepR k hg, RepK.keepR k hg h3⟩
theorem RepK.keepR (k : KeepR Bs w w') (hg : ∀ i, G i → Safe Bs w i) : ∀ {l : List (ByteArray × PNode)} {cs : List Value}, RepK w G l cs → RepK w' G l cs
  | [], cs, h => by rw [RepK] at *; exact h
  | (s, x) :: r, cs, h => by
    rw [RepK] at *
    obtain ⟨vb, vk, d, h1, h2, h3⟩ := h
    exact ⟨vb, vk, d, h1, RepN.keepR k hg h2, RepK.keepR k hg h3⟩
end
end

/-- A kid's way. -/
def joinW (way s : ByteArray) : ByteArray := if way.size = 0 then s else way ++ ⟨#[47]⟩ ++ s
mutual
/-- The ways of all nodes. -/
def waysN (way : ByteArray) : PNode → List ByteArray
  | .mk _ _ l => way :: waysK way l
def waysK (way : ByteArray) : List (ByteArray × PNode) → List ByteArray
  | [] => []
  | (s, x) :: r => waysN (joinW way s) x ++ waysK way r
end
theorem waysK_append (way : ByteArray) : ∀ (l m : PKids), waysK way (l ++ m) = waysK way l ++ waysK way m
  | [], m => by simp [waysK]
  | (s, x) :: r, m => by simp only [List.cons_append, waysK, waysK_append way r m, List.append_assoc]
theorem waysK_take {way : ByteArray} {l : PKids} {k : Nat} (h : k < l.length) : waysK way (l.take (k + 1)) = waysK way (l.take k) ++ waysN (joinW way l[k].1) l[k].2 := by
  rw [List.take_succ_eq_append_getElem h, waysK_append]
  simp [waysK]
mutual
theorem waysN_len (way : ByteArray) : ∀ x : PNode, (waysN way x).length = x.cnt
  | .mk _ _ l => by rw [waysN, PNode.cnt, List.length_cons, waysK_len way l]; omega
theorem waysK_len (way : ByteArray) : ∀ l : List (ByteArray × PNode), (waysK way l).length = cntK l
  | [] => by rw [waysK, cntK]; rfl
  | (s, x) :: r => by rw [waysK, cntK, List.length_append, waysN_len (joinW way s) x, waysK_len way r]
end
/-- A walk over the tree x goes through. -/
def StepAt (x : PNode) : Prop :=
  ∀ (F : Fence) (_ : F.depth = none) (_ : F.fn 234) (_ : F.round = none) (l n₀ Bs N : Nat) (J Jx : List XN → World → Prop) (_ : AbidesFrom n₀ J)
    (_ : ∀ m pre x W, J pre W → pre.length < N → YieldAt F m Tryz.prog l #[.string x.s, .agg #[.int .i64 x.k, .slice x.A x.m x.c, .slice x.B x.q x.cq]] W fun e W' =>
      (e = .returned (.bool true) ∧ J (pre ++ [x]) W' ∧ KeepR Bs W W') ∨ (e = .returned (.bool false) ∧ Jx (pre ++ [x]) W'))
    (n : Nat) (pre : List XN) (way : ByteArray) (dep : Nat) (G : Nat → Prop) (A B : Option Addr) (c d : Nat) (W : World) (_ : J pre W) (_ : pre.length + x.cnt ≤ N) (_ : RowOk Bs W)
    (_ : RepN W G x (.slice A x.bytes.length c) (.slice B x.kids.length d)) (_ : ∀ i, G i → i < W.heap.size ∧ Safe Bs W i) (_ : okP x dep = true) (_ : way.size ≤ 25 * dep),
    CallsIn F n Tryz.prog 234 #[.string way, .agg #[.int .i64 x.kind, .slice A x.bytes.length c, .slice B x.kids.length d], .func (.yield l) #[] #[]] W fun e W' =>
      (e = .returned (.bool true) ∧ (∃ ys, ys.map XN.s = waysN way x ∧ J (pre ++ ys) W') ∧ KeepR Bs W W') ∨ (e = .returned (.bool false) ∧ ∃ ys, Jx ys W')
theorem stepAt : ∀ x, StepAt x := by
  refine PNode.ind' ?_
  rintro k b l ih F hd h234 hro lo n₀ Bs N J Jx hJ hY n pre way dep G A B c d W hJ0 hN hBs hrep hG hok hway
  simp only [PNode.kind, PNode.bytes, PNode.kids] at *
  have hdd : ∀ k : Nat, (F.depth.isSome = true → 1 ≤ k) := fun k h => by rw [hd] at h; cases h
  have hpos : 1 ≤ PNode.cnt (.mk k b l) := by rw [PNode.cnt]; omega
  have hJ1 := hJ pre W (W.alloc (.cells #[.int .i64 k, .slice A b.length c, .slice B l.length d] 58)) none hJ0 (World.grownBy_alloc W _ none) (fun r e => by cases e)
  obtain ⟨fn, tmps, assign, body, hy, hR⟩ := hY (n - 1) pre ⟨way, k, A, b.length, c, B, l.length, d⟩ _ hJ1 (by omega)
  have B0 := Blk.new W [.int .i64 k, .slice A b.length c, .slice B l.length d] 58
  have hB := Fact.mk B0
  have hBl : Bs < W.heap.size := hBs.1
  have hs0 : Safe Bs (W.alloc (.cells #[.int .i64 k, .slice A b.length c, .slice B l.length d] 58)) W.heap.size := ⟨by omega, fun e => by rw [rowAt_alloc _ _ hBl] at e; have := hBs.2 _ e; omega⟩
  have HS0 := Fact.mk hs0
  have HBS := Fact.mk hBs
  have HREP := Fact.mk hrep
  have hl : l.length ≤ 200 := by
    rw [okP] at hok
    simp only [Bool.and_eq_true, decide_eq_true_eq] at hok
    exact hok.1.1.1.2
  have hdep : dep ≤ 8 := by
    rw [okP] at hok
    simp only [Bool.and_eq_true, decide_eq_true_eq] at hok
    exact hok.1.1.1.1.1.1.1
  have hnm : NamedP l := by
    rw [okP] at hok
    simp only [Bool.and_eq_true] at hok
    simpa only [namedP, decide_eq_true_eq] using hok.1.2
  have hkk : okK l (dep + 1) = true := by
    rw [okP] at hok
    simp only [Bool.and_eq_true] at hok
    exact hok.2
  have HNM := Fact.mk hnm
  have HKK := Fact.mk (okK_iff.1 hkk)
  have HG := Fact.mk hG
  have HN := Fact.mk hN
  have IH := Fact.mk ih
  have hR1 := hR.mono (R' := fun e W2 => (e = .returned (.bool true) ∧ W2.cell? ⟨W.heap.size, 2, none⟩ = some (.slice B l.length d) ∧ Fact (KeepR Bs (W.alloc (.cells #[.int .i64 k, .slice A b.length c, .slice B l.length d] 58)) W2) ∧ Fact (J (pre ++ [⟨way, k, A, b.length, c, B, l.length, d⟩]) W2)) ∨ (e = .returned (.bool false) ∧ Fact (Jx (pre ++ [⟨way, k, A, b.length, c, B, l.length, d⟩]) W2)))
    (fun e W2 h => h.elim (fun ⟨he, hj, hk⟩ => .inl ⟨he, (hB.out.keepR hk HS0.out).cell 2 _ rfl, ⟨hk⟩, ⟨hj⟩⟩) (fun ⟨he, hx⟩ => .inr ⟨he, ⟨hx⟩⟩))
  have HJ := Fact.mk hJ
  have HY := Fact.mk hY
  refine callsIn_of_wp Tryz.func234 rfl h234 ?_ hro
  simp only [Tryz.ntmps234, List.size_toArray, List.length_cons, List.length_nil, Nat.reduceAdd, Nat.reduceSub, Array.replicate_succ, Array.replicate_zero, List.push_toArray, List.append_toArray, List.nil_append, List.cons_append]
  clear B0 hY hJ hR hJ0 hJ1 hrep hnm hkk hok hG hN ih
  gi_wp2_with (first
    | ((try refine ⟨hdd _, ?_⟩); refine hR1.mono ?_; clear hR1; rintro e W2 (⟨rfl, c2, hka, hj⟩ | ⟨rfl, hx⟩)))
  · have hkw : Fact (KeepR Bs W W2) := ⟨((KeepR.refl _ _).alloc hBl _).trans hka.out⟩
    have HS2 : Fact (Safe Bs W2 W.heap.size) := ⟨hka.out.safe (by simp) HS0.out⟩
    have hr2 := Fact.mk (HREP.out.keepR hkw.out fun i hi => (HG.out i hi).2)
    have HG2 : Fact (∀ i, G i → i < W2.heap.size ∧ Safe Bs W2 i) := ⟨fun i hi => ⟨Nat.lt_of_lt_of_le (HG.out i hi).1 hkw.out.size, hkw.out.safe (HG.out i hi).1 (HG.out i hi).2⟩⟩
    have hB2 := Fact.mk (hkw.out.ok HBS.out)
    have hsz : W.heap.size < W2.heap.size := by have := hka.out.size; simp at this; omega
    gi_loopg [18] l.length (fun g i w' => ∃ j ys, j + g = l.length ∧ i = .int .i64 j ∧ Fact (ys.map XN.s = way :: waysK way (l.take j)) ∧ Fact (J (pre ++ ys) w') ∧ Fact (KeepR Bs W w') ∧ Fact (KeepR Bs W2 w'))
    case atStart => exact ⟨0, [⟨way, k, A, b.length, c, B, l.length, d⟩], by omega, rfl, ⟨by simp [waysK]⟩, ⟨hj.out⟩, ⟨hkw.out⟩, ⟨KeepR.refl _ _⟩⟩
    case round =>
      obtain ⟨j, ys, hjj, rfl, hys, hJw, hk1, hk2⟩ := hrel
      have HJJ := Fact.mk hjj
      have HR := hr2.out.keepR hk2.out (fun i hi => (HG2.out i hi).2)
      have c2w := hk2.out.cell (p := ⟨W.heap.size, 2, none⟩) HS2.out c2
      clear hjj c2
      by_cases hlt : j < l.length
      · have hat := (HR.open).2.2.2.2.2.2.2
        simp only [PNode.kids] at hat
        obtain ⟨g, off, vb, vk, rfl, hg, a0, a1, a2, a3, hr1⟩ := hat j hlt
        obtain ⟨P1, n1, Q1, m1, rfl, rfl⟩ := hr1.forms
        clear hat
        have hnm := HNM.out j hlt
        have hs24 := hnm.1.2.1
        obtain ⟨hs0, -⟩ := hnm.1.2.2
        have HB3 := Fact.mk (hk2.out.ok hB2.out)
        have hb3 := HB3.out.1
        have HG3 : Fact (∀ i, G i → i < wr.heap.size ∧ Safe Bs wr i) := ⟨fun i hi => ⟨Nat.lt_of_lt_of_le (HG2.out i hi).1 hk2.out.size, hk2.out.safe (HG2.out i hi).1 (HG2.out i hi).2⟩⟩
        have HR1 := Fact.mk hr1
        have hlen : ys.length = 1 + cntK (l.take j) := by
          have := congrArg List.length hys.out
          rw [List.length_map, List.length_cons, waysK_len] at this
          omega
        have HLEN : Fact ((pre ++ ys).length + l[j].2.cnt ≤ N) := ⟨by
          have h1 := HN.out
          have h2 : cntK (l.take j) + l[j].2.cnt ≤ cntK l := by rw [← cntK_take hlt]; exact cntK_le _
          rw [PNode.cnt] at h1
          rw [List.length_append]
          omega⟩
        have hJ3 := Fact.mk (HJ.out _ wr (wr.alloc (.cells #[.string l[j].1, .int .i64 l[j].2.kind, .slice P1 l[j].2.bytes.length n1, .slice Q1 l[j].2.kids.length m1] 71)) none hJw.out (World.grownBy_alloc wr _ none) (fun r e => by cases e))
        have hs := Fact.mk (fun next hn2 => IH.out _ (List.getElem_mem hlt) F hd h234 hro lo n₀ Bs N J Jx HJ.out HY.out (n - 1) (pre ++ ys) next (dep + 1) G P1 Q1 n1 m1 _ hJ3.out HLEN.out (((KeepR.refl _ _).alloc hb3 _).ok HB3.out) (HR1.out.keep ((Keep.refl _ _).alloc _)) (fun i hi => ⟨Nat.lt_of_lt_of_le (HG3.out i hi).1 ((KeepR.refl Bs _).alloc hb3 _).size, ((KeepR.refl _ _).alloc hb3 _).safe (HG3.out i hi).1 (HG3.out i hi).2⟩) (HKK.out j hlt) hn2)
        clear hnm hr1 hlen HR hJ3 HR1
        obtain ⟨lk, hlk⟩ : ∃ lk, lk = l[j].2.kids.length := ⟨_, rfl⟩
        obtain ⟨lb, hlb⟩ : ∃ lb, lb = l[j].2.bytes.length := ⟨_, rfl⟩
        rw [← hlk] at a3 hs
        rw [← hlb] at a2 hs
        clear hlk hlb
        by_cases hw0 : way.size = 0
        · have hwe : way = ⟨#[]⟩ := by
            obtain ⟨d⟩ := way
            congr
            exact Array.eq_empty_of_size_eq_zero (by have : d.size = (ByteArray.mk d).size := rfl; omega)
          subst hwe
          have HNX : Fact (joinW ⟨#[]⟩ l[j].1 = l[j].1) := ⟨rfl⟩
          have HS' := Fact.mk (hs.out l[j].1 (by omega))
          clear hs
          gi_wp2_with ((try refine ⟨hdd _, ?_⟩); gi_at_call 234; (with_reducible refine HS'.out.mono ?_); clear HS'; rintro e W3 (⟨rfl, ⟨zs, hz, hj3⟩, hk3⟩ | ⟨rfl, zs, hx3⟩); have HZ := Fact.mk hz; have HJ3 := Fact.mk hj3; have HK3 := Fact.mk hk3; clear hz hj3 hk3; rotate_left; have HX3 := Fact.mk hx3; clear hx3; rotate_left)
          · gi_roundg (gk - 1)
            case measure => have := HJJ.out; omega
            case rel => exact ⟨j + 1, ys ++ zs, by have := HJJ.out; omega, by go_num, ⟨by rw [List.map_append, hys.out, HZ.out, waysK_take hlt, HNX.out]; rfl⟩, ⟨by rw [← List.append_assoc]; exact HJ3.out⟩, ⟨(hk1.out.alloc hb3 _).trans HK3.out⟩, ⟨(hk2.out.alloc hb3 _).trans HK3.out⟩⟩
          · go_ret
            exact .inr ⟨rfl, zs, HX3.out⟩
        · have hne : way.toList ≠ [] := toList_ne (by omega)
          have hne2 : way.toList.isEmpty = false := by simpa using hne
          have HNX : Fact (joinW way l[j].1 = way ++ ⟨#[47]⟩ ++ l[j].1) := ⟨by rw [joinW, if_neg hw0]⟩
          have q1 : way.size + (ByteArray.mk #[47]).size ≤ maxLen := by unfold maxLen; show way.size + 1 ≤ _; omega
          have q2 : (way ++ ⟨#[47]⟩).size + l[j].1.size ≤ maxLen := by unfold maxLen; rw [ByteArray.size_append]; show way.size + 1 + _ ≤ _; omega
          have q3 : (way ++ ⟨#[47]⟩ ++ l[j].1).size ≤ 25 * (dep + 1) := by rw [ByteArray.size_append, ByteArray.size_append]; show way.size + 1 + _ ≤ _; omega
          have Q3 := Fact.mk q3
          clear q3
          have HS' := Fact.mk (hs.out (way ++ ⟨#[47]⟩ ++ l[j].1) Q3.out)
          clear hs
          gi_wp2_with ((try refine ⟨hdd _, ?_⟩); gi_at_call 234; (with_reducible refine HS'.out.mono ?_); clear HS'; rintro e W3 (⟨rfl, ⟨zs, hz, hj3⟩, hk3⟩ | ⟨rfl, zs, hx3⟩); have HZ := Fact.mk hz; have HJ3 := Fact.mk hj3; have HK3 := Fact.mk hk3; clear hz hj3 hk3; rotate_left; have HX3 := Fact.mk hx3; clear hx3; rotate_left)
          · gi_roundg (gk - 1)
            case measure => have := HJJ.out; omega
            case rel => exact ⟨j + 1, ys ++ zs, by have := HJJ.out; omega, by go_num, ⟨by rw [List.map_append, hys.out, HZ.out, waysK_take hlt, HNX.out]; rfl⟩, ⟨by rw [← List.append_assoc]; exact HJ3.out⟩, ⟨(hk1.out.alloc hb3 _).trans HK3.out⟩, ⟨(hk2.out.alloc hb3 _).trans HK3.out⟩⟩
          · go_ret
            exact .inr ⟨rfl, zs, HX3.out⟩
      · have hjl : j = l.length := by have := HJJ.out; omega
        have HY2 : Fact (ys.map XN.s = waysN way (.mk k b l)) := ⟨by rw [hys.out, hjl, List.take_length, waysN]⟩
        gi_wp2
        go_ret
        exact .inl ⟨rfl, ⟨ys, HY2.out, hJw.out⟩, hk1.out⟩
  · go_ret
    exact .inr ⟨rfl, _, hx.out⟩
end Go.Proofs.YtddmbdigdnmfgaaGreatDoor

/- tree.Count, tree.Ways at any right tree. -/
namespace Go.Proofs.YtddmbdigdnmfgaaGreatDoor
open Go.RowKit Go.Shelf
set_option maxHeartbeats 1000000
set_option maxRecDepth 100000
attribute [local go_sem] Oper.semAt_some

/-- The iterator: its box holds x. -/
theorem iter233g (F : Fence) (hd : F.depth = none) (h233 : F.fn 233) (h234 : F.fn 234) (hro : F.round = none) (n : Nat) (w0 w : World) (x : PNode) (A B : Option Addr) (c d Bt Bs : Nat) (hrep : RepN w0 (fun i => i < w0.heap.size) x (.slice A x.bytes.length c) (.slice B x.kids.length d)) (hr : rightP x = true)
    (hBt : Blk w Bt [.int .i64 x.kind, .slice A x.bytes.length c, .slice B x.kids.length d] 58) (hBs : RowOk Bs w) (h0 : w0.heap.size ≤ Bs) (hrow : ∀ g, rowAt w Bs = some g → w0.heap.size ≤ g) (hb : Below w0.heap.size w0 w) :
    SeqStopsK F n Tryz.prog 233 #[.pointer (some ⟨Bt, 0, none⟩)] (fun x : XN => #[.string x.s, .agg #[.int .i64 x.k, .slice x.A x.m x.c, .slice x.B x.q x.cq]]) (KeepR Bs) (fun ys => ys.map XN.s = waysN ⟨#[]⟩ x) (fun _ => True) x.cnt w := fun l J Jx W hW hJ hJx hY hJ0 => by
  have hdd : ∀ k : Nat, (F.depth.isSome = true → 1 ≤ k) := fun k h => by rw [hd] at h; cases h
  have B1 : Blk W Bt [.int .i64 x.kind, .slice A x.bytes.length c, .slice B x.kids.length d] 58 := (hW.block Bt hBt.lt).trans hBt
  have t0 := B1.cell 0 _ rfl
  have t1 := B1.cell 1 _ rfl
  have t2 := B1.cell 2 _ rfl
  have hrw : rowAt W Bs = rowAt w Bs := rowAt_of_block (hW.block Bs hBs.1)
  have hok : RowOk Bs W := ⟨Nat.lt_of_lt_of_le hBs.1 hW.size, fun g hg => by rw [hrw] at hg; exact Nat.lt_of_lt_of_le (hBs.2 g hg) hW.size⟩
  have hbb := hb.trans (hW.mono hb.size)
  have hk : Keep (fun i => i < w0.heap.size) w0 W := ⟨hbb.os, hbb.tape, hbb.output, hbb.size, fun i hi _ => hbb.block i hi⟩
  have hp := Fact.mk (stepAt x F hd h234 hro l W.heap.size Bs x.cnt J Jx hJ (fun m pre x W1 hj hl => yield_any hd m (hY pre x W1 hj hl)) (n - 1) [] ⟨#[]⟩ 1 (fun i => i < w0.heap.size) A B c d W hJ0 (by simp) hok (hrep.keep hk) (fun i hi => ⟨Nat.lt_of_lt_of_le hi hbb.size, by omega, fun e => by rw [hrw] at e; have := hrow i e; omega⟩) (rightP_ok hr) (by decide))
  clear hrep hBt hb hbb hk hrw hok hJ hJx hY hJ0 B1 hW
  show CallsIn F n Tryz.prog 233 #[.func (.yield l) #[] #[], .pointer (some ⟨Bt, 0, none⟩)] W _
  refine callsIn_of_wp Tryz.func233 rfl h233 ?_ hro
  simp only [Tryz.ntmps233, List.size_toArray, List.length_cons, List.length_nil, Nat.reduceAdd, Nat.reduceSub, Array.replicate_succ, Array.replicate_zero, List.push_toArray, List.append_toArray, List.nil_append, List.cons_append]
  gi_wp2_with ((try refine ⟨hdd _, ?_⟩); gi_at_call 234; refine hp.out.mono ?_; clear hp; rintro e W1 (⟨rfl, ⟨ys, hys, hj⟩, _⟩ | ⟨rfl, ys, hx⟩))
  · go_end0
    exact ⟨⟨_, rfl⟩, .inl ⟨ys, hys, hj⟩⟩
  · go_end0
    exact ⟨⟨_, rfl⟩, .inr ⟨ys, trivial, hx⟩⟩
theorem walk212g (w : World) (x : PNode) (A B : Option Addr) (c d : Nat) : Calls Tryz.prog 212 #[.agg #[.int .i64 x.kind, .slice A x.bytes.length c, .slice B x.kids.length d]] w
    fun e w' => e = .returned (.func (.func 233) #[] #[.pointer (some ⟨w.heap.size, 0, none⟩)]) ∧ w' = w.alloc (.cells #[.int .i64 x.kind, .slice A x.bytes.length c, .slice B x.kids.length d] 58) := by
  go_enter Tryz.func212, Tryz.ntmps212
  go_wp2
  go_ret
  exact ⟨rfl, rfl⟩
theorem count204g (w : World) (G : Nat → Prop) (x : PNode) (v : Value) (h : NodeV w G x v) (hr : rightP x = true) :
    Calls Tryz.prog 204 #[v] w
      fun e w' => (∃ deep b : Int, e = .returned (.tuple #[.int .i64 x.cnt, .int .i64 deep, .int .i64 b])) ∧ Keep All w w' := by
  obtain ⟨A, c, B, d, rfl, hrep0⟩ := h
  have HREP := Fact.mk (hrep0.mono (H := fun i => i < w.heap.size) fun i hi _ => hi)
  have HR := Fact.mk hr
  clear hrep0 hr
  refine (callsIn_wide (n := 9)).1 ?_
  refine callsIn_of_wp_marks Tryz.func204 rfl trivial ?_ rfl
  simp only [Tryz.ntmps204, List.size_toArray, List.length_cons, List.length_nil, Nat.reduceAdd, Nat.reduceSub, Array.replicate_succ, Array.replicate_zero, List.push_toArray, List.append_toArray, List.nil_append, List.cons_append]
  gi_wp2_with (first
    | (refine ⟨trivial, ?_⟩; gi_at_call 67; refine (callsIn_wide.2 (looked67g _ (fun i => i < w.heap.size) x _ ⟨A, c, B, d, rfl, HREP.out.keep (((Keep.refl _ w).alloc _).alloc _)⟩)).mono ?_; rintro e w1 ⟨lb, bm, rfl, hlb, hk, hL⟩; obtain ⟨deep, hL⟩ := hL HR.out; rw [HR.out]; have HL := Fact.mk hL; have K := Fact.mk hk; have HLB := Fact.mk hlb; have t0 := hk.cell (p := ⟨w.heap.size, 0, none⟩) trivial (v := .int .i64 x.kind) (by simp); have t1 := hk.cell (p := ⟨w.heap.size, 1, none⟩) trivial (v := .slice A x.bytes.length c) (by simp); have t2 := hk.cell (p := ⟨w.heap.size, 2, none⟩) trivial (v := .slice B x.kids.length d) (by simp); clear hL hk hlb)
    | (refine ⟨trivial, ?_⟩; gi_at_call 212; refine (callsIn_wide.2 (walk212g _ x A B c d)).mono ?_; rintro e w2 ⟨rfl, rfl⟩))
  have hs1 := HLB.out
  simp only [World.size_alloc] at hs1
  have hKw := K.out.below
  simp only [World.size_alloc] at hKw
  have hB0 : Below w.heap.size w w1 := (((Below.refl _ w).alloc (Nat.le_refl _) _).alloc (by simp) _).trans (hKw.mono (by omega))
  have b4 : Blk w1 (w.heap.size + 1) [.int .i64 0] 3 := (by
    have := Blk.new (w.alloc (.cells #[.int .i64 x.kind, .slice A x.bytes.length c, .slice B x.kids.length d] 58)) [.int .i64 0] 3
    rw [World.size_alloc] at this
    exact this.keep K.out trivial)
  obtain ⟨W0, hW0⟩ : ∃ W0, w1.alloc (.cells #[.int .i64 x.kind, .slice A x.bytes.length c, .slice B x.kids.length d] 58) = W0 := ⟨_, rfl⟩
  have bT : Blk W0 w1.heap.size [.int .i64 x.kind, .slice A x.bytes.length c, .slice B x.kids.length d] 58 := hW0 ▸ Blk.new w1 [.int .i64 x.kind, .slice A x.bytes.length c, .slice B x.kids.length d] 58
  have hBW : Below w.heap.size w W0 := hW0 ▸ hB0.alloc hB0.size _
  have bL : Blk W0 lb [.map (some bm), .int .i64 x.cnt, .int .i64 deep] 195 := hW0 ▸ HL.out.blk.alloc _
  have b4' : Blk W0 (w.heap.size + 1) [.int .i64 0] 3 := hW0 ▸ b4.alloc _
  have hsz : w1.heap.size < W0.heap.size := bT.lt
  have hsz2 : w.heap.size + 1 < w1.heap.size := b4.lt
  rw [hW0]
  clear hW0 t0 t1 t2
  refine wpIn_rangeFunc_ownH rfl (by decide) (gf := 233) (lb := #[.pointer (some ⟨w1.heap.size, 0, none⟩)]) rfl trivial (enters_of Tryz.func233 (by kernel_rfl) rfl)
    (iter233g Fence.wide rfl trivial trivial rfl 8 w W0 x A B c d w1.heap.size (w.heap.size + 1) HREP.out HR.out bT ⟨by omega, fun g hg => by rw [rowAt, b4'.cell 0 _ rfl] at hg; cases hg⟩ (by omega) (fun g hg => by rw [rowAt, b4'.cell 0 _ rfl] at hg; cases hg) hBW)
    KeepR.trans (fun W l o o' h0 hl ho _ => KeepR.putObj W l o o' (by omega) hl ho) (Below.refl _ _) (fun _ => rfl)
    (fun pre W => ((∃ v : Int, Blk W (w.heap.size + 1) [.int .i64 v] 3) ∧ Blk W lb [.map (some bm), .int .i64 x.cnt, .int .i64 deep] 195) ∧ Below w.heap.size w W)
    (fun _ _ _ => False)
    (OwnFrom.and (OwnFrom.and (fun s A B row hs hg hr => by obtain ⟨v, hv⟩ := hs; exact ⟨v, blk_own _ _ _ _ s A B row hv hg hr⟩) (blk_own _ _ _ _)) (ownFrom_below (Nat.le_refl _) (by omega)))
    (fun _ _ _ _ _ hs _ _ => hs)
    ⟨⟨⟨0, b4'⟩, bL⟩, hBW⟩
    (fun y a' W => ∃ Bx, w.heap.size + 1 < Bx ∧ Blk W Bx [.int .i64 y.k, .slice y.A y.m y.c, .slice y.B y.q y.cq] 58 ∧ a' = { tmps := #[.agg #[.int .i64 x.kind, .slice A x.bytes.length c, .slice B x.kids.length d], .pointer (some ⟨w.heap.size, 0, none⟩), .int .i64 0, .int .i64 0, .pointer (some ⟨w.heap.size + 1, 0, none⟩), .pointer (some ⟨lb, 0, none⟩), .bool true, undef, .pointer (some ⟨Bx, 0, none⟩), .tuple #[.pointer (some ⟨lb, 0, none⟩), .bool true], .agg #[.int .i64 x.kind, .slice A x.bytes.length c, .slice B x.kids.length d], .tuple #[.pointer (some ⟨lb, 0, none⟩), .bool true], .pointer (some ⟨lb, 0, none⟩), .bool true, .bool true, .bool false, .agg #[.int .i64 x.kind, .slice A x.bytes.length c, .slice B x.kids.length d], .func (.func 233) #[] #[.pointer (some ⟨w1.heap.size, 0, none⟩)], .string y.s, .agg #[.int .i64 y.k, .slice y.A y.m y.c, .slice y.B y.q y.cq], undef, undef, undef, undef, undef, undef, undef, undef, undef, undef, undef, undef, undef, undef], defers := [] })
    (fun y a' _ X Y row hs hg hr => by obtain ⟨Bx, h1, h2, h3⟩ := hs; exact ⟨Bx, h1, blk_own _ _ _ _ () X Y row h2 hg hr, h3⟩)
    ?assign ?body ?done ?stop
  case assign =>
    rintro l pre y W K1 ⟨⟨⟨v, bS⟩, bL1⟩, hB1⟩ hK
    gi_wp2
    exact hK _ _ ((KeepsOthers.alloc _ _).from _) ((KeepR.refl _ W).alloc bS.lt _) ⟨⟨⟨v, bS.alloc _⟩, bL1.alloc _⟩, hB1.alloc hB1.size _⟩ ⟨W.heap.size, bS.lt, Blk.new W [.int .i64 y.k, .slice y.A y.m y.c, .slice y.B y.q y.cq] 58, rfl⟩
  case body =>
    rintro l pre y a' W hl ⟨r, hr⟩ ⟨⟨⟨v, bS⟩, bL1⟩, hB1⟩ ⟨Bx, hBx, bX, rfl⟩ hlt
    have cS := bS.cell 0 _ rfl
    have fS := bS.free 0
    have cX := bX.cell 1 _ rfl
    gi_wp2
    exact ⟨(KeepsOthers.setCell _ _ _).from _, KeepR.box (row := none) ⟨rfl, rfl, rfl, Nat.le_refl _, fun _ _ _ => rfl⟩ (fun g h => by cases h) _ _ cS (fun g h => by cases h), ⟨⟨_, bS.set 0 _⟩, bL1.other ⟨w.heap.size + 1, 0, none⟩ (by show lb ≠ w.heap.size + 1; omega) _⟩, hB1.setCell (p := ⟨w.heap.size + 1, 0, none⟩) (by simp) _⟩
  case done =>
    rintro D ys W hD _ ⟨⟨⟨v, bS⟩, bL1⟩, hB1⟩ hK
    have cS := bS.cell 0 _ rfl
    have fS := bS.free 0
    have cL1 := bL1.cell 1 _ rfl
    have cL2 := bL1.cell 2 _ rfl
    gi_wp2
    gi_region
    gi_wp2
    have hK2 : ((W.setCell ⟨w.heap.size + 1, 0, none⟩ (.int .i64 v)).drew).heap[D]? = some (.deferred (some [])) := (KeepsOthers.setCell _ _ _).same D _ hK rfl
    have bS2 : Blk ((W.setCell ⟨w.heap.size + 1, 0, none⟩ (.int .i64 v)).drew) (w.heap.size + 1) [.int .i64 v] 3 := (bS.set 0 (.int .i64 v)).drew
    have hB2 : Below w.heap.size w ((W.setCell ⟨w.heap.size + 1, 0, none⟩ (.int .i64 v)).drew) := (hB1.setCell (p := ⟨w.heap.size + 1, 0, none⟩) (by simp) (.int .i64 v)).drew
    obtain ⟨W3, hW3⟩ : ∃ W3, (W.setCell ⟨w.heap.size + 1, 0, none⟩ (.int .i64 v)).drew = W3 := ⟨_, rfl⟩
    rw [hW3] at hK2 bS2 hB2 ⊢
    clear hW3
    have hp4 : Blk (W3.putObj D (.deferred none)) (w.heap.size + 1) [.int .i64 v] 3 := bS2.grown (grownBy_putObj' _ _ _) (fun e => by
      cases e
      have hb' : W3.heap[w.heap.size + 1]? = some (.cells [Value.int .i64 v].toArray 3 (0, 0)) := bS2
      rw [hb'] at hK2; cases hK2)
    have hB3 : Below w.heap.size w (W3.putObj D (.deferred none)) := hB2.trans (belowK_b (w := w) (Nat.le_refl _) W3 D _ _ (by omega) hK2 rfl rfl)
    refine ⟨by simp, .inl ⟨_, _, rfl, run_takeDeferred hK2, ?_⟩⟩
    obtain ⟨W4, hW4⟩ : ∃ W4, W3.putObj D (.deferred none) = W4 := ⟨_, rfl⟩
    rw [hW4] at hp4 hB3 ⊢
    have c4 := hp4.cell 0 _ rfl
    refine ⟨.tuple #[.int .i64 x.cnt, .int .i64 deep, .int .i64 v], ?_, ⟨deep, v, rfl⟩, Keep.of_below hB3⟩
    simp [results, Tryz.f204]
    go_simp
  case stop =>
    rintro D c pre W _ _ h _
    exact h.elim
/-- append onto what the call owns, inside a fence: where the row lies. -/
theorem wpListIn_ap {F : Fence} {k : Nat} {P : Program} {w : World} {ops : Array Oper} {rest : List Oper} {o : Oper} {a : Act} {Q : Exit → Act → World → Prop} (hgd : o.guard = none) (s x : Operand) (t e : TypeId) (sz bytes base n m : Nat) {v xv : Value} {xs ys : List Value} {G : Nat → Prop}
    (hown : w.ownsRow base e sz v n xs) (hxs : Sl w G sz xv m ys) (ho : o.op = .call { callee := .builtin .append, args := #[s, x], argTypes := #[t, t] }) (hT : SlTy P t e sz bytes) (hs : a.eval s = v) (hx : a.eval x = xv)
    (hf : Fits n m bytes) (hbase : base ≤ w.heap.size)
    (h : ∀ v' w', w'.ownsRow base e sz v' (n + m) (xs ++ ys) → w.grownBy w' v.ownBlock → (v'.ownBlock = v.ownBlock ∨ v'.ownBlock = some w.heap.size) → wpListIn F k P ops Q rest (a.put o.dst v') w') : wpListIn F k P ops Q (o :: rest) a w := by
  refine wpListIn_plain hgd fun K hK' => ?_
  obtain ⟨v', w', hrun, r1, r2, r3⟩ := run_ap (ty := o.type) hT hown hxs hf.1 hf.2 hbase
  unfold Oper.wpIn
  refine ⟨?_, ?_⟩
  · simp [Oper.about, ho, resolve, Target.leads, Sem.run_pure]
  · rw [Oper.semAt_plain F _ _ (by rw [ho]; intro c hc'; cases hc')]
    simp [execOp, ho, resolve, invoke, builtin, hs, hx, hrun, Result.andThen]
    exact hK' _ _ (h v' w' r1 r2 r3)
theorem T125 : SlTy Tryz.prog 125 9 1 16 := by
  obtain ⟨i, hi, h0, h1, h2⟩ := info_parts (P := Tryz.prog) (e := 9) (z := .string ⟨#[]⟩) (size := 1) (bytes := 16) (by kernel_rfl)
  exact ⟨Tryz.underlying125, by decide, i, _, hi, h0, h1, h2, rfl⟩
theorem grown_from {W W' : World} {base sz n : Nat} {e : TypeId} {v : Value} {xs : List Value} (h : W.ownsRow base e sz v n xs) (hg : W.grownBy W' v.ownBlock) (B : Nat) : KeepsFrom B W W' :=
  ⟨hg.size, fun i o _ ho hc => by
    rw [hg.block i (Array.getElem?_eq_some_iff.1 ho).1 (fun e' => ?_)]
    · exact ho
    · rcases h.2 with ⟨rfl, _⟩ | ⟨g, cap, cur, rfl, _, hh, _⟩
      · cases e'
      · cases e'
        rw [hh] at ho
        cases ho
        cases hc⟩
/-- What Ways answers: the ways of all nodes. -/
def WaysPost (w : World) (x : PNode) (e : Ending) (w' : World) : Prop := ∃ A c, e = .returned (.slice A x.cnt c) ∧ w'.ownsRow w.heap.size 9 1 (.slice A x.cnt c) x.cnt ((waysN ⟨#[]⟩ x).map Value.string) ∧ Keep All w w'
theorem rightP_cnt {x : PNode} (h : rightP x = true) : x.cnt ≤ 200 := by
  unfold rightP rightB at h
  rw [Bool.and_eq_true, decide_eq_true_eq] at h
  omega
theorem ways176g (w : World) (G : Nat → Prop) (x : PNode) (v : Value) (h : NodeV w G x v) (hr : rightP x = true) : Calls Tryz.prog 176 #[v] w (WaysPost w x) := by
  obtain ⟨A, c, B, d, rfl, hrep0⟩ := h
  have HREP := Fact.mk (hrep0.mono (H := fun i => i < w.heap.size) fun i hi _ => hi)
  have HR := Fact.mk hr
  have hcnt := rightP_cnt hr
  clear hrep0 hr
  refine (callsIn_wide (n := 9)).1 ?_
  refine callsIn_of_wp_marks Tryz.func176 rfl trivial ?_ rfl
  simp only [Tryz.ntmps176, List.size_toArray, List.length_cons, List.length_nil, Nat.reduceAdd, Nat.reduceSub, Array.replicate_succ, Array.replicate_zero, List.push_toArray, List.append_toArray, List.nil_append, List.cons_append]
  gi_wp2_with (first
    | (refine ⟨trivial, ?_⟩; gi_at_call 29; refine (callsIn_wide.2 (right29g _ (fun i => i < w.heap.size) x _ ⟨A, c, B, d, rfl, HREP.out.keep (((Keep.refl _ w).alloc _).alloc _)⟩)).mono ?_; rintro e w1 ⟨rfl, hk⟩; rw [HR.out]; have K := Fact.mk hk; have t0 := hk.cell (p := ⟨w.heap.size, 0, none⟩) trivial (v := .int .i64 x.kind) (by simp); have t1 := hk.cell (p := ⟨w.heap.size, 1, none⟩) trivial (v := .slice A x.bytes.length c) (by simp); have t2 := hk.cell (p := ⟨w.heap.size, 2, none⟩) trivial (v := .slice B x.kids.length d) (by simp); clear hk)
    | (refine ⟨trivial, ?_⟩; gi_at_call 212; refine (callsIn_wide.2 (walk212g _ x A B c d)).mono ?_; rintro e w2 ⟨rfl, rfl⟩))
  have hKw := K.out.below
  simp only [World.size_alloc] at hKw
  have hB0 : Below w.heap.size w w1 := (((Below.refl _ w).alloc (Nat.le_refl _) _).alloc (by simp) _).trans (hKw.mono (by omega))
  have b4 : Boxed w1 (w.heap.size + 1) 125 (.slice none 0 0) := (by
    have := Blk.new (w.alloc (.cells #[.int .i64 x.kind, .slice A x.bytes.length c, .slice B x.kids.length d] 58)) [.slice none 0 0] 125
    rw [World.size_alloc] at this
    exact this.keep K.out trivial)
  obtain ⟨W0, hW0⟩ : ∃ W0, w1.alloc (.cells #[.int .i64 x.kind, .slice A x.bytes.length c, .slice B x.kids.length d] 58) = W0 := ⟨_, rfl⟩
  have bT : Blk W0 w1.heap.size [.int .i64 x.kind, .slice A x.bytes.length c, .slice B x.kids.length d] 58 := hW0 ▸ Blk.new w1 [.int .i64 x.kind, .slice A x.bytes.length c, .slice B x.kids.length d] 58
  have hBW : Below w.heap.size w W0 := hW0 ▸ hB0.alloc hB0.size _
  have b4' : Boxed W0 (w.heap.size + 1) 125 (.slice none 0 0) := hW0 ▸ Blk.alloc b4 _
  have hsz : w1.heap.size < W0.heap.size := bT.lt
  have hsz2 : w.heap.size + 1 < w1.heap.size := b4.lt
  rw [hW0]
  clear hW0 t0 t1 t2
  refine wpIn_rangeFunc_ownH rfl (by decide) (gf := 233) (lb := #[.pointer (some ⟨w1.heap.size, 0, none⟩)]) rfl trivial (enters_of Tryz.func233 (by kernel_rfl) rfl)
    (iter233g Fence.wide rfl trivial trivial rfl 8 w W0 x A B c d w1.heap.size (w.heap.size + 1) HREP.out HR.out bT ⟨by omega, fun g hg => by rw [rowAt, b4'.cell] at hg; cases hg⟩ (by omega) (fun g hg => by rw [rowAt, b4'.cell] at hg; cases hg) hBW)
    KeepR.trans (fun W l o o' h0 hl ho _ => KeepR.putObj W l o o' (by omega) hl ho) (Below.refl _ _) (fun _ => rfl)
    (fun pre W => (∃ v, Boxed W (w.heap.size + 1) 125 v ∧ W.ownsRow (w.heap.size + 2) 9 1 v pre.length (pre.map fun y => .string y.s) ∧ True) ∧ Below w.heap.size w W)
    (fun _ _ _ => False)
    (OwnFrom.and (Own.from (holdsRow_own _ _ _ _ _ _ _ _) _) (ownFrom_below (Nat.le_refl _) (by omega)))
    (fun _ _ _ _ _ hs _ _ => hs)
    ⟨⟨_, b4', World.ownsRow_nil _ _ _ _, trivial⟩, hBW⟩
    (fun y a' W => a' = { tmps := #[.agg #[.int .i64 x.kind, .slice A x.bytes.length c, .slice B x.kids.length d], .pointer (some ⟨w.heap.size, 0, none⟩), .pointer (some ⟨w.heap.size + 1, 0, none⟩), .string y.s, .agg #[.int .i64 x.kind, .slice A x.bytes.length c, .slice B x.kids.length d], .bool true, .bool false, .agg #[.int .i64 x.kind, .slice A x.bytes.length c, .slice B x.kids.length d], .func (.func 233) #[] #[.pointer (some ⟨w1.heap.size, 0, none⟩)], .string y.s, .agg #[.int .i64 y.k, .slice y.A y.m y.c, .slice y.B y.q y.cq], undef, undef, undef, undef, undef], defers := [] })
    (fun y a' _ X Y row hs hg hr => hs)
    ?assign ?body ?done ?stop
  case assign =>
    rintro l pre y W K1 ⟨⟨v, bS, hrow, -⟩, hB1⟩ hK
    gi_wp2
    exact hK _ _ (KeepsFrom.refl _ _) (KeepR.refl _ W) ⟨⟨v, bS, hrow, trivial⟩, hB1⟩ rfl
  case body =>
    rintro l pre y a' W hl ⟨r, hr⟩ ⟨⟨v, bS, hrow, -⟩, hB1⟩ rfl hlt
    have cS := bS.cell
    have BS := Fact.mk bS
    have HROW := Fact.mk hrow
    have HB1 := Fact.mk hB1
    have hWs : w.heap.size + 1 < W.heap.size := bS.lt
    obtain ⟨A1, c1, rfl⟩ := own_form hrow
    clear hrow bS hB1 hr bT b4 b4' hBW hB0 hKw
    gi_wp2_with (gi_at_builtin; refine wpListIn_ap rfl _ _ 125 9 1 16 (w.heap.size + 2) pre.length 1 (HROW.out.alloc _) (Sl.new W 9 1 1 [.string y.s] rfl (by decide) (by simp [Value.oneCell'])) rfl T125 rfl rfl (Fits.of (n := pre.length) (m := 1) (Small.of (by omega)) 16 (by decide)) (by simp; omega) ?_; intro v' w2 ho hg hb; have HO := Fact.mk ho; have HG := Fact.mk hg; have HB := Fact.mk hb; obtain ⟨A2, c2, rfl⟩ := own_form ho; have hne : (Value.slice A1 pre.length c1).ownBlock ≠ some (w.heap.size + 1) := (fun e => by have := (HROW.out.lt _ e).1; omega); have b2 : Boxed w2 (w.heap.size + 1) 125 (.slice A1 pre.length c1) := Blk.grown (Blk.alloc BS.out _) hg hne; have B2 := Fact.mk b2; have cv := b2.cell; have fv := b2.frozen; clear ho hg hb b2 hne)
    have hsz2 : W.heap.size + 1 ≤ w2.heap.size := by have := HG.out.size; simpa using this
    have hrowlt : ∀ g, (Value.slice A1 pre.length c1).ownBlock = some g → w.heap.size + 2 ≤ g ∧ g < W.heap.size := fun g hg => HROW.out.lt g hg
    have hr0 : rowAt W (w.heap.size + 1) = (Value.slice A1 pre.length c1).ownBlock := by rw [rowAt, cS]
    have hgW : W.grownBy w2 (Value.slice A1 pre.length c1).ownBlock := by
      have h1 := HG.out
      refine ⟨h1.os, h1.tape, h1.output, by omega, fun i hi hne => ?_⟩
      rw [h1.block i (by simp; omega) hne, Below.heap_alloc _ _ _ hi]
    refine ⟨(grown_from HROW.out hgW _).trans ((KeepsOthers.setCell _ _ _).from _), KeepR.box hgW (fun g hg => by rw [hr0]; exact hg) _ _ B2.out.cell (fun g hg => ?_), ⟨_, B2.out.set _, ?_, trivial⟩, ?_⟩
    · refine ⟨?_, (HO.out.lt g hg).2⟩
      rcases HB.out with h | h
      · rw [h] at hg; exact .inl (by rw [hr0]; exact hg)
      · rw [h] at hg; simp at hg; exact .inr (by omega)
    · rw [List.length_append, List.map_append]
      exact own_keep HO.out (G := fun i => i ≠ w.heap.size + 1) ((Keep.refl _ _).setCell (.inr fun h => h rfl) _) (fun g hg => by have := (HO.out.lt g hg).1; omega)
    · have hb2 : Below w.heap.size w w2 := ⟨hgW.os.trans HB1.out.os, hgW.tape.trans HB1.out.tape, hgW.output.trans HB1.out.output, by omega, fun i hi => by
        rw [hgW.block i (by omega) (fun e => by have := (hrowlt i e.symm).1; omega)]
        exact HB1.out.block i hi⟩
      exact hb2.setCell (p := ⟨w.heap.size + 1, 0, none⟩) (by simp) _
  case done =>
    rintro D ys W hD hys ⟨⟨v, bS, hrow, -⟩, hB1⟩ hK
    have HROW := Fact.mk hrow
    have hlen : ys.length = x.cnt := by rw [← waysN_len ⟨#[]⟩ x, ← hys, List.length_map]
    have HYS : Fact ((ys.map fun y => Value.string y.s) = (waysN ⟨#[]⟩ x).map Value.string) := ⟨by rw [← hys, List.map_map]; rfl⟩
    obtain ⟨A2, c2, rfl⟩ := own_form hrow
    have HLEN := Fact.mk hlen
    clear hrow hys hlen
    have cS := bS.cell
    have fS := bS.frozen
    gi_wp2
    have hKK : Keep (fun i => i ≠ w.heap.size + 1) W (W.setCell ⟨w.heap.size + 1, 0, none⟩ (.slice A2 ys.length c2)) := (Keep.refl _ _).setCell (p := ⟨w.heap.size + 1, 0, none⟩) (.inr fun h => h rfl) _
    have bv3 : Boxed (W.setCell ⟨w.heap.size + 1, 0, none⟩ (.slice A2 ys.length c2)) (w.heap.size + 1) 125 (.slice A2 ys.length c2) := bS.set _
    have hB3 : Below w.heap.size w (W.setCell ⟨w.heap.size + 1, 0, none⟩ (.slice A2 ys.length c2)) := hB1.setCell (p := ⟨w.heap.size + 1, 0, none⟩) (by simp) _
    have hrow3 := own_keep HROW.out hKK (fun g hg => by have := (HROW.out.lt g hg).1; omega)
    have hK3 := hKK.heap (i := D) (by omega) hK
    obtain ⟨W3, hW3⟩ : ∃ W3, W.setCell ⟨w.heap.size + 1, 0, none⟩ (.slice A2 ys.length c2) = W3 := ⟨_, rfl⟩
    rw [hW3] at bv3 hB3 hrow3 hK3 ⊢
    clear hW3 hKK
    have hKD : Keep (fun i => i ≠ D) W3 (W3.putObj D (.deferred none)) := (Keep.refl _ _).grown (grownBy_putObj' _ _ _) (fun k e => by cases e; exact .inr fun h => h rfl)
    have bv4 : Boxed (W3.putObj D (.deferred none)) (w.heap.size + 1) 125 (.slice A2 ys.length c2) := hKD.heap (by omega) bv3
    have hrow4 := own_keep hrow3 hKD (row_ne hrow3 hK3)
    have hB4 : Below w.heap.size w (W3.putObj D (.deferred none)) := hB3.trans (belowK_b (w := w) (Nat.le_refl _) W3 D _ _ (by omega) hK3 rfl rfl)
    refine ⟨by simp, .inl ⟨_, _, rfl, run_takeDeferred hK3, ?_⟩⟩
    obtain ⟨W4, hW4⟩ : ∃ W4, W3.putObj D (.deferred none) = W4 := ⟨_, rfl⟩
    rw [hW4] at bv4 hrow4 hB4 ⊢
    have c4 := bv4.cell
    have hl := HLEN.out
    have hy := HYS.out
    refine ⟨.slice A2 ys.length c2, ?_, A2, c2, by rw [hl], ?_, Keep.of_below hB4⟩
    · clear hl hy
      simp [results, Tryz.f176]
      go_simp
    · have := own_base hrow4 (base' := w.heap.size) (by omega)
      rw [hl, hy] at this
      exact this
  case stop =>
    rintro D c pre W _ _ h _
    exact h.elim
end Go.Proofs.YtddmbdigdnmfgaaGreatDoor
