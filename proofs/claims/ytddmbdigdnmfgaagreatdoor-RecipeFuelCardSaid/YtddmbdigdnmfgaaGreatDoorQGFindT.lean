/- tree.Way at any text. -/
import Derived.Lib.IndexLaws
import Derived.Sort.LoopGhostIn
import Derived.Test.YtddmbdigdnmfgaaGreatDoorQRangeW
import Derived.Test.YtddmbdigdnmfgaaGreatDoorQGCount
import Derived.Test.YtddmbdigdnmfgaaGreatDoorQShelf
import Derived.Test.YtddmbdigdnmfgaaGreatDoorQRec5
namespace Go.Proofs.YtddmbdigdnmfgaaGreatDoor
open Go.RowKit Go.Shelf
set_option maxHeartbeats 1000000
set_option maxRecDepth 100000
attribute [local go_sem] Oper.semAt_some

/-- A text's parts between slashes. -/
def partsF : Nat → ByteArray → List ByteArray
  | 0, s => [s]
  | n + 1, s => if Lib.indexByte s.data.toList 47 < 0 then [s] else s.extract 0 (Lib.indexByte s.data.toList 47).toNat :: partsF n (s.extract ((Lib.indexByte s.data.toList 47).toNat + 1) s.size)
def partsS (s : ByteArray) : List ByteArray := partsF s.size s
theorem index_lt {s : ByteArray} {k : Nat} (h : Lib.indexByte s.data.toList 47 = k) : k < s.size := by
  have := (Lib.indexByte_some h).1
  obtain ⟨h1, -⟩ := List.getElem?_eq_some_iff.1 this
  simpa using h1
theorem partsF_more : ∀ (n m : Nat) (s : ByteArray), s.size ≤ n → s.size ≤ m → partsF n s = partsF m s
  | 0, 0, _, _, _ => rfl
  | 0, m + 1, s, h, _ => by
    rw [partsF, partsF]
    split
    · rfl
    · rename_i hn
      obtain ⟨k, hk⟩ : ∃ k : Nat, Lib.indexByte s.data.toList 47 = k := ⟨(Lib.indexByte s.data.toList 47).toNat, by omega⟩
      have := index_lt hk
      omega
  | n + 1, 0, s, _, h => by
    rw [partsF, partsF]
    split
    · rfl
    · rename_i hn
      obtain ⟨k, hk⟩ : ∃ k : Nat, Lib.indexByte s.data.toList 47 = k := ⟨(Lib.indexByte s.data.toList 47).toNat, by omega⟩
      have := index_lt hk
      omega
  | n + 1, m + 1, s, h1, h2 => by
    rw [partsF, partsF]
    split
    · rfl
    · rename_i hn
      obtain ⟨k, hk⟩ : ∃ k : Nat, Lib.indexByte s.data.toList 47 = k := ⟨(Lib.indexByte s.data.toList 47).toNat, by omega⟩
      have := index_lt hk
      rw [hk]
      simp only [Int.toNat_natCast]
      congr 1
      exact partsF_more n m _ (by rw [ByteArray.size_extract]; omega) (by rw [ByteArray.size_extract]; omega)
theorem partsS_end {s : ByteArray} (h : Lib.indexByte s.data.toList 47 < 0) : partsS s = [s] := by
  unfold partsS
  cases s.size with
  | zero => rfl
  | succ n => rw [partsF, if_pos h]
theorem partsS_step {s : ByteArray} {k : Nat} (h : Lib.indexByte s.data.toList 47 = k) : partsS s = s.extract 0 k :: partsS (s.extract (k + 1) s.size) := by
  have hl := index_lt h
  unfold partsS
  obtain ⟨n, hn⟩ : ∃ n, s.size = n + 1 := ⟨s.size - 1, by omega⟩
  conv => lhs; rw [hn]
  rw [partsF, if_neg (by omega), h]
  simp only [Int.toNat_natCast]
  congr 1
  exact partsF_more _ _ _ (by rw [ByteArray.size_extract]; omega) (Nat.le_refl _)
theorem partsS_pos (s : ByteArray) : 0 < (partsS s).length := by
  by_cases h : Lib.indexByte s.data.toList 47 < 0
  · rw [partsS_end h]; simp
  · obtain ⟨k, hk⟩ : ∃ k : Nat, Lib.indexByte s.data.toList 47 = k := ⟨(Lib.indexByte s.data.toList 47).toNat, by omega⟩
    rw [partsS_step hk]; simp
theorem partsF_len : ∀ (n : Nat) (s : ByteArray), s.size ≤ n → (partsF n s).length ≤ s.size + 1
  | 0, s, _ => by rw [partsF]; simp
  | n + 1, s, h => by
    rw [partsF]
    split
    · simp
    · rename_i hn
      obtain ⟨k, hk⟩ : ∃ k : Nat, Lib.indexByte s.data.toList 47 = k := ⟨(Lib.indexByte s.data.toList 47).toNat, by omega⟩
      have hl := index_lt hk
      rw [hk]
      simp only [Int.toNat_natCast]
      have := partsF_len n (s.extract (k + 1) s.size) (by rw [ByteArray.size_extract]; omega)
      rw [ByteArray.size_extract] at this
      simp only [List.length_cons]
      omega
theorem partsS_len (s : ByteArray) : (partsS s).length ≤ s.size + 1 := partsF_len _ s (Nat.le_refl _)

theorem split221g (w : World) (s : ByteArray) : Calls Tryz.prog 221 #[.string s, .string ⟨#[47]⟩] w fun e w' =>
    e = .returned (.func (.func 247) #[] #[.pointer (some ⟨w.heap.size + 1, 0, none⟩), .pointer (some ⟨w.heap.size, 0, none⟩), .pointer (some ⟨w.heap.size + 2, 0, none⟩)]) ∧
    w' = ((w.alloc (.cells #[.string s] 9)).alloc (.cells #[.string ⟨#[47]⟩] 9)).alloc (.cells #[.int .i64 0] 3) := by
  go_enter Tryz.func221, Tryz.ntmps221
  go_wp2
  all_goals (go_ret; exact ⟨rfl, rfl⟩)
/-- The iterator's three variables stand. -/
structure Keep3 (B : Nat) (W W' : World) : Prop where
  size : W.heap.size ≤ W'.heap.size
  same : ∀ i, B ≤ i → i < B + 3 → W'.heap[i]? = W.heap[i]?
theorem Keep3.trans {B : Nat} {X Y Z : World} (h : Keep3 B X Y) (k : Keep3 B Y Z) : Keep3 B X Z := ⟨Nat.le_trans h.size k.size, fun i h1 h2 => (k.same i h1 h2).trans (h.same i h1 h2)⟩
theorem Blk.keep3 {B : Nat} {W W' : World} {b : Nat} {c : List Value} {T : TypeId} (h : Blk W b c T) (k : Keep3 B W W') (h1 : B ≤ b) (h2 : b < B + 3) : Blk W' b c T := (k.same b h1 h2).trans h
theorem iter247g (n B : Nat) (w : World) (s : ByteArray) (hs : s.size ≤ 1000000)
    (b0 : Blk w (B + 1) [.string ⟨#[47]⟩] 9) (b1 : Blk w B [.string s] 9) (b2 : Blk w (B + 2) [.int .i64 0] 3) :
    SeqW Fence.wide n Tryz.prog 247 #[.pointer (some ⟨B + 1, 0, none⟩), .pointer (some ⟨B, 0, none⟩), .pointer (some ⟨B + 2, 0, none⟩)] (fun y : ByteArray => #[.string y]) (Keep3 B) (fun xs => xs = partsS s) (fun pre => pre <+: partsS s) (partsS s).length B w := fun l J Jx W hW hJ hJw hY hJ0 => by
  have hdd : ∀ k : Nat, (Fence.wide.depth.isSome = true → 1 ≤ k) := fun k h => by cases h
  have B0 := Fact.mk (show Blk W (B + 1) [.string ⟨#[47]⟩] 9 from (hW.block _ b0.lt).trans b0)
  have B1 := Fact.mk (show Blk W B [.string s] 9 from (hW.block _ b1.lt).trans b1)
  have B2 := Fact.mk (show Blk W (B + 2) [.int .i64 0] 3 from (hW.block _ b2.lt).trans b2)
  have HY := Fact.mk hY
  have HJW := Fact.mk hJw
  have HJ0 := Fact.mk hJ0
  have HS := Fact.mk hs
  clear b0 b1 b2 hW hJ hY hJw hJ0 hs
  have c0 := B0.out.cell 0 _ rfl
  show CallsIn Fence.wide n Tryz.prog 247 #[.func (.yield l) #[] #[], .pointer (some ⟨B + 1, 0, none⟩), .pointer (some ⟨B, 0, none⟩), .pointer (some ⟨B + 2, 0, none⟩)] W _
  refine callsIn_of_wp Tryz.func247 rfl trivial ?_ rfl
  simp only [Tryz.ntmps247, List.size_toArray, List.length_cons, List.length_nil, Nat.reduceAdd, Nat.reduceSub, Array.replicate_succ, Array.replicate_zero, List.push_toArray, List.append_toArray, List.nil_append, List.cons_append]
  gi_wp2
  gi_loopg [] (s.size + 1) (fun g w' => ∃ pre cur, cur.size + 1 = g ∧ Fact (J pre w') ∧ Fact (Blk w' (B + 1) [.string ⟨#[47]⟩] 9) ∧ Fact (Blk w' B [.string cur] 9) ∧ Fact (Blk w' (B + 2) [.int .i64 0] 3) ∧ Fact (pre ++ partsS cur = partsS s) ∧ cur.size ≤ 1000000)
  case atStart => exact ⟨[], s, rfl, HJ0, B0, B1, B2, ⟨rfl⟩, HS.out⟩
  case round =>
    obtain ⟨pre, cur, hg, hjp, d0, d1, d2, hpp, hcs⟩ := hrel
    have HG := Fact.mk hg
    clear hg c0
    have c0 := d0.out.cell 0 _ rfl
    have c1 := d1.out.cell 0 _ rfl
    have c2 := d2.out.cell 0 _ rfl
    have hlen : pre.length < (partsS s).length := by rw [← hpp.out, List.length_append]; have := partsS_pos cur; omega
    obtain ⟨q, hq⟩ : ∃ q, q = Lib.indexByte cur.data.toList 47 := ⟨_, rfl⟩
    have HC : Fact (∀ w, Calls Tryz.prog 249 #[.string cur, .string ⟨#[47]⟩] w fun e w' => e = .returned (.int .i64 q) ∧ w' = w) := ⟨fun w => hq ▸ Tryz.strings_Index_one cur 47 w⟩
    by_cases hneg : q < 0
    · obtain ⟨fn, tmps, assign, body, hy, hR⟩ := HY.out pre cur wr hjp.out hlen
      have HR := Fact.mk hR
      have HE : Fact (pre ++ [cur] = partsS s) := ⟨by rw [← hpp.out, partsS_end (by omega)]⟩
      clear hR hq hlen
      gi_wp2_with (first
        | (refine ⟨trivial, hdd _, ?_⟩; gi_at_call 249; refine (callsIn_wide.2 (HC.out _)).mono ?_; rintro e w' ⟨rfl, rfl⟩)
        | ((try refine ⟨hdd _, ?_⟩); refine HR.out.mono ?_; clear HR; rintro e W2 (⟨rfl, hj, _⟩ | ⟨rfl, hx⟩)))
      · go_end0
        exact ⟨⟨_, rfl⟩, .inl ⟨_, HE.out, hj⟩⟩
      · go_end0
        exact ⟨⟨_, rfl⟩, .inr ⟨_, by rw [← HE.out]; exact List.prefix_refl _, hx⟩⟩
    · obtain ⟨k, rfl⟩ : ∃ k : Nat, q = k := ⟨q.toNat, by omega⟩
      have hkl := index_lt hq.symm
      obtain ⟨fn, tmps, assign, body, hy, hR⟩ := HY.out pre (cur.extract 0 k) wr hjp.out hlen
      have HR := Fact.mk hR
      have HE : Fact (pre ++ [cur.extract 0 k] ++ partsS (cur.extract (k + 1) cur.size) = partsS s) := ⟨by rw [← hpp.out, partsS_step hq.symm, List.append_assoc]; rfl⟩
      have hi1 : (0 : Int) ≤ k := by omega
      have hi2 : (k : Int) ≤ cur.size := by omega
      have hi3 : (k : Int) + 1 ≤ cur.size := by omega
      have hd1 : decide ((k : Int) < 0) = false := by simp
      have hd2 : ¬ (k : Int) < 0 := by omega
      clear hR hq hlen hneg
      gi_wp2_with (first
        | (refine ⟨trivial, hdd _, ?_⟩; gi_at_call 249; refine (callsIn_wide.2 (HC.out _)).mono ?_; rintro e w' ⟨rfl, rfl⟩)
        | ((try refine ⟨hdd _, ?_⟩); refine HR.out.mono ?_; clear HR; rintro e W2 (⟨rfl, hj, hk3⟩ | ⟨rfl, hx⟩); have D0 := Fact.mk (d0.out.keep3 hk3 (by omega) (by omega)); have D1 := Fact.mk (d1.out.keep3 hk3 (by omega) (by omega)); have D2 := Fact.mk (d2.out.keep3 hk3 (by omega) (by omega)); have e0 := D0.out.cell 0 _ rfl; have e1 := D1.out.cell 0 _ rfl; have e2 := D2.out.cell 0 _ rfl; have f1 := D1.out.free 0; have HJ2 := Fact.mk hj; clear hj hk3; rotate_left; have HX2 := Fact.mk hx; clear hx; rotate_left))
      · gi_roundg (cur.size - (k + 1) + 1)
        case measure => have := HG.out; omega
        case rel => exact ⟨pre ++ [cur.extract 0 k], cur.extract (k + 1) cur.size, by rw [ByteArray.size_extract]; omega, ⟨HJW.out _ _ _ HJ2.out⟩, ⟨D0.out.other ⟨B, 0, none⟩ (by show B + 1 ≠ B; omega) _⟩, ⟨D1.out.set 0 _⟩, ⟨D2.out.other ⟨B, 0, none⟩ (by show B + 2 ≠ B; omega) _⟩, HE, by rw [ByteArray.size_extract]; omega⟩
      · refine bodyPost_ret (v := .tuple #[]) ?_ rfl ⟨⟨_, rfl⟩, .inr ⟨_, ⟨_, HE.out⟩, HX2.out⟩⟩
        simp [results, Tryz.results247]
/-- A way's names, if it is one. -/
noncomputable def wayP (s : ByteArray) : Option (List ByteArray) := if s.size = 0 then some [] else if (partsS s).all nameP = true then some (partsS s) else none
def WayPostG (w : World) (s : ByteArray) (e : Ending) (w' : World) : Prop :=
  (match wayP s with
   | some l => ∃ A c, e = .returned (.tuple #[.slice A l.length c, .int .i64 0]) ∧ Sl w' (fun i => w.heap.size ≤ i) 1 (.slice A l.length c) l.length (l.map Value.string)
   | none => e = .returned (.tuple #[.slice none 0 0, .int .i64 4])) ∧ Keep All w w'
theorem results_198 {tmps : Array Value} {w : World} {g2 g3 : Nat} {v u : Value} (h2 : tmps.getD 2 undef = .pointer (some ⟨g2, 0, none⟩)) (h3 : tmps.getD 3 undef = .pointer (some ⟨g3, 0, none⟩)) (b2 : Boxed w g2 125 v) (b3 : Boxed w g3 28 u) :
    (results Tryz.f198 tmps).run Tryz.prog w = .ok (.tuple #[v, u]) w := by
  have e2 : tmps[2]?.getD undef = .pointer (some ⟨g2, 0, none⟩) := by simpa using h2
  have e3 : tmps[3]?.getD undef = .pointer (some ⟨g3, 0, none⟩) := by simpa using h3
  have c2 := b2.cell
  have c3 := b3.cell
  simp [results, Tryz.results198, e2, e3, asAddr, go_sem, c2, c3]
theorem way198_empty (w : World) : Calls Tryz.prog 198 #[.string ⟨#[]⟩] w (WayPostG w ⟨#[]⟩) := by
  have b2 := (Boxed.new w 125 (.slice none 0 0)).kept (World.grownBy_alloc _ (.cells #[.int .i64 0] 28) none) (by simp)
  have b3 := Boxed.new (w.alloc (.cells #[.slice none 0 0] 125)) 28 (.int .i64 0)
  simp only [World.size_alloc] at b3
  have B2 := Fact.mk b2
  have B3 := Fact.mk b3
  clear b2 b3
  go_enter Tryz.func198, Tryz.ntmps198
  go_upto_region 1 with (fail)
  obtain ⟨W, hW⟩ : ∃ W, (w.alloc (.cells #[.slice none 0 0] 125)).alloc (.cells #[.int .i64 0] 28) = W := ⟨_, rfl⟩
  have KW : Fact (Keep All w W) := ⟨hW ▸ ((Keep.refl All w).alloc _).alloc _⟩
  rw [hW] at B2 B3 ⊢
  clear hW
  have c2 := B2.out.cell
  have f2 := B2.out.frozen
  have c3 := B3.out.cell
  have f3 := B3.out.frozen
  go_wp2
  refine bodyPost_ret (results_198 rfl rfl ((B2.out.set (.slice none 0 0)).other (by omega) _) ((B3.out.other (by omega) (.slice none 0 0)).set (.int .i64 0))) rfl ⟨?_, (KW.out.setCell (p := ⟨w.heap.size, 0, none⟩) (.inl (Nat.le_refl _)) _).setCell (p := ⟨w.heap.size + 1, 0, none⟩) (.inl (by simp)) _⟩
  exact ⟨none, 0, rfl, Sl.nil _ _ _⟩
def WayI (w : World) (pre : List ByteArray) (W : World) : Prop :=
  w.heap.size + 5 ≤ W.heap.size ∧
  (∃ v, Boxed W w.heap.size 125 v ∧ W.ownsRow (w.heap.size + 5) 9 1 v pre.length (pre.map Value.string)) ∧ Boxed W (w.heap.size + 1) 28 (.int .i64 0) ∧ (∀ x ∈ pre, nameP x = true) ∧ Below w.heap.size w W
def WayX (w : World) (c : Code) (pre : List ByteArray) (W : World) : Prop :=
  c = .ret ∧ Boxed W w.heap.size 125 (.slice none 0 0) ∧ Boxed W (w.heap.size + 1) 28 (.int .i64 4) ∧ (∃ x ∈ pre, nameP x = false) ∧ Below w.heap.size w W
theorem way198_full (w : World) (s : ByteArray) (hs : s.size ≤ 1000000) (hp : 0 < s.size) : Calls Tryz.prog 198 #[.string s] w (WayPostG w s) := by
  have hne : s.toList ≠ [] := toList_ne hp
  have hne2 : s.toList.isEmpty = false := by simpa using hne
  refine (callsIn_wide (n := 9)).1 ?_
  refine callsIn_of_wp_marks Tryz.func198 rfl trivial ?_ rfl
  simp only [Tryz.ntmps198, List.size_toArray, List.length_cons, List.length_nil, Nat.reduceAdd, Nat.reduceSub, Array.replicate_succ, Array.replicate_zero, List.push_toArray, List.append_toArray, List.nil_append, List.cons_append]
  gi_wp2_with (first
    | (refine ⟨trivial, ?_⟩; gi_at_call 221; refine (callsIn_wide.2 (split221g _ s)).mono ?_; rintro e w1 ⟨rfl, rfl⟩))
  have b2 := ((((Boxed.new w 125 (.slice none 0 0)).alloc (.cells #[.int .i64 0] 28)).alloc (.cells #[.string s] 9)).alloc (.cells #[.string ⟨#[47]⟩] 9)).alloc (.cells #[.int .i64 0] 3)
  have b3 := (((Boxed.new (w.alloc (.cells #[.slice none 0 0] 125)) 28 (.int .i64 0)).alloc (.cells #[.string s] 9)).alloc (.cells #[.string ⟨#[47]⟩] 9)).alloc (.cells #[.int .i64 0] 3)
  have b4 := ((Boxed.new ((w.alloc (.cells #[.slice none 0 0] 125)).alloc (.cells #[.int .i64 0] 28)) 9 (.string s)).alloc (.cells #[.string ⟨#[47]⟩] 9)).alloc (.cells #[.int .i64 0] 3)
  have b5 := (Boxed.new (((w.alloc (.cells #[.slice none 0 0] 125)).alloc (.cells #[.int .i64 0] 28)).alloc (.cells #[.string s] 9)) 9 (.string ⟨#[47]⟩)).alloc (.cells #[.int .i64 0] 3)
  have b6 := Boxed.new ((((w.alloc (.cells #[.slice none 0 0] 125)).alloc (.cells #[.int .i64 0] 28)).alloc (.cells #[.string s] 9)).alloc (.cells #[.string ⟨#[47]⟩] 9)) 3 (.int .i64 0)
  have hBW : Keep All w (((((w.alloc (.cells #[.slice none 0 0] 125)).alloc (.cells #[.int .i64 0] 28)).alloc (.cells #[.string s] 9)).alloc (.cells #[.string ⟨#[47]⟩] 9)).alloc (.cells #[.int .i64 0] 3)) := (((((Keep.refl _ w).alloc _).alloc _).alloc _).alloc _).alloc _
  have hsz : (((((w.alloc (.cells #[.slice none 0 0] 125)).alloc (.cells #[.int .i64 0] 28)).alloc (.cells #[.string s] 9)).alloc (.cells #[.string ⟨#[47]⟩] 9)).alloc (.cells #[.int .i64 0] 3)).heap.size = w.heap.size + 5 := by simp
  simp only [World.size_alloc] at b3 b4 b5 b6
  obtain ⟨W0, hW0⟩ : ∃ W0, (((((w.alloc (.cells #[.slice none 0 0] 125)).alloc (.cells #[.int .i64 0] 28)).alloc (.cells #[.string s] 9)).alloc (.cells #[.string ⟨#[47]⟩] 9)).alloc (.cells #[.int .i64 0] 3)) = W0 := ⟨_, rfl⟩
  rw [hW0] at b2 b3 b4 b5 b6 hBW hsz ⊢
  clear hW0
  have hplen := partsS_len s
  refine wpIn_rangeFunc_W (w.heap.size + 1 + 1) (by omega) rfl (by decide) (gf := 247) (lb := #[.pointer (some ⟨w.heap.size + 1 + 1 + 1, 0, none⟩), .pointer (some ⟨w.heap.size + 1 + 1, 0, none⟩), .pointer (some ⟨w.heap.size + 1 + 1 + 2, 0, none⟩)]) rfl trivial (enters_of Tryz.func247 (by kernel_rfl) rfl)
    (iter247g 8 (w.heap.size + 1 + 1) W0 s hs b5 b4 b6)
    Keep3.trans (fun W l o o' h0 _ _ _ => ⟨by simp, fun i h1 h2 => World.putObj_heap_other (by omega)⟩) (Below.refl _ _) (fun _ => rfl)
    (WayI w) (WayX w)
    (fun pre A B row hs' hg hr => by
      obtain ⟨hz, ⟨v, h1, h2⟩, h3, h4, h5⟩ := hs'
      refine ⟨Nat.le_trans hz hg.size, ⟨v, Blk.grown h1 hg (fun e => ?_), h2.kept hg ?_⟩, Blk.grown h3 hg (fun e => ?_), h4, ?_⟩
      · have := (hr _ e).1; omega
      · rcases h2.2 with ⟨rfl, _⟩ | ⟨g, cap, cur, rfl, _, hh, _⟩
        · exact .inl rfl
        · refine .inr fun e => ?_
          obtain ⟨_, o, ho, hc⟩ := hr g e.symm
          rw [hh] at ho; cases ho; cases hc
      · have := (hr _ e).1; omega
      · exact ownFrom_below (β := Unit) (Nat.le_refl _) (B := W0.heap.size) (by omega) () A B row h5 hg hr)
    (fun pre W v hs' => by
      obtain ⟨hz, ⟨u, h1, h2⟩, h3, h4, h5⟩ := hs'
      exact ⟨by simpa [World.setCell] using hz, ⟨u, h1.other (by omega) _, own_keep h2 (G := fun i => i ≠ w.heap.size + 1 + 1) ((Keep.refl _ _).setCell (p := ⟨w.heap.size + 1 + 1, 0, none⟩) (.inr fun h => h rfl) _) (fun g hg => by have := (h2.lt g hg).1; omega)⟩, h3.other (by omega) _, h4, h5.setCell (p := ⟨w.heap.size + 1 + 1, 0, none⟩) (by show w.heap.size ≤ w.heap.size + 1 + 1; omega) _⟩)
    (fun c pre A B row hs' hg hr => by
      obtain ⟨h0, h1, h3, h4, h5⟩ := hs'
      refine ⟨h0, Blk.grown h1 hg (fun e => ?_), Blk.grown h3 hg (fun e => ?_), h4, ?_⟩
      · have := (hr _ e).1; omega
      · have := (hr _ e).1; omega
      · exact ownFrom_below (β := Unit) (Nat.le_refl _) (B := W0.heap.size) (by omega) () A B row h5 hg hr)
    ⟨by omega, ⟨_, b2, World.ownsRow_nil _ _ _ _⟩, b3, fun x hx => (by cases hx), hBW.below⟩
    (fun x => { tmps := #[.string s, undef, .pointer (some ⟨w.heap.size, 0, none⟩), .pointer (some ⟨w.heap.size + 1, 0, none⟩), .string x, .string s, .bool false, .string s, .func (.func 247) #[] #[.pointer (some ⟨w.heap.size + 1 + 1 + 1, 0, none⟩), .pointer (some ⟨w.heap.size + 1 + 1, 0, none⟩), .pointer (some ⟨w.heap.size + 1 + 1 + 2, 0, none⟩)], .string x, undef, undef, undef, undef, undef, undef, undef, undef], defers := [] })
    ?assign ?body ?done ?stop
  case assign =>
    intro l x W K hK
    gi_wp2
    exact hK
  case body =>
    rintro l pre x W hl ⟨hz, ⟨v, bv, hrow⟩, b3w, hnm, hB1⟩ hlt
    obtain ⟨A1, c1, rfl⟩ := own_form hrow
    obtain ⟨q, hq⟩ : ∃ q, q = nameP x := ⟨_, rfl⟩
    have HQ := Fact.mk hq
    have HC : Fact (∀ w, Calls Tryz.prog 110 #[.string x] w fun e w' => e = .returned (.bool q) ∧ Keep All w w') := ⟨fun w => hq ▸ nameAny110 w x⟩
    have HROW := Fact.mk hrow
    have BV := Fact.mk bv
    have B3 := Fact.mk b3w
    have HB1 := Fact.mk hB1
    have HNM := Fact.mk hnm
    have hsW : w.heap.size + 1 < W.heap.size := b3w.lt
    clear hrow bv b3w hB1 hnm hq b2 b3 b4 b5 b6 hBW
    cases q with
    | true =>
      gi_wp2_with (first
        | (refine ⟨trivial, ?_⟩; gi_at_call 110; refine (CallsIn.inRound l (callsIn_wide.2 (HC.out _))).mono ?_; rintro e W1 ⟨rfl, hk1⟩; have K1 := Fact.mk hk1; have BV1 := Fact.mk (show Boxed W1 w.heap.size 125 _ from hk1.heap trivial BV.out); have cv := BV1.out.cell; have HR1 := Fact.mk (own_keep HROW.out hk1 fun _ _ => trivial); have hs1 := hk1.size; clear hk1)
        | (gi_at_builtin; refine wpListIn_ap rfl _ _ 125 9 1 16 (w.heap.size + 5) pre.length 1 (HR1.out.alloc _) (Sl.new W1 9 1 1 [.string x] rfl (by decide) (by simp [Value.oneCell'])) rfl T125 rfl rfl (Fits.of (n := pre.length) (m := 1) (Small.of (by omega)) 16 (by decide)) (by simp; omega) ?_; intro v' w2 ho hg hb; have HO := Fact.mk ho; have HG := Fact.mk hg; obtain ⟨A2, c2, rfl⟩ := own_form ho; have hne0 : (Value.slice A1 pre.length c1).ownBlock ≠ some w.heap.size := (fun e => by have := (HR1.out.lt _ e).1; omega); have b2 : Boxed w2 w.heap.size 125 (.slice A1 pre.length c1) := Blk.grown (Blk.alloc BV1.out _) hg hne0; have B2 := Fact.mk b2; have cv := b2.cell; have fv := b2.frozen; clear ho hg hb b2 hne0))
      have hgW : W1.grownBy w2 (Value.slice A1 pre.length c1).ownBlock := by
        have h1 := HG.out
        refine ⟨h1.os, h1.tape, h1.output, by have := h1.size; simp at this; omega, fun i hi hne => ?_⟩
        rw [h1.block i (by simp; omega) hne, Below.heap_alloc _ _ _ hi]
      have hrowlt : ∀ g, (Value.slice A1 pre.length c1).ownBlock = some g → w.heap.size + 5 ≤ g ∧ g < W1.heap.size := fun g hg => HR1.out.lt g hg
      have hs2 : W1.heap.size ≤ w2.heap.size := hgW.size
      refine ⟨((K1.out.from_ _).trans (grown_from HR1.out hgW _)).trans ((KeepsOthers.setCell _ _ _).from _), ⟨by simp [World.setCell]; omega, fun i h1 h2 => ?_⟩, by simp [World.setCell]; omega, ⟨_, B2.out.set _, ?_⟩, ?_, fun y hy => ?_, ?_⟩
      · rw [heap_setCell_far (by omega), hgW.block i (by omega) (fun e => by have := (hrowlt i e.symm).1; omega), K1.out.block i (by omega) trivial]
      · rw [List.length_append, List.map_append]
        exact own_keep HO.out (G := fun i => i ≠ w.heap.size) ((Keep.refl _ _).setCell (.inr fun h => h rfl) _) (fun g hg => by have := (HO.out.lt g hg).1; omega)
      · have : Boxed w2 (w.heap.size + 1) 28 (.int .i64 0) := Blk.grown (show Boxed W1 (w.heap.size + 1) 28 (.int .i64 0) from K1.out.heap trivial B3.out) hgW (fun e => by have := (hrowlt _ e).1; omega)
        exact this.other (by omega) _
      · rw [List.mem_append, List.mem_singleton] at hy
        rcases hy with hy | rfl
        · exact HNM.out y hy
        · exact HQ.out.symm
      · have hb1 : Below w.heap.size w W1 := HB1.out.trans (K1.out.below.mono HB1.out.size)
        have hb2 : Below w.heap.size w w2 := ⟨hgW.os.trans hb1.os, hgW.tape.trans hb1.tape, hgW.output.trans hb1.output, by have := hb1.size; omega, fun i hi => by
          rw [hgW.block i (by have := hb1.size; omega) (fun e => by have := (hrowlt i e.symm).1; omega)]
          exact hb1.block i hi⟩
        exact hb2.setCell (p := ⟨w.heap.size, 0, none⟩) (by simp) _
    | false =>
      gi_wp2_with (first
        | (refine ⟨trivial, ?_⟩; gi_at_call 110; refine (CallsIn.inRound l (callsIn_wide.2 (HC.out _))).mono ?_; rintro e W1 ⟨rfl, hk1⟩; have K1 := Fact.mk hk1; have BV1 := Fact.mk (show Boxed W1 w.heap.size 125 _ from hk1.heap trivial BV.out); have B31 := Fact.mk (show Boxed W1 (w.heap.size + 1) 28 _ from hk1.heap trivial B3.out); have cv := BV1.out.cell; have fv := BV1.out.frozen; have c3 := B31.out.cell; have f3 := B31.out.frozen; clear hk1))
      have hb1 : Below w.heap.size w W1 := HB1.out.trans (K1.out.below.mono HB1.out.size)
      refine ⟨((K1.out.from_ _).trans ((KeepsOthers.setCell _ _ _).from _)).trans ((KeepsOthers.setCell _ _ _).from _), rfl, (BV1.out.set _).other (by omega) _, (B31.out.other (by omega) _).set _, ⟨x, by simp, HQ.out.symm⟩, (hb1.setCell (p := ⟨w.heap.size, 0, none⟩) (by simp) _).setCell (p := ⟨w.heap.size + 1, 0, none⟩) (by simp) _⟩
  case done =>
    rintro D xs W hD rfl ⟨hz, ⟨v, bv, hrow⟩, b3w, hnm, hB1⟩ hK
    have HROW := Fact.mk hrow
    have HW : Fact (wayP s = some (partsS s)) := ⟨by rw [wayP, if_neg (by omega), if_pos (List.all_eq_true.2 hnm)]⟩
    obtain ⟨A2, cc, rfl⟩ := own_form hrow
    clear hrow hnm
    have c2 := bv.cell
    have f2 := bv.frozen
    have c3 := b3w.cell
    have f3 := b3w.frozen
    obtain ⟨np, hnp⟩ : ∃ n, n = (partsS s).length := ⟨_, rfl⟩
    have HNP := Fact.mk hnp
    rw [← hnp] at HROW bv c2
    clear hnp hplen
    gi_wp2
    have bv3 : Boxed ((W.setCell ⟨w.heap.size, 0, none⟩ (.slice A2 np cc)).setCell ⟨w.heap.size + 1, 0, none⟩ (.int .i64 0)) w.heap.size 125 (.slice A2 np cc) := (bv.set _).other (by omega) _
    have b33 : Boxed ((W.setCell ⟨w.heap.size, 0, none⟩ (.slice A2 np cc)).setCell ⟨w.heap.size + 1, 0, none⟩ (.int .i64 0)) (w.heap.size + 1) 28 (.int .i64 0) := (b3w.other (by omega) _).set _
    have hKK : Keep (fun i => i ≠ w.heap.size ∧ i ≠ w.heap.size + 1) W ((W.setCell ⟨w.heap.size, 0, none⟩ (.slice A2 np cc)).setCell ⟨w.heap.size + 1, 0, none⟩ (.int .i64 0)) :=
      ((Keep.refl _ _).setCell (p := ⟨w.heap.size, 0, none⟩) (.inr fun h => h.1 rfl) _).setCell (p := ⟨w.heap.size + 1, 0, none⟩) (.inr fun h => h.2 rfl) _
    have hB3 : Below w.heap.size w ((W.setCell ⟨w.heap.size, 0, none⟩ (.slice A2 np cc)).setCell ⟨w.heap.size + 1, 0, none⟩ (.int .i64 0)) := (hB1.setCell (p := ⟨w.heap.size, 0, none⟩) (by simp) _).setCell (p := ⟨w.heap.size + 1, 0, none⟩) (by simp) _
    have hrow3 := own_keep HROW.out hKK (fun g hg => by have := (HROW.out.lt g hg).1; omega)
    have hK3 := hKK.heap (i := D) (by omega) hK
    obtain ⟨W3, hW3⟩ : ∃ W3, (W.setCell ⟨w.heap.size, 0, none⟩ (.slice A2 np cc)).setCell ⟨w.heap.size + 1, 0, none⟩ (.int .i64 0) = W3 := ⟨_, rfl⟩
    rw [hW3] at bv3 b33 hB3 hrow3 hK3 ⊢
    clear hW3 hKK
    have hKD : Keep (fun i => i ≠ D) W3 (W3.putObj D (.deferred none)) := (Keep.refl _ _).grown (grownBy_putObj' _ _ _) (fun k e => by cases e; exact .inr fun h => h rfl)
    have bv4 : Boxed (W3.putObj D (.deferred none)) w.heap.size 125 (.slice A2 np cc) := hKD.heap (by omega) bv3
    have b34 : Boxed (W3.putObj D (.deferred none)) (w.heap.size + 1) 28 (.int .i64 0) := hKD.heap (by omega) b33
    have hrow4 := own_keep hrow3 hKD (row_ne hrow3 hK3)
    have hB4 : Below w.heap.size w (W3.putObj D (.deferred none)) := hB3.trans (belowK_b (w := w) (Nat.le_refl _) W3 D _ _ (by omega) hK3 rfl rfl)
    refine ⟨by simp, .inl ⟨_, _, rfl, run_takeDeferred hK3, ?_⟩⟩
    obtain ⟨W4, hW4⟩ : ∃ W4, W3.putObj D (.deferred none) = W4 := ⟨_, rfl⟩
    rw [hW4] at bv4 b34 hrow4 hB4 ⊢
    refine ⟨.tuple #[.slice A2 np cc, .int .i64 0], results_198 rfl rfl bv4 b34, ?_, Keep.of_below hB4⟩
    rw [HW.out]
    have hsl := (Sl.of_own hrow4 (by intro u hu; obtain ⟨y, -, rfl⟩ := List.mem_map.1 hu; rfl)).mono (H := fun i => w.heap.size ≤ i) (fun i _ h => by omega)
    rw [HNP.out] at hsl
    exact ⟨A2, cc, by rw [HNP.out], hsl⟩
  case stop =>
    rintro D c pre W hD hpre ⟨rfl, b2w, b3w, ⟨x, hx, hxn⟩, hB1⟩ hK
    have HW : Fact (wayP s = none) := ⟨by
      rw [wayP, if_neg (by omega), if_neg]
      intro h
      have := List.all_eq_true.1 h x (hpre.subset hx)
      rw [hxn] at this
      cases this⟩
    clear hpre hx hxn
    gi_wp2
    have hKD : Keep (fun i => i ≠ D) W (W.putObj D (.deferred none)) := (Keep.refl _ _).grown (grownBy_putObj' _ _ _) (fun k e => by cases e; exact .inr fun h => h rfl)
    have bv4 : Boxed (W.putObj D (.deferred none)) w.heap.size 125 (.slice none 0 0) := hKD.heap (by omega) b2w
    have b34 : Boxed (W.putObj D (.deferred none)) (w.heap.size + 1) 28 (.int .i64 4) := hKD.heap (by omega) b3w
    have hB4 : Below w.heap.size w (W.putObj D (.deferred none)) := hB1.trans (belowK_b (w := w) (Nat.le_refl _) W D _ _ (by omega) hK rfl rfl)
    refine ⟨by simp, .inl ⟨_, _, rfl, run_takeDeferred hK, ?_⟩⟩
    refine ⟨.tuple #[.slice none 0 0, .int .i64 4], results_198 rfl rfl bv4 b34, ?_, Keep.of_below hB4⟩
    rw [HW.out]
theorem way198g (w : World) (s : ByteArray) (hs : s.size ≤ 1000000) : Calls Tryz.prog 198 #[.string s] w (WayPostG w s) := by
  rcases Nat.eq_zero_or_pos s.size with h | h
  · obtain rfl : s = ⟨#[]⟩ := by
      obtain ⟨d⟩ := s
      congr
      exact Array.eq_empty_of_size_eq_zero (by have : d.size = (ByteArray.mk d).size := rfl; omega)
    exact way198_empty w
  · exact way198_full w s hs h
end Go.Proofs.YtddmbdigdnmfgaaGreatDoor

/- tree.Find at any tree, any way. -/
namespace Go.Proofs.YtddmbdigdnmfgaaGreatDoor
open Go.RowKit
set_option maxHeartbeats 1000000
set_option maxRecDepth 100000

/-- The node at names. -/
def findN : PNode → List ByteArray → Option PNode
  | x, [] => some x
  | x, s :: r => if findB x.kids s = true then (match x.kids[findI x.kids s]? with
    | some y => findN y.2 r
    | none => none) else none
noncomputable def findP (x : PNode) (way : ByteArray) : Option PNode := if rightP x = true then (match wayP way with
  | some l => findN x l
  | none => none) else none
def zeroNode : Value := .agg #[.int .i64 0, .slice none 0 0, .slice none 0 0]
/-- A node, or an error. -/
def NodeOr (w : World) (o : Option PNode) (e : Ending) (w' : World) : Prop :=
  (match o with
   | some y => ∃ v, e = .returned (.tuple #[v, .int .i64 0]) ∧ NodeV w' (fun i => w.heap.size ≤ i) y v
   | none => ∃ x : Int, x ≠ 0 ∧ e = .returned (.tuple #[zeroNode, .int .i64 x])) ∧ Keep All w w'
theorem SmallN.kids {x : PNode} (h : SmallN x) : x.kids.length ≤ 200 ∧ ∀ k (hk : k < x.kids.length), SmallN x.kids[k].2 := by
  obtain ⟨k, b, l⟩ := x
  rw [SmallN] at h
  exact ⟨h.2.1, fun k hk => SmallK.get h.2.2 k hk⟩
theorem Sl.strAt {w : World} {G : Nat → Prop} {A : Option Addr} {n c : Nat} {l : List ByteArray} (h : Sl w G 1 (.slice A n c) n (l.map Value.string)) (k : Nat) (hk : k < l.length) :
    ∃ g off, A = some ⟨g, off, none⟩ ∧ G g ∧ w.cell? ⟨g, off + k, none⟩ = some (.string l[k]) := by
  obtain ⟨-, A', c', e, hl, -, -, -, hx⟩ := h
  simp only [Value.slice.injEq] at e
  obtain ⟨rfl, -, rfl⟩ := e
  obtain ⟨g, off, rfl, hg, ha⟩ := hx (by rw [List.length_map]; omega)
  exact ⟨g, off, rfl, hg, ha.get k _ (by simp [hk])⟩
theorem find165 (w : World) (G : Nat → Prop) (x : PNode) (v : Value) (s : ByteArray) (h : NodeV w G x v) (hs : s.size ≤ 1000000) : Calls Tryz.prog 165 #[v, .string s] w (NodeOr w (findP x s)) := by
  have HV := Fact.mk (h.mono (H := fun i => i < w.heap.size) fun i hi _ => hi)
  obtain ⟨A, c, B, d, rfl, hrep⟩ := h
  obtain ⟨W, hW⟩ : ∃ X, X = (w.alloc (.cells #[.int .i64 x.kind, .slice A x.bytes.length c, .slice B x.kids.length d] 58)).alloc (.cells #[.int .i64 0, .slice none 0 0, .slice none 0 0] 58) := ⟨_, rfl⟩
  have KW : Fact (Keep All w W) := ⟨hW ▸ ((Keep.refl All w).alloc _).alloc _⟩
  have B1 : Fact (Blk W w.heap.size [.int .i64 x.kind, .slice A x.bytes.length c, .slice B x.kids.length d] 58) := ⟨hW ▸ (Blk.new w [.int .i64 x.kind, .slice A x.bytes.length c, .slice B x.kids.length d] 58).alloc _⟩
  have B2 : Fact (Blk W (w.heap.size + 1) [.int .i64 0, .slice none 0 0, .slice none 0 0] 58) := ⟨by
    have := Blk.new (w.alloc (.cells #[.int .i64 x.kind, .slice A x.bytes.length c, .slice B x.kids.length d] 58)) [.int .i64 0, .slice none 0 0, .slice none 0 0] 58
    rw [World.size_alloc] at this
    rw [hW]; exact this⟩
  have HW := Fact.mk hW
  obtain ⟨q, hq⟩ : ∃ q, q = rightP x := ⟨_, rfl⟩
  have HQ := Fact.mk hq
  have C29 : Fact (Calls Tryz.prog 29 #[.agg #[.int .i64 x.kind, .slice A x.bytes.length c, .slice B x.kids.length d]] W fun e w' => e = .returned (.bool q) ∧ Keep All W w') := ⟨hq ▸ right29g W _ x _ (HV.out.keep KW.out.all)⟩
  have HSZ := Fact.mk hs
  clear hrep hW hq hs
  have b0 := B1.out.cell 0 _ rfl
  have b1 := B1.out.cell 1 _ rfl
  have b2 := B1.out.cell 2 _ rfl
  have hne : w.heap.size + 1 ≠ w.heap.size := by omega
  go_enter Tryz.func165, Tryz.ntmps165
  go_upto_region 1 with (fail)
  rw [← HW.out]
  clear HW
  cases q with
  | false =>
    have HF : Fact (findP x s = none) := ⟨by rw [findP, if_neg (by rw [← HQ.out]; simp)]⟩
    go_wp2_with (go_at_call 29; go_must (refine (C29.out).mono ?_); rintro e w1 ⟨rfl, hk⟩; have K1 := Fact.mk hk; have d2 := B2.out.keep hk trivial; have D2 := Fact.mk d2; have c0 := d2.cell 0 _ rfl; have c1 := d2.cell 1 _ rfl; have c2 := d2.cell 2 _ rfl; have f0 := d2.free 0; have f1 := d2.free 1; have f2 := d2.free 2; clear hk d2)
    refine bodyPost_ret (results_58_tmp rfl _ _ (w.heap.size + 1) _ _ _ rfl (D2.out.set3 _ _ _)) rfl ?_
    refine ⟨?_, (KW.out.trans K1.out).set3 _ (.inl (by omega)) _ _ _⟩
    rw [HF.out]
    exact ⟨2, by decide, rfl⟩
  | true =>
    have HSM := Fact.mk (rightP_small HQ.out.symm)
    have HC198 := Fact.mk (fun w' => way198g w' s HSZ.out)
    rcases hwp : wayP s with _ | l
    · have HF : Fact (findP x s = none) := ⟨by rw [findP, if_pos HQ.out.symm, hwp]⟩
      have HWP := Fact.mk hwp
      clear hwp
      go_wp2_with (first
        | (go_at_call 29; go_must (refine (C29.out).mono ?_); rintro e w1 ⟨rfl, hk⟩; have K1 := Fact.mk hk; clear hk)
        | (go_at_call 198; go_must (refine (HC198.out _).mono ?_); rintro e w2 ⟨hp, hk⟩; rw [HWP.out] at hp; subst hp; have K2 := Fact.mk (K1.out.trans hk); have d2 := B2.out.keep K2.out trivial; have D2 := Fact.mk d2; have c0 := d2.cell 0 _ rfl; have c1 := d2.cell 1 _ rfl; have c2 := d2.cell 2 _ rfl; have f0 := d2.free 0; have f1 := d2.free 1; have f2 := d2.free 2; clear hk d2))
      refine bodyPost_ret (results_58_tmp rfl _ _ (w.heap.size + 1) _ _ _ rfl (D2.out.set3 _ _ _)) rfl ?_
      refine ⟨?_, (KW.out.trans K2.out).set3 _ (.inl (by omega)) _ _ _⟩
      rw [HF.out]
      exact ⟨4, by decide, rfl⟩
    · have HF : Fact (findP x s = findN x l) := ⟨by rw [findP, if_pos HQ.out.symm, hwp]⟩
      have HWP := Fact.mk hwp
      clear hwp
      go_upto_region 6 with (first
        | (go_at_call 29; go_must (refine (C29.out).mono ?_); rintro e w1 ⟨rfl, hk⟩; have K1 := Fact.mk hk; clear hk)
        | (go_at_call 198; go_must (refine (HC198.out _).mono ?_); rintro e w2 ⟨hp, hk⟩; rw [HWP.out] at hp; obtain ⟨Aw, cw, he, hsl⟩ := hp; subst he; have HSL := Fact.mk hsl; have K2 := Fact.mk (K1.out.trans hk); clear hk hsl b0 b1 b2))
      have hl9 : l.length ≤ 9223372036854775807 := by
        obtain ⟨-, A', c', e, hl, hn, hc, -⟩ := HSL.out
        unfold maxLen at hc
        omega
      obtain ⟨A0, c0, B0, d0, he0, hr0⟩ := HV.out
      have HB0 : Fact (Blk w2 w.heap.size [.int .i64 x.kind, .slice A0 x.bytes.length c0, .slice B0 x.kids.length d0] 58) := ⟨by
        have h1 := B1.out.keep K2.out trivial
        simp only [Value.agg.injEq] at he0
        rw [show [Value.int .i64 x.kind, .slice A x.bytes.length c, .slice B x.kids.length d] = [.int .i64 x.kind, .slice A0 x.bytes.length c0, .slice B0 x.kids.length d0] by simpa using he0] at h1
        exact h1⟩
      have HR0 := Fact.mk (hr0.keep (KW.out.trans K2.out).all)
      have hw2s : w.heap.size + 1 < w2.heap.size := (B2.out.keep K2.out trivial).lt
      have hw1s : w.heap.size + 1 < w1.heap.size := (B2.out.keep K1.out trivial).lt
      have D2 := Fact.mk (B2.out.keep K2.out trivial)
      have KW2 := Fact.mk (KW.out.trans K2.out)
      clear he0 hr0 B1 B2 KW K1 K2 C29 HC198 HV HWP
      go_wp2
      go_loopg [26] l.length (fun g i wr => ∃ (j : Nat) (y : PNode) (A' B' : Option Addr) (c' d' : Nat), j + g = l.length ∧ i = .int .i64 j ∧ Fact (findN y (l.drop j) = findN x l) ∧ Fact (SmallN y) ∧ Fact (Blk wr w.heap.size [.int .i64 y.kind, .slice A' y.bytes.length c', .slice B' y.kids.length d'] 58) ∧ Fact (RepN wr (fun i => i < w.heap.size) y (.slice A' y.bytes.length c') (.slice B' y.kids.length d')) ∧ Fact (Keep (fun i => i ≠ w.heap.size) w2 wr))
      case atStart => exact ⟨0, x, A0, B0, c0, d0, by omega, rfl, ⟨rfl⟩, HSM, HB0, HR0, ⟨Keep.refl _ _⟩⟩
      case round =>
        obtain ⟨j, y, A', B', c', d', hj, rfl, hfn, hsy, hby, hry, hk⟩ := hrel
        have HJ := Fact.mk hj
        have y0 := hby.out.cell 0 _ rfl
        have y1 := hby.out.cell 1 _ rfl
        have y2 := hby.out.cell 2 _ rfl
        clear hj
        by_cases hlt : j < l.length
        · obtain ⟨g, off, rfl, hg, a0⟩ := HSL.out.strAt j hlt
          have e0 := hk.out.cell (p := ⟨g, off + j, none⟩) (by show g ≠ w.heap.size; omega) a0
          obtain ⟨nm, hnm⟩ : ∃ s, s = l[j] := ⟨_, rfl⟩
          rw [← hnm] at e0
          obtain ⟨ki, hki⟩ : ∃ k, k = findI y.kids nm := ⟨_, rfl⟩
          obtain ⟨kb, hkb⟩ : ∃ k, k = findB y.kids nm := ⟨_, rfl⟩
          have HC : Fact (Calls Tryz.prog 201 #[.agg #[.int .i64 y.kind, .slice A' y.bytes.length c', .slice B' y.kids.length d'], .string nm] wr fun e w' => e = .returned (.tuple #[.int .i64 ki, .bool kb]) ∧ Keep All wr w') := ⟨by
            rw [hki, hkb]
            exact find201g wr _ y _ nm ⟨A', c', B', d', rfl, hry.out⟩ (by have := hsy.out.kids.1; omega)⟩
          have HST : Fact (findN y (l.drop j) = if kb = true then (match y.kids[ki]? with | some z => findN z.2 (l.drop (j + 1)) | none => none) else none) := ⟨by rw [List.drop_eq_getElem_cons hlt, ← hnm, findN, ← hki, ← hkb]⟩
          have HKB := Fact.mk hkb
          have HKI := Fact.mk hki
          clear hnm hki hkb a0 hg
          cases kb with
          | false =>
            have HN : Fact (findN x l = none) := ⟨by rw [← hfn.out, HST.out]; rfl⟩
            go_wp2_with (go_at_call 201; go_must (refine (HC.out).mono ?_); rintro e w3 ⟨rfl, hk3⟩; have K3 := Fact.mk hk3; have d2 := (D2.out.keep hk.out (by show w.heap.size + 1 ≠ w.heap.size; omega)).keep hk3 trivial; have D3 := Fact.mk d2; have z0 := d2.cell 0 _ rfl; have z1 := d2.cell 1 _ rfl; have z2 := d2.cell 2 _ rfl; have f0 := d2.free 0; have f1 := d2.free 1; have f2 := d2.free 2; clear hk3 d2)
            refine bodyPost_ret (results_58_tmp rfl _ _ (w.heap.size + 1) _ _ _ rfl (D3.out.set3 _ _ _)) rfl ?_
            refine ⟨?_, ((KW2.out.then_ hk.out fun i hi _ => by show i ≠ w.heap.size; omega).trans K3.out).set3 _ (.inl (by omega)) _ _ _⟩
            rw [HF.out, HN.out]
            exact ⟨5, by decide, rfl⟩
          | true =>
            have hkl : ki < y.kids.length := by rw [HKI.out]; exact findB_lt HKB.out.symm
            have hkl2 : (ki : Int) < y.kids.length := by omega
            have hki0 : (0 : Int) ≤ ki := by omega
            have hat := (hry.out.open).2.2.2.2.2.2.2
            obtain ⟨g', off', vb, vk, rfl, hg', a0, a1, a2, a3, hr1⟩ := hat ki hkl
            obtain ⟨P1, n1, Q1, m1, rfl, rfl⟩ := hr1.forms
            have HR1 := Fact.mk hr1
            have HSK := Fact.mk (hsy.out.kids.2 ki hkl)
            have HST2 : Fact (findN y.kids[ki].2 (l.drop (j + 1)) = findN x l) := ⟨by rw [← hfn.out, HST.out, if_pos rfl, List.getElem?_eq_getElem hkl]⟩
            have A0F := Fact.mk (And.intro a0 (And.intro a1 (And.intro a2 a3)))
            have hgne : g' ≠ w.heap.size := by omega
            clear hat hr1 a0 a1 a2 a3 hg'
            go_wp2_with (go_at_call 201; go_must (refine (HC.out).mono ?_); rintro e w3 ⟨rfl, hk3⟩; have K3 := Fact.mk hk3; have d2 := hby.out.keep hk3 trivial; have D3 := Fact.mk d2; have z0 := d2.cell 0 _ rfl; have z1 := d2.cell 1 _ rfl; have z2 := d2.cell 2 _ rfl; have f0 := d2.free 0; have f1 := d2.free 1; have f2 := d2.free 2; have a0 := hk3.cell (p := ⟨g', off' + ki * 4, none⟩) trivial A0F.out.1; have a1 := hk3.cell (p := ⟨g', off' + ki * 4 + 1, none⟩) trivial A0F.out.2.1; have a2 := hk3.cell (p := ⟨g', off' + ki * 4 + 2, none⟩) trivial A0F.out.2.2.1; have a3 := hk3.cell (p := ⟨g', off' + ki * 4 + 3, none⟩) trivial A0F.out.2.2.2; clear hk3 d2 y0 y1 y2)
            go_roundg (gk - 1)
            case measure => have := HJ.out; omega
            case rel =>
              have hks : Keep (fun i => i ≠ w.heap.size) w3 (set3 w3 w.heap.size (.int .i64 y.kids[ki].2.kind) (.slice P1 y.kids[ki].2.bytes.length n1) (.slice Q1 y.kids[ki].2.kids.length m1)) := (Keep.refl _ _).set3 _ (.inr fun h => h rfl) _ _ _
              exact ⟨j + 1, y.kids[ki].2, P1, Q1, n1, m1, by have := HJ.out; omega, by go_num, HST2, HSK, ⟨D3.out.set3 _ _ _⟩, ⟨((HR1.out.keep K3.out.all).keep (hks.mono fun i hi => by show i ≠ _; omega))⟩, ⟨(hk.out.trans K3.out.all).trans hks⟩⟩
        · have hjl : j = l.length := by have := HJ.out; omega
          have HN : Fact (findN x l = some y) := ⟨by rw [← hfn.out, hjl, List.drop_length, findN]⟩
          have hOwn := Fact.mk (ownAt y wr (fun i => i < w.heap.size) _ ⟨A', c', B', d', rfl, hry.out⟩ hsy.out)
          go_wp2_with (go_at_call 199; go_must (refine (hOwn.out).mono ?_); rintro e w3 ⟨P, p, Q, q, rfl, ho, hk3⟩; have HO := Fact.mk (ho.rep.1.mono (H := fun i => wr.heap.size ≤ i) fun i _ hi => hi.1); have K3 := Fact.mk hk3; have d2 := (D2.out.keep hk.out (by show w.heap.size + 1 ≠ w.heap.size; omega)).keep hk3 trivial; have D3 := Fact.mk d2; have z0 := d2.cell 0 _ rfl; have z1 := d2.cell 1 _ rfl; have z2 := d2.cell 2 _ rfl; have f0 := d2.free 0; have f1 := d2.free 1; have f2 := d2.free 2; clear hk3 d2 ho)
          have hws : w2.heap.size ≤ wr.heap.size := hk.out.size
          refine bodyPost_ret (results_58_tmp rfl _ _ (w.heap.size + 1) _ _ _ rfl (D3.out.set3 _ _ _)) rfl ?_
          have hks : Keep (fun i => i ≠ w.heap.size + 1) w3 (set3 w3 (w.heap.size + 1) (.int .i64 y.kind) (.slice P y.bytes.length p) (.slice Q y.kids.length q)) := (Keep.refl _ _).set3 _ (.inr fun h => h rfl) _ _ _
          refine ⟨?_, ((KW2.out.then_ hk.out fun i hi _ => by show i ≠ w.heap.size; omega).trans K3.out).set3 _ (.inl (by omega)) _ _ _⟩
          rw [HF.out, HN.out]
          exact ⟨_, rfl, P, p, Q, q, rfl, ((HO.out.mono (H := fun i => i ≠ w.heap.size + 1 ∧ w.heap.size ≤ i) fun i _ hi => by omega).keep (hks.mono fun i hi => hi.1)).mono fun i _ hi => hi.2⟩
end Go.Proofs.YtddmbdigdnmfgaaGreatDoor
