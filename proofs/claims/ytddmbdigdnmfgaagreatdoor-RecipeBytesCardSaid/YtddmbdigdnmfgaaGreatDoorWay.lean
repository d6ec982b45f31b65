import Derived.Test.YtddmbdigdnmfgaaGreatDoorCount
import Derived.Test.YtddmbdigdnmfgaaGreatDoorShelf
import Derived.Test.YtddmbdigdnmfgaaGreatDoorGet
namespace Go.Proofs.YtddmbdigdnmfgaaGreatDoor
open Go.RowKit Go.Shelf
set_option maxHeartbeats 1000000
set_option maxRecDepth 100000
attribute [local go_sem] Oper.semAt_some

def sX : ByteArray := ⟨#[120]⟩
def sSlash : ByteArray := ⟨#[47]⟩
theorem split221 (w : World) : Calls Tryz.prog 221 #[.string ⟨#[120]⟩, .string ⟨#[47]⟩] w fun e w' =>
    e = .returned (.func (.func 247) #[] #[.pointer (some ⟨w.heap.size + 1, 0, none⟩), .pointer (some ⟨w.heap.size, 0, none⟩), .pointer (some ⟨w.heap.size + 2, 0, none⟩)]) ∧
    w' = ((w.alloc (.cells #[.string ⟨#[120]⟩] 9)).alloc (.cells #[.string ⟨#[47]⟩] 9)).alloc (.cells #[.int .i64 0] 3) := by
  go_enter Tryz.func221, Tryz.ntmps221
  go_wp2
  all_goals (go_ret; exact ⟨rfl, rfl⟩)

/-- The iterator over one name without a slash. -/
theorem iter247 (n B : Nat) (w : World)
    (b0 : Blk w (B + 1) [.string ⟨#[47]⟩] 9) (b1 : Blk w B [.string ⟨#[120]⟩] 9) (b2 : Blk w (B + 2) [.int .i64 0] 3) :
    SeqStopsK Fence.wide n Tryz.prog 247 #[.pointer (some ⟨B + 1, 0, none⟩), .pointer (some ⟨B, 0, none⟩), .pointer (some ⟨B + 2, 0, none⟩)] (fun _ : Unit => #[.string ⟨#[120]⟩]) (Below 0) (fun xs => xs = [()]) (fun pre => pre = [()]) 1 w := fun l J Jx W hW hJ hJx hY hJ0 => by
  have hdd : ∀ k : Nat, (Fence.wide.depth.isSome = true → 1 ≤ k) := fun k h => by cases h
  have c0 := (show Blk W (B + 1) _ _ from (hW.block _ b0.lt).trans b0).cell 0 _ rfl
  have c1 := (show Blk W B _ _ from (hW.block _ b1.lt).trans b1).cell 0 _ rfl
  have c2 := (show Blk W (B + 2) _ _ from (hW.block _ b2.lt).trans b2).cell 0 _ rfl
  obtain ⟨fn, tmps, assign, body, hy, hR⟩ := hY [] () W hJ0 (by decide)
  have hR1 := Fact.mk hR
  clear hW b0 b1 b2 hJ hJx hY hJ0 hR
  show CallsIn Fence.wide n Tryz.prog 247 #[.func (.yield l) #[] #[], .pointer (some ⟨B + 1, 0, none⟩), .pointer (some ⟨B, 0, none⟩), .pointer (some ⟨B + 2, 0, none⟩)] W _
  refine callsIn_of_wp Tryz.func247 rfl trivial ?_ rfl
  simp only [Tryz.ntmps247, List.size_toArray, List.length_cons, List.length_nil, Nat.reduceAdd, Nat.reduceSub, Array.replicate_succ, Array.replicate_zero, List.push_toArray, List.append_toArray, List.nil_append, List.cons_append]
  gi_wp2
  refine wpIn_loop_rounds 1 ?_
  rw [roundsIn_succ]
  gi_wp2_with (first
    | (refine ⟨trivial, hdd _, ?_⟩; gi_at_call 249; refine (callsIn_wide.2 (Tryz.strings_Index_one ⟨#[120]⟩ 47 _)).mono ?_; rintro e w' ⟨rfl, rfl⟩)
    | ((try refine ⟨hdd _, ?_⟩); refine hR1.out.mono ?_; clear hR1; rintro e W2 (⟨rfl, hj, _⟩ | ⟨rfl, hx⟩)))
  · go_end0
    exact ⟨⟨_, rfl⟩, .inl ⟨_, rfl, hj⟩⟩
  · go_end0
    exact ⟨⟨_, rfl⟩, .inr ⟨_, rfl, hx⟩⟩

theorem Keep.from_ {w w' : World} (h : Keep All w w') (B : Nat) : KeepsFrom B w w' := ⟨h.size, fun _ _ _ hk _ => h.heap trivial hk⟩
theorem row_ne {w : World} {base D : Nat} {e : TypeId} {sz n : Nat} {v : Value} {xs : List Value} (h : w.ownsRow base e sz v n xs) (hD : w.heap[D]? = some (.deferred (some []))) : ∀ g, v.ownBlock = some g → g ≠ D := by
  intro g hg
  rcases h.2 with ⟨rfl, _⟩ | ⟨g', cap, cur, rfl, _, hh, _⟩
  · cases hg
  · cases hg
    intro e
    subst e
    rw [hh] at hD
    cases hD
def WayPost (w : World) (e : Ending) (w' : World) : Prop := ∃ A c, e = .returned (.tuple #[.slice A 1 c, .int .i64 0]) ∧ Sl w' (fun i => w.heap.size ≤ i) 1 (.slice A 1 c) 1 [.string ⟨#[120]⟩] ∧ Keep All w w'
theorem way198 (w : World) : Calls Tryz.prog 198 #[.string ⟨#[120]⟩] w (WayPost w) := by
  refine (callsIn_wide (n := 9)).1 ?_
  refine callsIn_of_wp_marks Tryz.func198 rfl trivial ?_ rfl
  simp only [Tryz.ntmps198, List.size_toArray, List.length_cons, List.length_nil, Nat.reduceAdd, Nat.reduceSub, Array.replicate_succ, Array.replicate_zero, List.push_toArray, List.append_toArray, List.nil_append, List.cons_append]
  gi_wp2_with (first
    | (refine ⟨trivial, ?_⟩; gi_at_call 221; refine (callsIn_wide.2 (split221 _)).mono ?_; rintro e w1 ⟨rfl, rfl⟩))
  have b2 := ((((Boxed.new w 125 (.slice none 0 0)).alloc (.cells #[.int .i64 0] 28)).alloc (.cells #[.string ⟨#[120]⟩] 9)).alloc (.cells #[.string ⟨#[47]⟩] 9)).alloc (.cells #[.int .i64 0] 3)
  have b3 := (((Boxed.new (w.alloc (.cells #[.slice none 0 0] 125)) 28 (.int .i64 0)).alloc (.cells #[.string ⟨#[120]⟩] 9)).alloc (.cells #[.string ⟨#[47]⟩] 9)).alloc (.cells #[.int .i64 0] 3)
  have b4 := ((Boxed.new ((w.alloc (.cells #[.slice none 0 0] 125)).alloc (.cells #[.int .i64 0] 28)) 9 (.string ⟨#[120]⟩)).alloc (.cells #[.string ⟨#[47]⟩] 9)).alloc (.cells #[.int .i64 0] 3)
  have b5 := (Boxed.new (((w.alloc (.cells #[.slice none 0 0] 125)).alloc (.cells #[.int .i64 0] 28)).alloc (.cells #[.string ⟨#[120]⟩] 9)) 9 (.string ⟨#[47]⟩)).alloc (.cells #[.int .i64 0] 3)
  have b6 := Boxed.new ((((w.alloc (.cells #[.slice none 0 0] 125)).alloc (.cells #[.int .i64 0] 28)).alloc (.cells #[.string ⟨#[120]⟩] 9)).alloc (.cells #[.string ⟨#[47]⟩] 9)) 3 (.int .i64 0)
  have hBW : Keep All w (((((w.alloc (.cells #[.slice none 0 0] 125)).alloc (.cells #[.int .i64 0] 28)).alloc (.cells #[.string ⟨#[120]⟩] 9)).alloc (.cells #[.string ⟨#[47]⟩] 9)).alloc (.cells #[.int .i64 0] 3)) := (((((Keep.refl _ w).alloc _).alloc _).alloc _).alloc _).alloc _
  have hsz : (((((w.alloc (.cells #[.slice none 0 0] 125)).alloc (.cells #[.int .i64 0] 28)).alloc (.cells #[.string ⟨#[120]⟩] 9)).alloc (.cells #[.string ⟨#[47]⟩] 9)).alloc (.cells #[.int .i64 0] 3)).heap.size = w.heap.size + 5 := by simp
  simp only [World.size_alloc] at b3 b4 b5 b6
  obtain ⟨W0, hW0⟩ : ∃ W0, (((((w.alloc (.cells #[.slice none 0 0] 125)).alloc (.cells #[.int .i64 0] 28)).alloc (.cells #[.string ⟨#[120]⟩] 9)).alloc (.cells #[.string ⟨#[47]⟩] 9)).alloc (.cells #[.int .i64 0] 3)) = W0 := ⟨_, rfl⟩
  rw [hW0] at b2 b3 b4 b5 b6 hBW hsz ⊢
  clear hW0
  refine wpIn_rangeFunc_ownG rfl (by decide) (gf := 247) (lb := #[.pointer (some ⟨w.heap.size + 1 + 1 + 1, 0, none⟩), .pointer (some ⟨w.heap.size + 1 + 1, 0, none⟩), .pointer (some ⟨w.heap.size + 1 + 1 + 2, 0, none⟩)]) rfl trivial (enters_of Tryz.func247 (by kernel_rfl) rfl)
    (iter247 8 (w.heap.size + 1 + 1) W0 b5 b4 b6)
    Below.trans (belowK_b (Nat.zero_le _)) (Below.refl _ _) (fun _ => rfl)
    (fun pre W => ((∃ v, Boxed W w.heap.size 125 v ∧ W.ownsRow (w.heap.size + 2) 9 1 v pre.length (pre.map fun _ => .string ⟨#[120]⟩) ∧ (pre = [] → v = .slice none 0 0)) ∧ Boxed W (w.heap.size + 1) 28 (.int .i64 0)) ∧ Below w.heap.size w W)
    (fun _ _ _ => False)
    (OwnFrom.and (OwnFrom.and (Own.from (holdsRow_own _ _ _ _ _ _ _ _) _) (Own.from (boxed_own _ _ (fun _ => .int .i64 0)) _)) (ownFrom_below (Nat.le_refl _) (by omega)))
    (fun _ _ _ _ _ hs _ _ => hs)
    ⟨⟨⟨_, b2, World.ownsRow_nil _ _ _ _, fun _ => rfl⟩, b3⟩, hBW.below⟩
    (fun _ => { tmps := #[.string ⟨#[120]⟩, undef, .pointer (some ⟨w.heap.size, 0, none⟩), .pointer (some ⟨w.heap.size + 1, 0, none⟩), .string ⟨#[120]⟩, .string ⟨#[120]⟩, .bool false, .string ⟨#[120]⟩, .func (.func 247) #[] #[.pointer (some ⟨w.heap.size + 1 + 1 + 1, 0, none⟩), .pointer (some ⟨w.heap.size + 1 + 1, 0, none⟩), .pointer (some ⟨w.heap.size + 1 + 1 + 2, 0, none⟩)], .string ⟨#[120]⟩, undef, undef, undef, undef, undef, undef, undef, undef], defers := [] })
    ?assign ?body ?done ?stop
  case assign =>
    intro l x W K hK
    gi_wp2
    exact hK
  case body =>
    rintro l pre x W ⟨⟨⟨v, bv, hrow, hnil⟩, b3w⟩, hB1⟩ hlt
    obtain rfl : pre = [] := List.eq_nil_of_length_eq_zero (by omega)
    obtain rfl := hnil rfl
    clear hnil hrow hlt b2 b4 b5 b6 b3
    obtain ⟨i0, hi, hz0, hz1, hz2⟩ := info_parts (P := Tryz.prog) (e := 9) (z := .string ⟨#[]⟩) (size := 1) (bytes := 16) (by kernel_rfl)
    have hI := Fact.mk hi
    have hZ := Fact.mk (And.intro hz0 (And.intro hz1 hz2))
    have hsW : w.heap.size + 2 ≤ W.heap.size := b3w.lt
    have BV := Fact.mk bv
    have B3 := Fact.mk b3w
    clear hi hz0 hz1 hz2 bv b3w
    gi_wp2_with (first
      | (refine ⟨trivial, ?_⟩; gi_at_call 110; refine (CallsIn.inRound l (callsIn_wide.2 (name110 _ _ nameOk_x))).mono ?_; rintro e W1 ⟨rfl, hk1⟩; have K1 := Fact.mk hk1; have cv := (show Boxed W1 w.heap.size 125 _ from hk1.heap trivial BV.out).cell; clear hk1)
      | (gi_at_builtin; refine wpListIn_append_own _ rfl _ _ 125 rfl (w.heap.size + 2) 9 i0 (.string ⟨#[]⟩) 1 16 Tryz.underlying125 hI.out hZ.out.1 hZ.out.2.1 hZ.out.2.2 rfl (by decide) (.slice none 0 0) 0 [] rfl (World.ownsRow_nil _ _ _ _) ⟨W1.heap.size, 0, none⟩ 1 1 [.string ⟨#[120]⟩] rfl rfl (cell_one_new _ _ _) (by simp [Value.oneCell']) (by decide) (by decide) (by have := K1.out.size; simp; omega) ?_; intro v' w2 hown' hgrow _; have K2 := Fact.mk ((K1.out.alloc _).grown hgrow (fun k e => by cases e)); have HO := Fact.mk hown'; obtain ⟨A2, c2, rfl⟩ := own_form hown'; clear hown' hgrow; have cv := (show Boxed w2 w.heap.size 125 _ from K2.out.heap trivial BV.out).cell; have fv := (show Boxed w2 w.heap.size 125 _ from K2.out.heap trivial BV.out).frozen))
    have bv2 : Boxed w2 w.heap.size 125 (.slice none 0 0) := K2.out.heap trivial BV.out
    have b32 : Boxed w2 (w.heap.size + 1) 28 (.int .i64 0) := K2.out.heap trivial B3.out
    exact ⟨(K2.out.from_ _).trans ((KeepsOthers.setCell _ _ _).from _), (K2.out.below.mono (Nat.zero_le _)).setCell (Nat.zero_le _) _,
      ⟨⟨_, bv2.set _, own_keep HO.out (G := fun i => i ≠ w.heap.size) ((Keep.refl _ _).setCell (.inr fun h => h rfl) _) (fun g hg => by have := (HO.out.lt g hg).1; omega), fun h => by cases h⟩, b32.other (by omega) _⟩,
      (hB1.trans (K2.out.below.mono hB1.size)).setCell (p := ⟨w.heap.size, 0, none⟩) (by simp) _⟩
  case done =>
    rintro D xs W hD rfl ⟨⟨⟨v, bv, hrow, _⟩, b3w⟩, hB1⟩ hK
    have HROW := Fact.mk hrow
    obtain ⟨A2, cc, rfl⟩ := own_form hrow
    clear hrow
    have c2 := bv.cell
    have f2 := bv.frozen
    have c3 := b3w.cell
    have f3 := b3w.frozen
    gi_wp2
    have bv3 : Boxed ((W.setCell ⟨w.heap.size, 0, none⟩ (.slice A2 1 cc)).setCell ⟨w.heap.size + 1, 0, none⟩ (.int .i64 0)) w.heap.size 125 (.slice A2 1 cc) := (bv.set _).other (by omega) _
    have b33 : Boxed ((W.setCell ⟨w.heap.size, 0, none⟩ (.slice A2 1 cc)).setCell ⟨w.heap.size + 1, 0, none⟩ (.int .i64 0)) (w.heap.size + 1) 28 (.int .i64 0) := (b3w.other (by omega) _).set _
    have hKK : Keep (fun i => i ≠ w.heap.size ∧ i ≠ w.heap.size + 1) W ((W.setCell ⟨w.heap.size, 0, none⟩ (.slice A2 1 cc)).setCell ⟨w.heap.size + 1, 0, none⟩ (.int .i64 0)) :=
      ((Keep.refl _ _).setCell (p := ⟨w.heap.size, 0, none⟩) (.inr fun h => h.1 rfl) _).setCell (p := ⟨w.heap.size + 1, 0, none⟩) (.inr fun h => h.2 rfl) _
    have hB3 : Below w.heap.size w ((W.setCell ⟨w.heap.size, 0, none⟩ (.slice A2 1 cc)).setCell ⟨w.heap.size + 1, 0, none⟩ (.int .i64 0)) := (hB1.setCell (p := ⟨w.heap.size, 0, none⟩) (by simp) _).setCell (p := ⟨w.heap.size + 1, 0, none⟩) (by simp) _
    have hrow3 := own_keep HROW.out hKK (fun g hg => by have := (HROW.out.lt g hg).1; omega)
    have hK3 := hKK.heap (i := D) (by omega) hK
    obtain ⟨W3, hW3⟩ : ∃ W3, (W.setCell ⟨w.heap.size, 0, none⟩ (.slice A2 1 cc)).setCell ⟨w.heap.size + 1, 0, none⟩ (.int .i64 0) = W3 := ⟨_, rfl⟩
    rw [hW3] at bv3 b33 hB3 hrow3 hK3 ⊢
    clear hW3 hKK
    have hKD : Keep (fun i => i ≠ D) W3 (W3.putObj D (.deferred none)) := (Keep.refl _ _).grown (grownBy_putObj' _ _ _) (fun k e => by cases e; exact .inr fun h => h rfl)
    have bv4 : Boxed (W3.putObj D (.deferred none)) w.heap.size 125 (.slice A2 1 cc) := hKD.heap (by omega) bv3
    have b34 : Boxed (W3.putObj D (.deferred none)) (w.heap.size + 1) 28 (.int .i64 0) := hKD.heap (by omega) b33
    have hrow4 := own_keep hrow3 hKD (row_ne hrow3 hK3)
    have hB4 : Below w.heap.size w (W3.putObj D (.deferred none)) := hB3.trans (belowK_b (w := w) (Nat.le_refl _) W3 D _ _ (by omega) hK3 rfl rfl)
    refine ⟨by simp, .inl ⟨_, _, rfl, run_takeDeferred hK3, ?_⟩⟩
    obtain ⟨W4, hW4⟩ : ∃ W4, W3.putObj D (.deferred none) = W4 := ⟨_, rfl⟩
    rw [hW4] at bv4 b34 hrow4 hB4 ⊢
    have c4 := bv4.cell
    have c5 := b34.cell
    refine ⟨.tuple #[.slice A2 1 cc, .int .i64 0], ?_, A2, cc, rfl, (Sl.of_own hrow4 (by simp [Value.oneCell'])).mono (fun i _ h => by omega), Keep.of_below hB4⟩
    simp [results, Tryz.f198]
    go_simp
  case stop =>
    rintro D c pre W _ _ h _
    exact h.elim
end Go.Proofs.YtddmbdigdnmfgaaGreatDoor
