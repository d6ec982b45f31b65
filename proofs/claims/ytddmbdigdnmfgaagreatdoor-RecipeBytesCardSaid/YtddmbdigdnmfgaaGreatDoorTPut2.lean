import Derived.Test.YtddmbdigdnmfgaaGreatDoorTPut
namespace Go.Proofs.YtddmbdigdnmfgaaGreatDoor
open Go.RowKit
set_option maxHeartbeats 400000
set_option maxRecDepth 100000

theorem put200_nil (w : World) (g : Nat) (A0 : Option Addr) (c0 : Nat) (k : Int) (A : Option Addr) (m c : Nat) (x y z : Value)
    (h1 : w.cell? ⟨g, 1, none⟩ = some x) (h2 : w.cell? ⟨g, 2, none⟩ = some y) (h3 : w.cell? ⟨g, 3, none⟩ = some z)
    (f1 : w.frozen? ⟨g, 1, none⟩ = false) (f2 : w.frozen? ⟨g, 2, none⟩ = false) (f3 : w.frozen? ⟨g, 3, none⟩ = false) :
    Calls Tryz.prog 200 #[.pointer (some ⟨g, 1, none⟩), .slice A0 0 c0, .agg #[.int .i64 k, .slice A m c, .slice none 0 0]] w
      fun e w' => e = .returned (.int .i64 0) ∧ w' = (((w.setCell ⟨g, 1, none⟩ (.int .i64 k)).setCell ⟨g, 2, none⟩ (.slice A m c)).setCell ⟨g, 3, none⟩ (.slice none 0 0)).alloc (.cells #[.int .i64 k, .slice A m c, .slice none 0 0] 58) := by
  have hlt := World.block_lt_of_cell? w _ h1
  go_enter Tryz.func200, Tryz.ntmps200
  go_wp2
  go_ret
  exact ⟨rfl, rfl⟩

theorem kid_set (W : World) (g : Nat) (s : ByteArray) (k : Int) (A : Option Addr) (m c : Nat) (x y z : Value) (o : Obj) (h0 : W.cell? ⟨g, 0, none⟩ = some (.string s)) (h1 : W.cell? ⟨g, 1, none⟩ = some x) (h2 : W.cell? ⟨g, 2, none⟩ = some y) (h3 : W.cell? ⟨g, 3, none⟩ = some z) :
    KidAt ((((W.setCell ⟨g, 1, none⟩ (.int .i64 k)).setCell ⟨g, 2, none⟩ (.slice A m c)).setCell ⟨g, 3, none⟩ (.slice none 0 0)).alloc o) g 0 s k A m c := by
  have n1 : ∀ (i j : Nat) (w : World) (v u : Value), i ≠ j → w.cell? ⟨g, j, none⟩ = some u → (w.setCell ⟨g, i, none⟩ v).cell? ⟨g, j, none⟩ = some u := fun i j w v u hij hu =>
    (World.cell?_setCell_other w ⟨g, i, none⟩ ⟨g, j, none⟩ v (by simp [hij])).trans hu
  have n2 : ∀ (i : Nat) (w : World) (v u : Value), w.cell? ⟨g, i, none⟩ = some u → (w.setCell ⟨g, i, none⟩ v).cell? ⟨g, i, none⟩ = some v := fun i w v u hu => World.cell?_setCell_same' _ _ _ (by rw [hu]; rfl)
  have al : ∀ (w : World) (p : Addr) (u : Value), w.cell? p = some u → (w.alloc o).cell? p = some u := fun w p u hu => ((Keep.refl All w).alloc o).cell trivial hu
  exact ⟨al _ _ _ (n1 3 0 _ _ _ (by decide) (n1 2 0 _ _ _ (by decide) (n1 1 0 _ _ _ (by decide) h0))),
    al _ _ _ (n1 3 1 _ _ _ (by decide) (n1 2 1 _ _ _ (by decide) (n2 1 _ _ _ h1))),
    al _ _ _ (n1 3 2 _ _ _ (by decide) (n2 2 _ _ _ (n1 1 2 _ _ _ (by decide) h2))),
    al _ _ _ (n2 3 _ _ _ (n1 2 3 _ _ _ (by decide) (n1 1 3 _ _ _ (by decide) h3)))⟩
def PutX (w : World) (db : Nat) (A0 : Option Addr) (c0 : Nat) (k : Int) (A : Option Addr) (m c : Nat) (e : Ending) (w' : World) : Prop :=
  e = .returned (.int .i64 0) ∧ ∃ g cc, Blk w' db [.int .i64 4, .slice A0 0 c0, .slice (some ⟨g, 0, none⟩) 1 cc] 58 ∧ KidAt w' g 0 ⟨#[120]⟩ k A m c ∧ w.heap.size ≤ g ∧ Keep (fun i => i ≠ db) w w'
theorem put200_x (w : World) (Gw : Nat → Prop) (db : Nat) (A0 : Option Addr) (c0 cw : Nat) (Aw : Option Addr) (k : Int) (A : Option Addr) (m c : Nat)
    (hd : Blk w db [.int .i64 4, .slice A0 0 c0, .slice none 0 0] 58) (hw : Sl w Gw 1 (.slice Aw 1 cw) 1 [.string ⟨#[120]⟩]) :
    Calls Tryz.prog 200 #[.pointer (some ⟨db, 0, none⟩), .slice Aw 1 cw, .agg #[.int .i64 k, .slice A m c, .slice none 0 0]] w
      (PutX w db A0 c0 k A m c) := by
  obtain ⟨_, A', c', he, -, hcw, hcm, hA, hx⟩ := hw
  injection he with e1 _ e3
  subst e1 e3
  obtain ⟨wb, wo, rfl, hg, hat⟩ := hx (by simp)
  have HW := hat 0 (by simp)
  simp only [List.getD_cons_zero, Nat.add_zero] at HW
  have D := Fact.mk hd
  have hdl := hd.lt
  have d0 := hd.cell 0 _ rfl
  have d1 := hd.cell 1 _ rfl
  have d2 := hd.cell 2 _ rfl
  clear hd hg hat hx hcm hA
  go_enter Tryz.func200, Tryz.ntmps200
  go_wp2_with fail
  have K0 := Fact.mk ((Keep.refl All w).alloc (.cells #[.int .i64 k, .slice A m c, .slice none 0 0] 58))
  have T := Fact.mk (Blk.new w [.int .i64 k, .slice A m c, .slice none 0 0] 58)
  go_region_held3 (fun w' => w'.cell? ⟨db, 0, none⟩ = some (.int .i64 4) ∧ w'.cell? ⟨db, 1, none⟩ = some (.slice A0 0 c0) ∧ w'.cell? ⟨db, 2, none⟩ = some (.slice none 0 0) ∧ w'.cell? ⟨wb, wo, none⟩ = some (.string ⟨#[120]⟩)) (go_keep)
    (first
      | (go_at_call 201; refine (find201 _ _ _ _ _ _).mono ?_; rintro e w1 ⟨rfl, hk⟩; have hk1 := K0.out.drew.trans hk; have K1 := Fact.mk hk1; have T1 := Fact.mk (T.out.drew.keep hk trivial); have D1 := Fact.mk (D.out.keep hk1 trivial); have y0 := D1.out.cell 0 _ rfl; have y1 := D1.out.cell 1 _ rfl; have y2 := D1.out.cell 2 _ rfl; have y3 := hk1.cell (p := ⟨wb, wo, none⟩) trivial HW; clear hk hk1))
  go_wp2_with fail
  have SK := Fact.mk (Sl.new w1 71 4 1 [.string ⟨#[120]⟩, .int .i64 4, .slice none 0 0, .slice none 0 0] rfl (by decide) (by simp [Value.oneCell']))
  have SK2 := Fact.mk (Sl.new w1.drew 71 4 1 [.string ⟨#[120]⟩, .int .i64 4, .slice none 0 0, .slice none 0 0] rfl (by decide) (by simp [Value.oneCell']))
  have hdl1 := D1.out.lt
  have hwl1 := World.block_lt_of_cell? w1 _ y3
  clear d0 d1 d2 D K0 T HW
  go_region_with (first
      | (go_at_call 222; refine (ins222 _ _ _ _ _ SK2.out).mono ?_; rintro e w2 ⟨g, cc, rfl, hrow, hk⟩; have K2 := Fact.mk ((K1.out.drew.alloc _).trans hk); have HR := Fact.mk hrow; have T2 := Fact.mk ((T1.out.drew.alloc _).keep hk trivial); have hd2 := (D1.out.drew.alloc _).keep hk trivial; have D2 := Fact.mk hd2; have y2 := hd2.cell 2 _ rfl; have g2 := hd2.free 2; have hsz := hk.size; clear hk hrow hd2))
  all_goals go_wp2_with fail
  all_goals
    obtain ⟨W3, hW3⟩ : ∃ W, W = w2.setCell ⟨db, 2, none⟩ (.slice (some ⟨g, 0, none⟩) 1 cc) := ⟨_, rfl⟩
    rw [← hW3]
    have hgw : w1.heap.size < g := by
      have := (HR.out.lt g rfl).1
      simp at this
      omega
    have hws : w.heap.size ≤ w1.heap.size := K1.out.size
    have hr3 : W3.ownsRow (w1.heap.size + 1) 71 4 (.slice (some ⟨g, 0, none⟩) 1 cc) 1 [.string ⟨#[120]⟩, .int .i64 4, .slice none 0 0, .slice none 0 0] := by
      subst hW3
      have := own_keep HR.out (G := fun i => i ≠ db) ((Keep.refl _ _).setCell (p := ⟨db, 2, none⟩) (.inr fun h => h rfl) (.slice (some ⟨g, 0, none⟩) 1 cc)) (fun g' hg' => by cases hg'; show g ≠ db; omega)
      simpa using this
    have D3 : Fact (Blk W3 db [.int .i64 4, .slice A0 0 c0, .slice (some ⟨g, 0, none⟩) 1 cc] 58) := ⟨hW3 ▸ D2.out.set 2 _⟩
    have T3 : Fact (Blk W3 w.heap.size [.int .i64 k, .slice A m c, .slice none 0 0] 58) := ⟨hW3 ▸ T2.out.other _ (by show w.heap.size ≠ db; omega) _⟩
    have K3 : Fact (Keep (fun i => i ≠ db) w W3) := ⟨hW3 ▸ K2.out.all.setCell (p := ⟨db, 2, none⟩) (.inr fun h => h rfl) _⟩
    have HR3 := Fact.mk hr3
    clear hW3 y0 y1 y2 y3 g2 hr3 HR T2 D2 K2 SK SK2 hsz T1 D1 hwl1
    have q1 := D3.out.cell 2 _ rfl
    have q2 := T3.out.cell 0 _ rfl
    have q3 := T3.out.cell 1 _ rfl
    have q4 := T3.out.cell 2 _ rfl
    go_region_held3 (fun w' => w'.cell? ⟨db, 2, none⟩ = some (.slice (some ⟨g, 0, none⟩) 1 cc) ∧ w'.cell? ⟨w.heap.size, 0, none⟩ = some (.int .i64 k) ∧ w'.cell? ⟨w.heap.size, 1, none⟩ = some (.slice A m c) ∧ w'.cell? ⟨w.heap.size, 2, none⟩ = some (.slice none 0 0)) (go_keep)
      (first
        | (go_at_call 200; refine (put200_nil W3.drew g _ _ k A m c _ _ _ (HR3.out.cellAt 1 (by decide)) (HR3.out.cellAt 2 (by decide)) (HR3.out.cellAt 3 (by decide)) (HR3.out.frozenAt 1) (HR3.out.frozenAt 2) (HR3.out.frozenAt 3)).mono ?_; rintro e w4 ⟨rfl, hw4⟩; have hk4 : Keep (fun i => i ≠ g) W3.drew w4 := hw4 ▸ ((((Keep.refl _ W3.drew).setCell (p := ⟨g, 1, none⟩) (.inr fun h => h rfl) _).setCell (p := ⟨g, 2, none⟩) (.inr fun h => h rfl) _).setCell (p := ⟨g, 3, none⟩) (.inr fun h => h rfl) _).alloc _; have hd4 := D3.out.drew.keep hk4 (by show db ≠ g; omega); have ht4 := T3.out.drew.keep hk4 (by show w.heap.size ≠ g; omega); have D4 := Fact.mk hd4; have p1 := hd4.cell 2 _ rfl; have p2 := ht4.cell 0 _ rfl; have p3 := ht4.cell 1 _ rfl; have p4 := ht4.cell 2 _ rfl; have K4 := Fact.mk hk4; have W4 := Fact.mk hw4; clear hk4 hd4 ht4 hw4; dsimp only))
    all_goals
      go_wp2
      all_goals
        go_ret
        refine ⟨rfl, g, cc, D4.out, ?_, by omega, K3.out.drew.then_ K4.out fun i hi _ => by show i ≠ g; omega⟩
        rw [W4.out]
        exact kid_set W3.drew g _ k A m c _ _ _ _ (HR3.out.cellAt 0 (by decide)) (HR3.out.cellAt 1 (by decide)) (HR3.out.cellAt 2 (by decide)) (HR3.out.cellAt 3 (by decide))
end Go.Proofs.YtddmbdigdnmfgaaGreatDoor
