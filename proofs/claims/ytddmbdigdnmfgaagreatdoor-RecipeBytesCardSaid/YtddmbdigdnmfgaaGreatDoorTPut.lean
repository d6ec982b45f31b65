import Derived.Test.YtddmbdigdnmfgaaGreatDoorWay
namespace Go.Proofs.YtddmbdigdnmfgaaGreatDoor
open Go.RowKit
set_option maxHeartbeats 400000
set_option maxRecDepth 100000

/-- A store of a node's three cells. -/
def set3 (w : World) (g : Nat) (x y z : Value) : World := ((w.setCell ⟨g, 0, none⟩ x).setCell ⟨g, 1, none⟩ y).setCell ⟨g, 2, none⟩ z
theorem Keep.set3 {G : Nat → Prop} {a w : World} (h : Keep G a w) (g : Nat) (hg : a.heap.size ≤ g ∨ ¬ G g) (x y z : Value) : Keep G a (set3 w g x y z) :=
  ((h.setCell (p := ⟨g, 0, none⟩) hg _).setCell (p := ⟨g, 1, none⟩) hg _).setCell (p := ⟨g, 2, none⟩) hg _
theorem Blk.set3 {w : World} {g : Nat} {a b c : Value} {T : TypeId} (h : Blk w g [a, b, c] T) (x y z : Value) : Blk (set3 w g x y z) g [x, y, z] T := ((h.set 0 x).set 1 y).set 2 z
theorem Blk.other3 {w : World} {b : Nat} {c : List Value} {T : TypeId} (h : Blk w b c T) (g : Nat) (hg : b ≠ g) (x y z : Value) : Blk (YtddmbdigdnmfgaaGreatDoor.set3 w g x y z) b c T :=
  ((h.other ⟨g, 0, none⟩ hg _).other ⟨g, 1, none⟩ hg _).other ⟨g, 2, none⟩ hg _
theorem By.set3 {w : World} {G : Nat → Prop} {v : Value} {l : List UInt8} (h : By w G v l) (g : Nat) (hg : ∀ i, G i → i ≠ g) (x y z : Value) : By (YtddmbdigdnmfgaaGreatDoor.set3 w g x y z) G v l :=
  h.keep ((Keep.refl G w).set3 g (.inr fun h => hg _ h rfl) x y z)

/-- A leaf of its own: the bytes lie in new memory. -/
def OwnPost (w : World) (k : Int) (b : List UInt8) (e : Ending) (w' : World) : Prop :=
  ∃ A c, e = .returned (.agg #[.int .i64 k, .slice A b.length c, .slice none 0 0]) ∧ By w' (fun i => w.heap.size ≤ i) (.slice A b.length c) b ∧ Keep All w w'
theorem results_58 {fn : Func} {p : Tmp} (h : fn.results = #[.cell p 58]) (tmps : Array Value) (w : World) (g : Nat) (x y z : Value)
    (hp : tmps.getD p undef = .pointer (some ⟨g, 0, none⟩)) (hb : Blk w g [x, y, z] 58) : (results fn tmps).run Tryz.prog w = .ok (.agg #[x, y, z]) w := by
  have hp' : tmps[p]?.getD undef = .pointer (some ⟨g, 0, none⟩) := by simpa using hp
  have hb' : w.heap[g]? = some (.cells #[x, y, z] 58 (0, 0)) := hb
  simp [results, h, hp', asAddr, run_loadVar_row w g 58 58 #[x, y, z] (0, 0) _ hb' Tryz.underlying58 rfl (by kernel_rfl)]
theorem own199 (w : World) (G : Nat → Prop) (k : Int) (A : Option Addr) (c : Nat) (b : List UInt8) (h : By w G (.slice A b.length c) b) (hs : Small b.length) :
    Calls Tryz.prog 199 #[.agg #[.int .i64 k, .slice A b.length c, .slice none 0 0]] w (OwnPost w k b) := by
  have H := Fact.mk h
  have HS := Fact.mk hs
  clear h hs
  go_enter Tryz.func199, Tryz.ntmps199
  go_wp2_with fail
  have B := Fact.mk ((Blk.new w [.int .i64 k, .slice A b.length c, .slice none 0 0] 58).alloc (.cells #[.int .i64 0, .slice none 0 0, .slice none 0 0] 58))
  have K0 := Fact.mk (((Keep.refl All w).alloc (.cells #[.int .i64 k, .slice A b.length c, .slice none 0 0] 58)).alloc (.cells #[.int .i64 0, .slice none 0 0, .slice none 0 0] 58))
  have BT := Blk.new ((w.alloc (.cells #[.int .i64 k, .slice A b.length c, .slice none 0 0] 58)).alloc (.cells #[.int .i64 0, .slice none 0 0, .slice none 0 0] 58)).drew [.int .i64 0, .slice none 0 0, .slice none 0 0] 58
  simp only [World.size_drew, World.size_alloc] at BT
  have B3 := Fact.mk BT
  have B2 := Blk.new (w.alloc (.cells #[.int .i64 k, .slice A b.length c, .slice none 0 0] 58)) [.int .i64 0, .slice none 0 0, .slice none 0 0] 58
  rw [World.size_alloc] at B2
  have C2 := Fact.mk B2
  clear BT B2
  have hne : w.heap.size + 1 + 1 ≠ w.heap.size := by omega
  go_region_held3 (fun w' => w'.cell? ⟨w.heap.size, 0, none⟩ = some (.int .i64 k) ∧ w'.cell? ⟨w.heap.size, 1, none⟩ = some (.slice A b.length c)) (go_keep)
    (first
      | (go_at_call 72; refine (clone72 _ G _ _ (H.out.keep K0.out.drew.all) HS.out).mono ?_; rintro e w1 ⟨A1, c1, rfl, hby, hk⟩; have HB := Fact.mk (hby.mono (H := fun i => w.heap.size + 1 < i ∧ i < w1.heap.size) fun i hl hi => by simp at hi; omega); have K1 := Fact.mk (K0.out.drew.trans hk); have hb1 := B.out.drew.keep hk trivial; have y0 := hb1.cell 0 _ rfl; have y1 := hb1.cell 1 _ rfl; have y2 := hb1.cell 2 _ rfl; have D2 := Fact.mk (C2.out.drew.keep hk trivial); clear hby hk hb1)
      | (go_at_call 72; refine (clone72 _ G _ _ (H.out.keep (K0.out.drew.alloc _).all) HS.out).mono ?_; rintro e w1 ⟨A1, c1, rfl, hby, hk⟩; have HB := Fact.mk (hby.mono (H := fun i => w.heap.size + 2 < i) fun i hl hi => by simp at hi; omega); have K1 := Fact.mk ((K0.out.drew.alloc _).trans hk); have hb1 := (B.out.drew.alloc _).keep hk trivial; have y0 := hb1.cell 0 _ rfl; have y1 := hb1.cell 1 _ rfl; have y2 := hb1.cell 2 _ rfl; have D2 := Fact.mk ((C2.out.drew.alloc _).keep hk trivial); have hb3 := B3.out.keep hk trivial; have D3 := Fact.mk hb3; have z0 := hb3.cell 0 _ rfl; have z1 := hb3.cell 1 _ rfl; have z2 := hb3.cell 2 _ rfl; have v0 := hb3.free 0; have v1 := hb3.free 1; have v2 := hb3.free 2; clear hby hk hb1 hb3))
  all_goals first
    | (obtain ⟨W3, hW3⟩ : ∃ W, W = w1.alloc (.cells #[.int .i64 k, .slice A1 b.length c1, .slice none 0 0] 58) := ⟨_, rfl⟩
       rw [← hW3]
       have HB3 : Fact (By W3 (fun i => w.heap.size + 1 < i) (.slice A1 b.length c1) b) := ⟨hW3 ▸ (HB.out.keep ((Keep.refl _ _).alloc _)).mono fun i _ h => h.1⟩
       have BT : Blk W3 (w1.heap.size) [.int .i64 k, .slice A1 b.length c1, .slice none 0 0] 58 := hW3 ▸ Blk.new w1 [.int .i64 k, .slice A1 b.length c1, .slice none 0 0] 58
       have E2 : Blk W3 (w.heap.size + 1) [.int .i64 0, .slice none 0 0, .slice none 0 0] 58 := hW3 ▸ D2.out.alloc _
       have E1 : W3.cell? ⟨w.heap.size, 2, none⟩ = some (.slice none 0 0) := hW3 ▸ ((Keep.refl All w1).alloc _).cell (p := ⟨w.heap.size, 2, none⟩) trivial y2
       have K3 : Fact (Keep All w W3) := ⟨hW3 ▸ K1.out.alloc _⟩
       clear hW3)
    | (obtain ⟨W3, hW3⟩ : ∃ W, W = set3 w1 (w.heap.size + 1 + 1) (.int .i64 k) (.slice A1 b.length c1) (.slice none 0 0) := ⟨_, rfl⟩
       rw [set3] at hW3
       rw [← hW3]
       rw [← set3] at hW3
       have HB3 : Fact (By W3 (fun i => w.heap.size + 1 < i) (.slice A1 b.length c1) b) := ⟨hW3 ▸ (HB.out.set3 _ (fun i h => by omega) _ _ _).mono fun i _ h => by omega⟩
       have BT : Blk W3 (w.heap.size + 1 + 1) [.int .i64 k, .slice A1 b.length c1, .slice none 0 0] 58 := hW3 ▸ D3.out.set3 _ _ _
       have E2 : Blk W3 (w.heap.size + 1) [.int .i64 0, .slice none 0 0, .slice none 0 0] 58 := hW3 ▸ D2.out.other3 _ (by omega) _ _ _
       have E1 : W3.cell? ⟨w.heap.size, 2, none⟩ = some (.slice none 0 0) := hW3 ▸ ((Keep.refl (fun i => i ≠ w.heap.size + 1 + 1) w1).set3 _ (.inr fun h => h rfl) _ _ _).cell (p := ⟨w.heap.size, 2, none⟩) (by show w.heap.size ≠ _; omega) y2
       have K3 : Fact (Keep All w W3) := ⟨hW3 ▸ K1.out.set3 _ (.inl (by omega)) _ _ _⟩
       clear hW3)
  all_goals
    have t0 := BT.cell 0 _ rfl
    have t1 := BT.cell 1 _ rfl
    have t2 := BT.cell 2 _ rfl
    have s0 := E2.cell 0 _ rfl
    have s1 := E2.cell 1 _ rfl
    have s2 := E2.cell 2 _ rfl
    have r0 := E2.free 0
    have r1 := E2.free 1
    have r2 := E2.free 2
    have HE := Fact.mk E2
    clear y0 y1 y2 BT E2 H HS B K0 B3 C2 HB K1 D2
    go_wp2
    refine wp_loop_rounds 1 ?_
    rw [rounds_succ]
    go_wp2
    refine bodyPost_ret (results_58 rfl _ _ (w.heap.size + 1) _ _ _ rfl (HE.out.set3 _ _ _)) rfl ?_
    exact ⟨A1, c1, rfl, (HB3.out.set3 _ (fun i h => by omega) _ _ _).mono fun i _ h => by omega, K3.out.set3 _ (.inl (by omega)) _ _ _⟩
theorem bin223 (w : World) (s : ByteArray) : Calls Tryz.prog 223 #[.slice none 0 0, .string s, .func (.func 224) #[] #[]] w fun e w' => e = .returned (.tuple #[.int .i64 0, .bool false]) ∧ w = w' := by
  go_enter Tryz.func223, Tryz.ntmps223
  go_wp2
  refine wp_loop_rounds 1 ?_
  rw [rounds_succ]
  go_wp2
  go_ret2
  exact ⟨rfl, rfl⟩
theorem find201 (w : World) (k : Int) (A : Option Addr) (m c : Nat) (s : ByteArray) : Calls Tryz.prog 201 #[.agg #[.int .i64 k, .slice A m c, .slice none 0 0], .string s] w fun e w' => e = .returned (.tuple #[.int .i64 0, .bool false]) ∧ Keep All w w' := by
  go_enter Tryz.func201, Tryz.ntmps201
  go_wp2_with (go_at_call 223; go_must (refine (bin223 _ _).mono ?_); rintro e w' ⟨rfl, rfl⟩)
  go_ret2
  exact ⟨rfl, (Keep.refl _ w).alloc _⟩

theorem T56 : SlTy Tryz.prog 56 71 4 72 := by
  obtain ⟨i, hi, h0, h1, h2⟩ := info_parts (P := Tryz.prog) (e := 71) (z := .agg #[.string ⟨#[]⟩, .int .i64 0, .slice none 0 0, .slice none 0 0]) (size := 4) (bytes := 72) (by kernel_rfl)
  exact ⟨Tryz.underlying56, by decide, i, _, hi, h0, h1, h2, rfl⟩
/-- The first kid goes into a row of its own. -/
def InsPost (w : World) (xs : List Value) (e : Ending) (w' : World) : Prop := ∃ g c, e = .returned (.slice (some ⟨g, 0, none⟩) 1 c) ∧ w'.ownsRow w.heap.size 71 4 (.slice (some ⟨g, 0, none⟩) 1 c) 1 xs ∧ Keep All w w'
theorem ins222 (w : World) (G : Nat → Prop) (A : Option Addr) (c : Nat) (xs : List Value) (h : Sl w G 4 (.slice A 1 c) 1 xs) :
    Calls Tryz.prog 222 #[.slice none 0 0, .int .i64 0, .slice A 1 c] w (InsPost w xs) := by
  have H := Fact.mk h
  clear h
  go_enter Tryz.func222, Tryz.ntmps222
  go_wp2_with (at_builtin; go_must (refine wpList_ap rfl _ _ 56 71 4 72 w.heap.size 0 1 (World.ownsRow_nil _ _ _ _) H.out rfl T56 rfl rfl (Fits.of (n := 0) (m := 1) (Small.of (by decide)) 72 (by decide)) (Nat.le_refl _) ?_); intro v' w1 ho hg hb; have HO := Fact.mk ho; have K1 := Fact.mk ((Keep.refl All w).grown hg (fun k e => by cases e)); obtain ⟨A1, c1, rfl⟩ := own_form ho; clear ho hg hb)
  go_ret
  have ho := HO.out
  rcases ho.2 with ⟨e, h0⟩ | ⟨g, cap, cur, e, hb, hh, hn⟩
  · simp at h0
  · injection e with e1 e2 e3
    subst e1 e3
    exact ⟨g, _, rfl, by simpa using ho, K1.out⟩
end Go.Proofs.YtddmbdigdnmfgaaGreatDoor
