import Derived.Test.YtddmbdigdnmfgaaGreatDoorTPut2
namespace Go.Proofs.YtddmbdigdnmfgaaGreatDoor
open Go.RowKit
set_option maxHeartbeats 800000
set_option maxRecDepth 100000

theorem results_58_tmp {fn : Func} {p u : Tmp} (h : fn.results = #[.cell p 58, .tmp u]) (tmps : Array Value) (w : World) (g : Nat) (x y z : Value)
    (hp : tmps.getD p undef = .pointer (some ⟨g, 0, none⟩)) (hb : Blk w g [x, y, z] 58) : (results fn tmps).run Tryz.prog w = .ok (.tuple #[.agg #[x, y, z], tmps.getD u undef]) w := by
  have hp' : tmps[p]?.getD undef = .pointer (some ⟨g, 0, none⟩) := by simpa using hp
  have hb' : w.heap[g]? = some (.cells #[x, y, z] 58 (0, 0)) := hb
  simp [results, h, hp', asAddr, run_loadVar_row w g 58 58 #[x, y, z] (0, 0) _ hb' Tryz.underlying58 rfl (by kernel_rfl)]
/-- What Put hands back: a directory that holds the leaf under "x", all in new memory. -/
def PutPost164 (w : World) (k : Int) (b : List UInt8) (e : Ending) (w' : World) : Prop :=
  ∃ A0 c0 g cc A c, e = .returned (.tuple #[.agg #[.int .i64 4, .slice A0 0 c0, .slice (some ⟨g, 0, none⟩) 1 cc], .int .i64 0]) ∧ KidAt w' g 0 ⟨#[120]⟩ k A b.length c ∧ By w' (fun i => w.heap.size ≤ i) (.slice A b.length c) b ∧ w.heap.size ≤ g ∧ Keep All w w'
theorem put164 (w : World) (G : Nat → Prop) (A0 : Option Addr) (c0 : Nat) (k : Int) (lo hi : Nat) (kd : Bool) (A : Option Addr) (c : Nat) (b : List UInt8) (h0 : By w G (.slice A0 0 c0) []) (h : By w G (.slice A b.length c) b) (hs : Small b.length)
    (hk : KindIs k lo hi kd) (hlo : lo ≤ b.length) (hhi : b.length ≤ hi) :
    Calls Tryz.prog 164 #[.agg #[.int .i64 4, .slice A0 0 c0, .slice none 0 0], .string ⟨#[120]⟩, .agg #[.int .i64 k, .slice A b.length c, .slice none 0 0]] w (PutPost164 w k b) := by
  have H0 := Fact.mk h0
  have H := Fact.mk h
  have HS := Fact.mk hs
  have HK := Fact.mk hk
  clear h0 h hs hk
  go_enter Tryz.func164, Tryz.ntmps164
  go_wp2_with fail
  have KB : Fact (Keep All w (((w.alloc (.cells #[.int .i64 4, .slice A0 0 c0, .slice none 0 0] 58)).alloc (.cells #[.int .i64 k, .slice A b.length c, .slice none 0 0] 58)).alloc (.cells #[.int .i64 0, .slice none 0 0, .slice none 0 0] 58))) := ⟨(((Keep.refl _ w).alloc _).alloc _).alloc _⟩
  have B3 := Fact.mk (((Blk.new w [.int .i64 4, .slice A0 0 c0, .slice none 0 0] 58).alloc (.cells #[.int .i64 k, .slice A b.length c, .slice none 0 0] 58)).alloc (.cells #[.int .i64 0, .slice none 0 0, .slice none 0 0] 58))
  have b5 := (Blk.new (w.alloc (.cells #[.int .i64 4, .slice A0 0 c0, .slice none 0 0] 58)) [.int .i64 k, .slice A b.length c, .slice none 0 0] 58).alloc (.cells #[.int .i64 0, .slice none 0 0, .slice none 0 0] 58)
  have b6 := Blk.new ((w.alloc (.cells #[.int .i64 4, .slice A0 0 c0, .slice none 0 0] 58)).alloc (.cells #[.int .i64 k, .slice A b.length c, .slice none 0 0] 58)) [.int .i64 0, .slice none 0 0, .slice none 0 0] 58
  simp only [World.size_alloc] at b5 b6
  have B5 := Fact.mk b5
  have B6 := Fact.mk b6
  clear b5 b6
  obtain ⟨wb, hwb⟩ : ∃ W, W = (((w.alloc (.cells #[.int .i64 4, .slice A0 0 c0, .slice none 0 0] 58)).alloc (.cells #[.int .i64 k, .slice A b.length c, .slice none 0 0] 58)).alloc (.cells #[.int .i64 0, .slice none 0 0, .slice none 0 0] 58)) := ⟨_, rfl⟩
  rw [← hwb] at KB B3 B5 B6 ⊢
  clear hwb
  have KW : Fact (Keep All wb wb) := ⟨Keep.refl _ _⟩
  go_wp2_with (first
    | (go_at_call 29; go_must (refine (right29 _ ⟨⟨#[]⟩, _, _, _, _, _, _, _⟩ _ _ (by first | exact rightN_leaf _ _ _ _ _ _ _ _ _ kind4 (Nat.le_refl _) (Nat.le_refl _) | exact rightN_leaf _ _ _ _ _ _ _ _ _ HK.out hlo hhi)).mono ?_); rintro e v ⟨rfl, hk⟩; replace KW := Fact.mk (KW.out.trans hk); have x0 := (B3.out.keep KW.out trivial).cell 0 _ rfl; have x1 := (B3.out.keep KW.out trivial).cell 1 _ rfl; have x2 := (B3.out.keep KW.out trivial).cell 2 _ rfl; have z0 := (B5.out.keep KW.out trivial).cell 0 _ rfl; have z1 := (B5.out.keep KW.out trivial).cell 1 _ rfl; have z2 := (B5.out.keep KW.out trivial).cell 2 _ rfl; clear hk)
    | (go_at_call 198; go_must (refine (way198 _).mono ?_); rintro e v ⟨Aw, cw, rfl, hsl, hk⟩; replace KW := Fact.mk (KW.out.trans hk); have x0 := (B3.out.keep KW.out trivial).cell 0 _ rfl; have x1 := (B3.out.keep KW.out trivial).cell 1 _ rfl; have x2 := (B3.out.keep KW.out trivial).cell 2 _ rfl; have SW := Fact.mk (hsl.mono (H := All) fun _ _ _ => trivial); clear hk hsl)
    | (go_at_call 199; go_must (refine (own199 _ _ _ _ _ [] (H0.out.keep (KB.out.trans KW.out).all) (Small.of (by decide))).mono ?_); rintro e v2 ⟨A1, c1, rfl, hby, hk⟩; replace KW := Fact.mk (KW.out.trans hk); have SW2 := Fact.mk (SW.out.keep hk); clear hk hby))
  have hcw : 1 ≤ cw := by
    obtain ⟨_, A', c', he, -, h1, -⟩ := SW2.out
    injection he with _ _ e3
    omega
  have hcw' : (1 : Int) ≤ cw := by omega
  have hmin : min (1 : Int) 1000 = 1 := by decide
  have W7 := Fact.mk (KW.out.alloc (.cells #[.int .i64 4, .slice A1 0 c1, .slice none 0 0] 58)).drew
  have D7 := Fact.mk (Blk.new v2 [.int .i64 4, .slice A1 0 c1, .slice none 0 0] 58).drew
  have S7 := Fact.mk ((SW2.out.keep ((Keep.refl All v2).alloc (.cells #[.int .i64 4, .slice A1 0 c1, .slice none 0 0] 58))).keep ((Keep.refl All _).drew))
  obtain ⟨W, hW⟩ : ∃ W, W = v2.alloc (.cells #[.int .i64 4, .slice A1 0 c1, .slice none 0 0] 58) := ⟨_, rfl⟩
  have hWs : W.heap.size = v2.heap.size + 1 := by rw [hW]; simp
  have HWS := Fact.mk hWs
  rw [← hW] at W7 D7 S7 ⊢
  have HB7 := Fact.mk (H.out.keep (KB.out.trans W7.out).all)
  clear hW hWs x0 x1 x2 z0 z1 z2 SW SW2
  have hwbs : Fact (w.heap.size + 1 + 1 < wb.heap.size) := ⟨B6.out.lt⟩
  have hv2s : Fact (wb.heap.size ≤ v2.heap.size) := ⟨KW.out.size⟩
  have y0 := (B5.out.keep W7.out trivial).cell 0 _ rfl
  have y1 := (B5.out.keep W7.out trivial).cell 1 _ rfl
  have y2 := (B5.out.keep W7.out trivial).cell 2 _ rfl
  go_region_held3 (fun w' => w'.cell? ⟨w.heap.size + 1, 0, none⟩ = some (.int .i64 k) ∧ w'.cell? ⟨w.heap.size + 1, 1, none⟩ = some (.slice A b.length c) ∧ w'.cell? ⟨w.heap.size + 1, 2, none⟩ = some (.slice none 0 0)) (go_keep)
    (first
      | (go_at_call 199; refine (own199 W.drew G k A c b HB7.out HS.out).mono ?_; rintro e v3 ⟨A3, c3, rfl, hby, hk⟩; have W8 := Fact.mk (W7.out.trans hk); have D8 := Fact.mk (D7.out.keep hk trivial); have S8 := Fact.mk (S7.out.keep hk); have HB8 := Fact.mk hby; have y0 := (B5.out.keep W8.out trivial).cell 0 _ rfl; have y1 := (B5.out.keep W8.out trivial).cell 1 _ rfl; have y2 := (B5.out.keep W8.out trivial).cell 2 _ rfl; clear hk hby; dsimp only)
      | (go_at_call 200; refine (put200_x _ All v2.heap.size A1 c1 cw Aw k A3 b.length c3 D8.out S8.out).mono ?_; rintro e v4 ⟨rfl, g, cc, hd9, hkid, hg, hk⟩; have W9 := Fact.mk (W8.out.then_ hk fun i hi _ => by have := hv2s.out; show i ≠ v2.heap.size; omega); have D9 := Fact.mk hd9; have KID := Fact.mk hkid; have HG := Fact.mk hg; have HB9 := Fact.mk ((HB8.out.mono (H := fun i => i ≠ v2.heap.size ∧ v2.heap.size < i) fun i _ hi => by have := HWS.out; simp at hi; omega).keep (hk.mono fun i h => h.1)); have y0 := (B5.out.keep W9.out trivial).cell 0 _ rfl; have y1 := (B5.out.keep W9.out trivial).cell 1 _ rfl; have y2 := (B5.out.keep W9.out trivial).cell 2 _ rfl; clear hk hkid hg hd9; dsimp only))
  all_goals
    have n0 := D9.out.cell 0 _ rfl
    have n1 := D9.out.cell 1 _ rfl
    have n2 := D9.out.cell 2 _ rfl
    clear y0 y1 y2 hmin
    go_wp2_with (first
      | (go_at_call 29; go_must (refine (right29 _ ⟨⟨#[]⟩, _, _, _, _, _, _, _⟩ _ _ (rightN_dir _ _ _ _ _ _ _ _ _ _ _ _ _ _ _ KID.out nameOk_x HK.out hlo hhi)).mono ?_); rintro e v5 ⟨rfl, hk⟩; have W10 := Fact.mk (W9.out.trans hk); have b6 := B6.out.keep W10.out trivial; have HB6 := Fact.mk b6; have hd := D9.out.keep hk trivial; have n0 := hd.cell 0 _ rfl; have n1 := hd.cell 1 _ rfl; have n2 := hd.cell 2 _ rfl; have p0 := b6.cell 0 _ rfl; have p1 := b6.cell 1 _ rfl; have p2 := b6.cell 2 _ rfl; have q0 := b6.free 0; have q1 := b6.free 1; have q2 := b6.free 2; have KID10 := Fact.mk (KID.out.keep hk trivial); have HB10 := Fact.mk (HB9.out.keep hk.all); clear hk hd b6))
    refine bodyPost_ret (results_58_tmp rfl _ _ (w.heap.size + 1 + 1) _ _ _ rfl (HB6.out.set3 _ _ _)) rfl ?_
    have e1 := hwbs.out
    have e2 := hv2s.out
    have e3 := HWS.out
    have e4 : v3.heap.size ≤ g := HG.out
    have e5 : v2.heap.size < v3.heap.size := D8.out.lt
    have hK : Keep (fun i => i ≠ w.heap.size + 1 + 1) v5 (set3 v5 (w.heap.size + 1 + 1) (.int .i64 4) (.slice A1 0 c1) (.slice (some ⟨g, 0, none⟩) 1 cc)) := (Keep.refl _ _).set3 _ (.inr fun h => h rfl) _ _ _
    exact ⟨A1, c1, g, cc, A3, c3, rfl, KID10.out.keep hK (by show g ≠ _; omega), (HB10.out.mono (H := fun i => i ≠ w.heap.size + 1 + 1 ∧ w.heap.size ≤ i) fun i _ h => ⟨by omega, by omega⟩).set3 _ (fun i h => h.1) _ _ _ |>.mono fun i _ h => h.2, by omega,
      (KB.out.trans W10.out).set3 _ (.inl (by omega)) _ _ _⟩
end Go.Proofs.YtddmbdigdnmfgaaGreatDoor
