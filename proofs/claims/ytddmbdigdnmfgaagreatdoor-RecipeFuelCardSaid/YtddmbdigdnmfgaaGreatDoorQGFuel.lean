/- spencelaw21.RecipeFuel: its walk. -/
import Derived.Test.YtddmbdigdnmfgaaGreatDoorQGFuel0
namespace Go.Proofs.YtddmbdigdnmfgaaGreatDoor
open Go.RowKit
set_option maxHeartbeats 20000000
set_option maxRecDepth 100000
theorem frameAll5 {xs : Array Value} (h : xs.size = 155) : xs = ((List.range 155).map fun i => xs.getD i undef).toArray := by
  have e : xs.toList = (List.range 155).map fun i => xs.getD i undef := by
    apply List.ext_getElem
    · simp [h]
    · intro i h1 h2
      have hi : i < xs.size := by simpa using h1
      simp [hi]
  rw [← e]
theorem frame5A {xs : Array Value} {x0 x2 x3 x6 x11 x12 x13 x14 x15 x16 : Value} (h : xs.size = 155) (h0 : xs.getD 0 undef = x0) (h2 : xs.getD 2 undef = x2) (h3 : xs.getD 3 undef = x3) (h6 : xs.getD 6 undef = x6) (h11 : xs.getD 11 undef = x11) (h12 : xs.getD 12 undef = x12) (h13 : xs.getD 13 undef = x13) (h14 : xs.getD 14 undef = x14) (h15 : xs.getD 15 undef = x15) (h16 : xs.getD 16 undef = x16) : ∃ u : Nat → Value, xs = #[x0, u 1, x2, x3, u 4, u 5, x6, u 7, u 8, u 9, u 10, x11, x12, x13, x14, x15, x16, u 17, u 18, u 19, u 20, u 21, u 22, u 23, u 24, u 25, u 26, u 27, u 28, u 29, u 30, u 31, u 32, u 33, u 34, u 35, u 36, u 37, u 38, u 39, u 40, u 41, u 42, u 43, u 44, u 45, u 46, u 47, u 48, u 49, u 50, u 51, u 52, u 53, u 54, u 55, u 56, u 57, u 58, u 59, u 60, u 61, u 62, u 63, u 64, u 65, u 66, u 67, u 68, u 69, u 70, u 71, u 72, u 73, u 74, u 75, u 76, u 77, u 78, u 79, u 80, u 81, u 82, u 83, u 84, u 85, u 86, u 87, u 88, u 89, u 90, u 91, u 92, u 93, u 94, u 95, u 96, u 97, u 98, u 99, u 100, u 101, u 102, u 103, u 104, u 105, u 106, u 107, u 108, u 109, u 110, u 111, u 112, u 113, u 114, u 115, u 116, u 117, u 118, u 119, u 120, u 121, u 122, u 123, u 124, u 125, u 126, u 127, u 128, u 129, u 130, u 131, u 132, u 133, u 134, u 135, u 136, u 137, u 138, u 139, u 140, u 141, u 142, u 143, u 144, u 145, u 146, u 147, u 148, u 149, u 150, u 151, u 152, u 153, u 154] := by
  refine ⟨fun i => xs.getD i undef, ?_⟩
  rw [← h0, ← h2, ← h3, ← h6, ← h11, ← h12, ← h13, ← h14, ← h15, ← h16]
  exact frameAll5 h
theorem frame5B {xs : Array Value} {x0 x2 x6 x11 x12 x13 : Value} (h : xs.size = 155) (h0 : xs.getD 0 undef = x0) (h2 : xs.getD 2 undef = x2) (h6 : xs.getD 6 undef = x6) (h11 : xs.getD 11 undef = x11) (h12 : xs.getD 12 undef = x12) (h13 : xs.getD 13 undef = x13) : ∃ u : Nat → Value, xs = #[x0, u 1, x2, u 3, u 4, u 5, x6, u 7, u 8, u 9, u 10, x11, x12, x13, u 14, u 15, u 16, u 17, u 18, u 19, u 20, u 21, u 22, u 23, u 24, u 25, u 26, u 27, u 28, u 29, u 30, u 31, u 32, u 33, u 34, u 35, u 36, u 37, u 38, u 39, u 40, u 41, u 42, u 43, u 44, u 45, u 46, u 47, u 48, u 49, u 50, u 51, u 52, u 53, u 54, u 55, u 56, u 57, u 58, u 59, u 60, u 61, u 62, u 63, u 64, u 65, u 66, u 67, u 68, u 69, u 70, u 71, u 72, u 73, u 74, u 75, u 76, u 77, u 78, u 79, u 80, u 81, u 82, u 83, u 84, u 85, u 86, u 87, u 88, u 89, u 90, u 91, u 92, u 93, u 94, u 95, u 96, u 97, u 98, u 99, u 100, u 101, u 102, u 103, u 104, u 105, u 106, u 107, u 108, u 109, u 110, u 111, u 112, u 113, u 114, u 115, u 116, u 117, u 118, u 119, u 120, u 121, u 122, u 123, u 124, u 125, u 126, u 127, u 128, u 129, u 130, u 131, u 132, u 133, u 134, u 135, u 136, u 137, u 138, u 139, u 140, u 141, u 142, u 143, u 144, u 145, u 146, u 147, u 148, u 149, u 150, u 151, u 152, u 153, u 154] := by
  refine ⟨fun i => xs.getD i undef, ?_⟩
  rw [← h0, ← h2, ← h6, ← h11, ← h12, ← h13]
  exact frameAll5 h
theorem frame5C {xs : Array Value} {x0 x2 x6 x12 : Value} (h : xs.size = 155) (h0 : xs.getD 0 undef = x0) (h2 : xs.getD 2 undef = x2) (h6 : xs.getD 6 undef = x6) (h12 : xs.getD 12 undef = x12) : ∃ u : Nat → Value, xs = #[x0, u 1, x2, u 3, u 4, u 5, x6, u 7, u 8, u 9, u 10, u 11, x12, u 13, u 14, u 15, u 16, u 17, u 18, u 19, u 20, u 21, u 22, u 23, u 24, u 25, u 26, u 27, u 28, u 29, u 30, u 31, u 32, u 33, u 34, u 35, u 36, u 37, u 38, u 39, u 40, u 41, u 42, u 43, u 44, u 45, u 46, u 47, u 48, u 49, u 50, u 51, u 52, u 53, u 54, u 55, u 56, u 57, u 58, u 59, u 60, u 61, u 62, u 63, u 64, u 65, u 66, u 67, u 68, u 69, u 70, u 71, u 72, u 73, u 74, u 75, u 76, u 77, u 78, u 79, u 80, u 81, u 82, u 83, u 84, u 85, u 86, u 87, u 88, u 89, u 90, u 91, u 92, u 93, u 94, u 95, u 96, u 97, u 98, u 99, u 100, u 101, u 102, u 103, u 104, u 105, u 106, u 107, u 108, u 109, u 110, u 111, u 112, u 113, u 114, u 115, u 116, u 117, u 118, u 119, u 120, u 121, u 122, u 123, u 124, u 125, u 126, u 127, u 128, u 129, u 130, u 131, u 132, u 133, u 134, u 135, u 136, u 137, u 138, u 139, u 140, u 141, u 142, u 143, u 144, u 145, u 146, u 147, u 148, u 149, u 150, u 151, u 152, u 153, u 154] := by
  refine ⟨fun i => xs.getD i undef, ?_⟩
  rw [← h0, ← h2, ← h6, ← h12]
  exact frameAll5 h
theorem wp_fresh5 {P : Program} {c : Code} {Q : Exit → Act → World → Prop} {a : Act} {w : World} (I : Act → World → Prop) (hI : I a w) (h : ∀ a w, I a w → c.wp P Q a w) : c.wp P Q a w := h a w hI

theorem fuel5 (w : World) (A : Option Addr) (c : Nat) (bb : List UInt8) (sbs : List UInt8) (snm : ByteArray) (l : List PInN) (iv : Value) (fuel more : Int) (h : By w All (.slice A bb.length c) bb) (hsb : sbs.length = 20) (hi : InsV w All l iv) (hl : l.length ≤ big) (hs : ∀ k (hk : k < l.length), l[k].name.size ≤ big ∧ LessN big l[k].x) (hbl : bb.length ≤ big) :
    Calls Tryz.prog 5 #[.slice A bb.length c, .agg (pathCells sbs snm).toArray, iv, .int .i64 fuel, .int .i64 more] w fun e w' => e = .returned (.bool true) ∧ Keep All w w' := by
  have HBY := Fact.mk h
  have HII := Fact.mk hi
  have HSB := Fact.mk hsb
  obtain ⟨sc, hsc⟩ : ∃ q, q = pathCells sbs snm := ⟨_, rfl⟩
  have HSC := Fact.mk hsc
  have HCL : Fact (sc.length = 21) := ⟨by rw [hsc]; simp [pathCells, hsb]⟩
  rw [← hsc]
  have hb9 : bb.length ≤ 140737488351232 := hbl
  obtain ⟨W0, hW⟩ : ∃ X, X = w.alloc (.cells sc.toArray 50) := ⟨_, rfl⟩
  have K0 : Fact (Keep All w W0) := ⟨hW ▸ (Keep.refl _ w).alloc _⟩
  have B6 : Fact (Blk W0 w.heap.size sc 50) := ⟨hW ▸ Blk.new w sc 50⟩
  have HW := Fact.mk hW
  have HGR : Fact (∀ w', Keep All w w' → Calls Tryz.prog 26 #[iv] w' fun e w2 => (∃ g : Bool, e = .returned (.bool g)) ∧ Keep All w' w2) := ⟨fun w' k => great26 w' All l iv (hi.keep k) hl hs⟩
  have HRUN : Fact (∀ (f : Int) (F : Nat) (x : PNode) (s : Nat) (er : Int), f ≤ 1000000 → f.toNat = F → runP bb sbs snm l F = (x, s, er) → ∀ w', Keep All w w' → Calls Tryz.prog 27 #[.slice A bb.length c, .agg sc.toArray, iv, .int .i64 f] w' (RunT w' x s er F)) := ⟨fun f F x s er h1 h2 h3 w' k => by rw [hsc]; exact run27t w w' A c bb sbs snm l iv f F h hsb hi h1 k h2 h3⟩
  clear h hi hsb hsc hW hl hs hbl HBY HII
  go_enter Tryz.func5, Tryz.ntmps5
  go_upto_region 3 with (first
    | (refine Great.wpList_boxTo rfl 50 (.tmp 1) rfl (some 6) rfl w.heap.size rfl sc.toArray rfl ?_; rw [← HW.out])
    | (go_at_call 8; go_must (refine (awake8 _).mono ?_); rintro e w1 ⟨rfl, hk⟩; have K1 := Fact.mk (K0.out.trans hk); have B61 := Fact.mk (B6.out.keep hk trivial); clear hk))
  clear HW K0 B6
  by_cases hb2 : bb.length ≤ 2000
  rotate_left
  · go_wp2
    go_ret
    exact ⟨rfl, K1.out⟩
  have hlb : decide (2000 < (bb.length : Int)) = false := by simpa using (by omega : ¬ 2000 < (bb.length : Int))
  by_cases hf1 : 600 < fuel
  · go_wp2_with (go_at_call 26; go_must (refine (HGR.out _ K1.out).mono ?_); rintro e w2 ⟨⟨g, rfl⟩, hk⟩; have K2 := Fact.mk (K1.out.trans hk); have B62 := Fact.mk (B61.out.keep hk trivial); clear hk; cases g)
    all_goals go_ret
    all_goals exact ⟨rfl, K2.out⟩
  by_cases hf2 : 600 < more
  · go_wp2_with (go_at_call 26; go_must (refine (HGR.out _ K1.out).mono ?_); rintro e w2 ⟨⟨g, rfl⟩, hk⟩; have K2 := Fact.mk (K1.out.trans hk); have B62 := Fact.mk (B61.out.keep hk trivial); clear hk; cases g)
    all_goals go_ret
    all_goals exact ⟨rfl, K2.out⟩
  go_upto_region 5 with (go_at_call 26; go_must (refine (HGR.out _ K1.out).mono ?_); rintro e w2 ⟨⟨g, rfl⟩, hk⟩; have K2 := Fact.mk (K1.out.trans hk); have B62 := Fact.mk (B61.out.keep hk trivial); clear hk; cases g)
  rotate_left
  · go_ret
    exact ⟨rfl, K2.out⟩
  clear hlb hb2 hb9 HGR K1 B61
  obtain ⟨F, hF⟩ : ∃ q, q = fuel.toNat := ⟨_, rfl⟩
  obtain ⟨M, hM⟩ : ∃ q, q = more.toNat := ⟨_, rfl⟩
  have hm1 : max fuel 0 = (F : Int) := by omega
  have hm2 : max more 0 = (M : Int) := by omega
  have hF6 : F ≤ 600 := by omega
  have hM6 : M ≤ 600 := by omega
  obtain ⟨p1, p2, p3⟩ := runP_fuel bb sbs snm l (Nat.le_add_right F M)
  obtain ⟨⟨x, s, er⟩, hr0⟩ : ∃ q, q = runP bb sbs snm l F := ⟨_, rfl⟩
  obtain ⟨⟨x1, s1, er1⟩, hr1⟩ : ∃ q, q = runP bb sbs snm l (F + M) := ⟨_, rfl⟩
  obtain ⟨x3, s3, er3, hr3⟩ : ∃ x3 s3 er3, runP bb sbs snm l (s - 1) = (x3, s3, er3) := ⟨_, _, _, rfl⟩
  rw [← hr0] at p1 p2 p3
  rw [← hr1] at p1 p2
  simp only at p1 p2 p3
  have C0 : Fact (∀ w', Keep All w w' → Calls Tryz.prog 27 #[.slice A bb.length c, .agg sc.toArray, iv, .int .i64 fuel] w' (RunT w' x s er F)) := ⟨HRUN.out fuel F x s er (by omega) hF.symm hr0.symm⟩
  have C1 : Fact (∀ w', Keep All w w' → Calls Tryz.prog 27 #[.slice A bb.length c, .agg sc.toArray, iv, .int .i64 ((F : Int) + (M : Int))] w' (RunT w' x1 s1 er1 (F + M))) := ⟨HRUN.out _ (F + M) x1 s1 er1 (by omega) (by omega) hr1.symm⟩
  have C2 : Fact (s ≤ 600 → runP bb sbs snm l s = (x, s, er) → ∀ w', Keep All w w' → Calls Tryz.prog 27 #[.slice A bb.length c, .agg sc.toArray, iv, .int .i64 (s : Int)] w' (RunT w' x s er s)) := ⟨fun hs h2 => HRUN.out _ s x s er (by omega) (by omega) h2⟩
  have C3 : Fact (s ≤ 600 → ∀ w', Keep All w w' → Calls Tryz.prog 27 #[.slice A bb.length c, .agg sc.toArray, iv, .int .i64 ((s : Int) - 1)] w' (RunT w' x3 s3 er3 (s - 1))) := ⟨fun hs => HRUN.out _ (s - 1) x3 s3 er3 (by omega) (by omega) hr3⟩
  have P1 := Fact.mk p1
  have P2 : Fact (er ≠ 11 → ((x1 = x ∧ s1 = s ∧ er1 = er) ∧ s ≤ F ∧ runP bb sbs snm l s = (x, s, er) ∧ (0 < s → er3 = 11))) := ⟨fun h => by
    obtain ⟨h1, h2, h3, h4⟩ := p2 h
    simp only [Prod.mk.injEq] at h1
    refine ⟨h1, h2, h3, fun hs => ?_⟩
    have := h4 (s - 1) (by omega)
    rw [hr3] at this
    exact this⟩
  have P3 := Fact.mk p3
  have HF6 : Fact (F ≤ 600 ∧ M ≤ 600) := ⟨⟨hF6, hM6⟩⟩
  clear p1 p2 p3 hr0 hr1 hr3 hF hM HRUN hf1 hf2 hF6 hM6
  have KB := Fact.mk (K2.out)
  go_upto_region 6 with (first
    | (refine wpList_load_mid rfl 50 (.tmp 6) rfl w.heap.size 0 ?ax sc _ ?ac Tryz.underlying50 ?ad ?ai ?arest
       case ax => go_must (rfl)
       case ac => go_must (exact Blk.range B62.out)
       case ad => go_must (rfl)
       case ai => go_must (rw [HCL.out]; kernel_rfl))
    | (go_at_call 27; go_must (refine (C0.out _ K2.out).mono ?_); rintro e w3 ⟨A0, c0, B0, d0, rfl, HR0, HT0, HL0, HK⟩; have K3 := Fact.mk (K2.out.trans HK.out); have B63 := Fact.mk (B62.out.keep HK.out trivial); clear HK))
  obtain ⟨V3, hV3⟩ : ∃ X, X = w3.alloc (.cells #[.int .i64 x.kind, .slice A0 x.bytes.length c0, .slice B0 x.kids.length d0] 58) := ⟨_, rfl⟩
  rw [← hV3]
  have KV3 : Fact (Keep All w3 V3) := ⟨hV3 ▸ (Keep.refl _ w3).alloc _⟩
  have BNnb : Fact (Blk V3 w3.heap.size [.int .i64 x.kind, .slice A0 x.bytes.length c0, .slice B0 x.kids.length d0] 58) := ⟨hV3 ▸ Blk.new w3 [.int .i64 x.kind, .slice A0 x.bytes.length c0, .slice B0 x.kids.length d0] 58⟩
  have K4 := Fact.mk (K3.out.trans KV3.out)
  have B64 := Fact.mk (B63.out.keep KV3.out trivial)
  have HN : Fact (RepN V3 All x (.slice A0 x.bytes.length c0) (.slice B0 x.kids.length d0)) := ⟨HR0.out.keep KV3.out⟩
  obtain ⟨nb, hnb⟩ : ∃ q, q = w3.heap.size := ⟨_, rfl⟩
  rw [← hnb] at BNnb ⊢
  clear hV3 hnb HR0
  have hF6 := HF6.out.1
  have hM6 := HF6.out.2
  go_upto_region 7 with (first
    | (refine wpList_load_mid rfl 50 (.tmp 6) rfl w.heap.size 0 ?bx sc _ ?bc Tryz.underlying50 ?bd ?bi ?brest
       case bx => go_must (rfl)
       case bc => go_must (exact Blk.range B64.out)
       case bd => go_must (rfl)
       case bi => go_must (rw [HCL.out]; kernel_rfl))
    | (go_at_call 27; go_must (refine (C1.out _ K4.out).mono ?_); rintro e w5 ⟨A1, c1, B1, d1, rfl, HR1, HT1, HL1, HK⟩; have K5 := Fact.mk (K4.out.trans HK.out); have B65 := Fact.mk (B64.out.keep HK.out trivial); have BNnb5 := Fact.mk (BNnb.out.keep HK.out trivial); have HN5 := Fact.mk (HN.out.keep HK.out); clear HK))
  clear hm2 hF6 hM6 K3 K4 B63 B64 BNnb HN C1
  obtain ⟨V5, hV5⟩ : ∃ X, X = w5.alloc (.cells #[.int .i64 x1.kind, .slice A1 x1.bytes.length c1, .slice B1 x1.kids.length d1] 58) := ⟨_, rfl⟩
  rw [← hV5]
  have KV5 : Fact (Keep All w5 V5) := ⟨hV5 ▸ (Keep.refl _ w5).alloc _⟩
  have BNwb : Fact (Blk V5 w5.heap.size [.int .i64 x1.kind, .slice A1 x1.bytes.length c1, .slice B1 x1.kids.length d1] 58) := ⟨hV5 ▸ Blk.new w5 [.int .i64 x1.kind, .slice A1 x1.bytes.length c1, .slice B1 x1.kids.length d1] 58⟩
  have K6 := Fact.mk (K5.out.trans KV5.out)
  have B66 := Fact.mk (B65.out.keep KV5.out trivial)
  have HW1 : Fact (RepN V5 All x1 (.slice A1 x1.bytes.length c1) (.slice B1 x1.kids.length d1)) := ⟨HR1.out.keep KV5.out⟩
  obtain ⟨wb, hwb⟩ : ∃ q, q = w5.heap.size := ⟨_, rfl⟩
  rw [← hwb] at BNwb ⊢
  clear hV5 hwb HR1
  have BNnb := Fact.mk (BNnb5.out.keep KV5.out trivial)
  have HN := Fact.mk (HN5.out.keep KV5.out)
  clear BNnb5 HN5 K5 B65
  refine wp_fresh5 (fun a w' => (a.tmps.size = 155 ∧ a.tmps.getD 0 undef = .slice A bb.length c ∧ a.tmps.getD 2 undef = iv ∧ a.tmps.getD 3 undef = .int .i64 fuel ∧ a.tmps.getD 6 undef = .pointer (some ⟨w.heap.size, 0, none⟩) ∧ a.tmps.getD 11 undef = .pointer (some ⟨nb, 0, none⟩) ∧ a.tmps.getD 12 undef = .int .i64 (s : Int) ∧ a.tmps.getD 13 undef = .int .i64 er ∧ a.tmps.getD 14 undef = .pointer (some ⟨wb, 0, none⟩) ∧ a.tmps.getD 15 undef = .int .i64 (s1 : Int) ∧ a.tmps.getD 16 undef = .int .i64 er1 ∧ a.defers = []) ∧ w' = V5) ⟨⟨rfl, rfl, rfl, rfl, rfl, rfl, rfl, rfl, rfl, rfl, rfl, rfl⟩, rfl⟩ ?_
  rintro ⟨tm, df⟩ wf ⟨⟨gz, g0, g2, g3, g6, g11, g12, g13, g14, g15, g16, gd⟩, hwf⟩
  have hwf := hwf.symm
  subst hwf
  simp only at gz g0 g2 g3 g6 g11 g12 g13 g14 g15 g16 gd
  subst gd
  obtain ⟨u, rfl⟩ := frame5A gz g0 g2 g3 g6 g11 g12 g13 g14 g15 g16
  clear gz g0 g2 g3 g6 g11 g12 g13 g14 g15 g16
  by_cases he : er = 11
  · subst he
    obtain ⟨rfl, hle, hk0⟩ := P1.out rfl
    have n0 := BNnb.out.cell 0 _ rfl
    have hle' : (s : Int) ≤ (s1 : Int) := by omega
    go_wp2
    go_ret
    exact ⟨rfl, K6.out⟩
  obtain ⟨⟨rfl, rfl, rfl⟩, hsF, h2, h3⟩ := P2.out he
  have hs6 : s1 ≤ 600 := by have := HF6.out; omega
  have HS6 := Fact.mk hs6
  have D2 := Fact.mk (C2.out hs6 h2)
  have D3 := Fact.mk (C3.out hs6)
  have H3 := Fact.mk h3
  have hne : (er1 == 11) = false := by simpa using he
  have HC : Fact (∀ w', Keep All V5 w' → w'.cell? ⟨nb, 0, none⟩ = some (.int .i64 x1.kind) ∧ w'.cell? ⟨nb, 1, none⟩ = some (.slice A0 x1.bytes.length c0) ∧ w'.cell? ⟨nb, 2, none⟩ = some (.slice B0 x1.kids.length d0) ∧ w'.cell? ⟨wb, 0, none⟩ = some (.int .i64 x1.kind) ∧ w'.cell? ⟨wb, 1, none⟩ = some (.slice A1 x1.bytes.length c1) ∧ w'.cell? ⟨wb, 2, none⟩ = some (.slice B1 x1.kids.length d1)) := ⟨fun w' k => by
    have h1 := BNnb.out.keep k trivial
    have h2 := BNwb.out.keep k trivial
    exact ⟨h1.cell 0 _ rfl, h1.cell 1 _ rfl, h1.cell 2 _ rfl, h2.cell 0 _ rfl, h2.cell 1 _ rfl, h2.cell 2 _ rfl⟩⟩
  have HS : Fact (∀ w', Keep All V5 w' → Calls Tryz.prog 28 #[.agg #[.int .i64 x1.kind, .slice A0 x1.bytes.length c0, .slice B0 x1.kids.length d0], .agg #[.int .i64 x1.kind, .slice A1 x1.bytes.length c1, .slice B1 x1.kids.length d1]] w' fun e w2 => e = .returned (.bool true) ∧ Keep All w' w2) := ⟨fun w' k => same28 w' x1 _ _ ⟨A0, c0, B0, d0, rfl, HN.out.keep k⟩ ⟨A1, c1, B1, d1, rfl, HW1.out.keep k⟩⟩
  have HRT : Fact (er1 = 0 → ∀ w', Keep All V5 w' → Calls Tryz.prog 29 #[.agg #[.int .i64 x1.kind, .slice A0 x1.bytes.length c0, .slice B0 x1.kids.length d0]] w' fun e w2 => e = .returned (.bool true) ∧ Keep All w' w2) := ⟨fun h w' k => by
    have := right29g w' All x1 _ ⟨A0, c0, B0, d0, rfl, HN.out.keep k⟩
    rw [HT0.out h] at this
    exact this⟩
  have HSJ : Fact (∀ (w' : World) (A2 : Option Addr) (c2 : Nat) (B2 : Option Addr) (d2 : Nat), Keep All V5 w' → RepN w' All x1 (.slice A2 x1.bytes.length c2) (.slice B2 x1.kids.length d2) → Calls Tryz.prog 28 #[.agg #[.int .i64 x1.kind, .slice A2 x1.bytes.length c2, .slice B2 x1.kids.length d2], .agg #[.int .i64 x1.kind, .slice A0 x1.bytes.length c0, .slice B0 x1.kids.length d0]] w' fun e w2 => e = .returned (.bool true) ∧ Keep All w' w2) := ⟨fun w' A2 c2 B2 d2 k h => same28 w' x1 _ _ ⟨A2, c2, B2, d2, rfl, h⟩ ⟨A0, c0, B0, d0, rfl, HN.out.keep k⟩⟩
  have KC : Fact (Keep All V5 V5) := ⟨Keep.refl _ _⟩
  obtain ⟨q0, q1, q2, q3, q4, q5⟩ := HC.out V5 (Keep.refl _ _)
  have hsF' : decide (F < s1) = false := by simpa using (by omega : ¬ F < s1)
  clear hs6 hsF P1 P2 C0 C2 C3 h2 h3 he BNnb BNwb HN HW1 HT0 HT1 HL0 HL1
  have P3' := Fact.mk P3.out
  clear P3
  go_upto_region 9 with (fail)
  have HE0 : er1 = 0 ∨ (¬ er1 = 0 ∧ x1.kind = 0) := by
    by_cases h0 : er1 = 0
    · exact .inl h0
    · exact .inr ⟨h0, P3'.out h0⟩
  go_cut [115] (fun v w' => v = .bool false ∧ Keep All V5 w')
  case first =>
    rcases HE0 with h0 | ⟨h0, hk0⟩
    · have HR29 := Fact.mk (HRT.out h0)
      subst h0
      clear HRT
      go_wp2_with (first
        | (go_at_call 28; go_must (refine (HS.out _ KC.out).mono ?_); rintro e wn ⟨rfl, hk⟩; have KN := Fact.mk (KC.out.trans hk); clear KC q0 q1 q2 q3 q4 q5 hk; have KC := Fact.mk KN.out; clear KN; obtain ⟨q0, q1, q2, q3, q4, q5⟩ := HC.out _ KC.out)
        | (go_at_call 29; go_must (refine (HR29.out _ KC.out).mono ?_); rintro e wn ⟨rfl, hk⟩; have KN := Fact.mk (KC.out.trans hk); clear KC q0 q1 q2 q3 q4 q5 hk; have KC := Fact.mk KN.out; clear KN; obtain ⟨q0, q1, q2, q3, q4, q5⟩ := HC.out _ KC.out))
      go_meet
      case rel => exact ⟨rfl, KC.out⟩
    · have hne0 : (er1 == 0) = false := by simpa using h0
      have hne1 : (er1 != 0) = true := by simpa using h0
      have hs0 := HS.out
      rw [hk0] at hs0
      have HS0 := Fact.mk hs0
      clear h0 HRT hs0 HS
      go_wp2_with (go_at_call 28; go_must (refine (HS0.out _ KC.out).mono ?_); rintro e wn ⟨rfl, hk⟩; have KN := Fact.mk (KC.out.trans hk); clear KC q0 q1 q2 q3 q4 q5 hk; have KC := Fact.mk KN.out; clear KN; obtain ⟨q0, q1, q2, q3, q4, q5⟩ := HC.out _ KC.out)
      go_meet
      case rel => exact ⟨rfl, KC.out⟩
  case rest =>
    obtain ⟨rfl, hkc⟩ := hcut
    clear KC q0 q1 q2 q3 q4 q5
    have KC := Fact.mk hkc
    clear hkc HRT HS
    go_upto_region 11 with (fail)
    have B67 := Fact.mk (B66.out.keep KC.out trivial)
    have K7 := Fact.mk (K6.out.trans KC.out)
    go_upto_region 12 with (first
      | (refine wpList_load_mid rfl 50 (.tmp 6) rfl w.heap.size 0 ?cx sc _ ?cc Tryz.underlying50 ?cd ?ci ?crest
         case cx => go_must (rfl)
         case cc => go_must (exact Blk.range B67.out)
         case cd => go_must (rfl)
         case ci => go_must (rw [HCL.out]; kernel_rfl))
      | (go_at_call 27; go_must (refine (D2.out _ K7.out).mono ?_); rintro e w8 ⟨A2, c2, B2, d2, rfl, HR2, HT2, HL2, HK⟩; have K8 := Fact.mk (K7.out.trans HK.out); have B68 := Fact.mk (B67.out.keep HK.out trivial); have KC8 := Fact.mk (KC.out.trans HK.out); clear HK))
    clear B67 K7 KC B66 K6
    obtain ⟨V8, hV8⟩ : ∃ X, X = w8.alloc (.cells #[.int .i64 x1.kind, .slice A2 x1.bytes.length c2, .slice B2 x1.kids.length d2] 58) := ⟨_, rfl⟩
    rw [← hV8]
    have KV8 : Fact (Keep All w8 V8) := ⟨hV8 ▸ (Keep.refl _ w8).alloc _⟩
    have BJ : Fact (Blk V8 w8.heap.size [.int .i64 x1.kind, .slice A2 x1.bytes.length c2, .slice B2 x1.kids.length d2] 58) := ⟨hV8 ▸ Blk.new w8 [.int .i64 x1.kind, .slice A2 x1.bytes.length c2, .slice B2 x1.kids.length d2] 58⟩
    have K9 := Fact.mk (K8.out.trans KV8.out)
    have B69 := Fact.mk (B68.out.keep KV8.out trivial)
    have KC9 := Fact.mk (KC8.out.trans KV8.out)
    have HJ2 := Fact.mk (HSJ.out V8 A2 c2 B2 d2 KC9.out (HR2.out.keep KV8.out))
    obtain ⟨jb, hjb⟩ : ∃ q, q = w8.heap.size := ⟨_, rfl⟩
    rw [← hjb] at BJ ⊢
    have j0 := BJ.out.cell 0 _ rfl
    have j1 := BJ.out.cell 1 _ rfl
    have j2 := BJ.out.cell 2 _ rfl
    obtain ⟨q0, q1, q2, q3, q4, q5⟩ := HC.out _ KC9.out
    clear hV8 hjb K8 B68 KC8 KV8 HR2
    go_upto_region 14 with (go_at_call 28; go_must (refine HJ2.out.mono ?_); rintro e w10 ⟨rfl, hk⟩; have K10 := Fact.mk (K9.out.trans hk); have B610 := Fact.mk (B69.out.keep hk trivial); clear hk)
    clear q0 q1 q2 q3 q4 q5 j0 j1 j2
    refine wp_fresh5 (fun a w' => (a.tmps.size = 155 ∧ a.tmps.getD 0 undef = .slice A bb.length c ∧ a.tmps.getD 2 undef = iv ∧ a.tmps.getD 6 undef = .pointer (some ⟨w.heap.size, 0, none⟩) ∧ a.tmps.getD 12 undef = .int .i64 (s1 : Int) ∧ a.defers = []) ∧ w' = w10) ⟨⟨rfl, rfl, rfl, rfl, rfl, rfl⟩, rfl⟩ ?_
    rintro ⟨tm, df⟩ wf ⟨⟨gz, g0, g2, g6, g12, gd⟩, hwf⟩
    have hwf := hwf.symm
    subst hwf
    simp only at gz g0 g2 g6 g12 gd
    subst gd
    obtain ⟨u, rfl⟩ := frame5C gz g0 g2 g6 g12
    clear gz g0 g2 g6 g12
    have hs6 := HS6.out
    go_upto_region 15 with (first
      | (refine wpList_load_mid rfl 50 (.tmp 6) rfl w.heap.size 0 ?c2x sc _ ?c2c Tryz.underlying50 ?c2d ?c2i ?c2rest
         case c2x => go_must (rfl)
         case c2c => go_must (exact Blk.range B610.out)
         case c2d => go_must (rfl)
         case c2i => go_must (rw [HCL.out]; kernel_rfl))
      | (go_at_call 27; go_must (refine (D3.out _ K10.out).mono ?_); rintro e w11 ⟨A3, c3, B3, d3, rfl, HR3, HT3, HL3, HK⟩; have K11 := Fact.mk (K10.out.trans HK.out); clear HK))
    by_cases hs0 : s1 = 0
    · subst hs0
      go_wp2
      go_ret
      exact ⟨rfl, K11.out.alloc _⟩
    · have h11 := H3.out (by omega)
      subst h11
      have hz : ((s1 : Int) == 0) = false := by simpa using (by omega : ¬ ((s1 : Int) = 0))
      go_wp2
      go_ret
      exact ⟨rfl, K11.out.alloc _⟩
end Go.Proofs.YtddmbdigdnmfgaaGreatDoor
