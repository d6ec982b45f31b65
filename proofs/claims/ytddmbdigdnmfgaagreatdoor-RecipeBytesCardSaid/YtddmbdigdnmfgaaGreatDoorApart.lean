/- The kit's bag: rows of bytes put into it, and asked whether they lie apart; partly printed by a program. -/
import Derived.Test.YtddmbdigdnmfgaaGreatDoorFlat
import Derived.Test.YtddmbdigdnmfgaaGreatDoorFlat2
namespace Go.Proofs.YtddmbdigdnmfgaaGreatDoor
open Go.RowKit
set_option maxHeartbeats 1600000
set_option maxRecDepth 100000

theorem St.start {w0 w : World} {v : Nat → Value} {xs : Nat → List UInt8} (h : St w0 w v xs v xs fun _ => False) : St w w v xs v xs fun _ => False :=
  ⟨h.twin, h.far, fun _ _ _ _ h => h, fun _ _ _ hb => .inl hb, Keep.refl _ _, fun _ h => h.elim, fun _ h => h.elim⟩
theorem T42 : SlTy Tryz.prog 42 23 1 24 := by
  obtain ⟨i, hi, h0, h1, h2⟩ := info_parts (P := Tryz.prog) (e := 23) (z := .slice none 0 0) (size := 1) (bytes := 24) (by kernel_rfl)
  exact ⟨Tryz.underlying42, by decide, i, _, hi, h0, h1, h2, rfl⟩
/-- The bag's cells, the rows of bytes being u. -/
def bagCells (u : Value) : List Value := [.slice none 0 0, .slice none 0 0, .slice none 0 0, .slice none 0 0, .slice none 0 0, u, .slice none 0 0, .slice none 0 0, .slice none 0 0, .slice none 0 0, .slice none 0 0, .slice none 0 0, .slice none 0 0, .slice none 0 0, .slice none 0 0, .slice none 0 0, .slice none 0 0, .slice none 0 0, .slice none 0 0, .slice none 0 0, .slice none 0 0]
theorem apart56 (w : World) (bb g c : Nat) (v : Nat → Value) (xs : Nat → List UInt8) (hB : Blk w bb (bagCells (.slice (some ⟨g, 0, none⟩) 2 c)) 124) (h : St w w v xs v xs (fun _ => False))
    (hL : ∀ r, r < 2 → w.cell? ⟨g, 0 + r, none⟩ = some (v r)) (hf : Free v g) (hfb : Free v bb) (hn : ∀ r, r < 2 → (xs r).length ≤ 1000) :
    Calls Tryz.prog 56 #[.pointer (some ⟨bb, 0, none⟩)] w fun e w' => e = .returned (.bool true) ∧ Keep (Free v) w w' := by
  have B0 := Fact.mk hB
  have H := Fact.mk h
  have HL := Fact.mk hL
  have HF := Fact.mk hf
  have HFB := Fact.mk hfb
  have HN := Fact.mk hn
  have K0 := Fact.mk (Keep.refl All w)
  have q0 := hB.cell 0 _ rfl
  clear hB h hL hf hfb hn
  go_enter Tryz.func56, Tryz.ntmps56
  go_wp2_with (first
    | (go_at_call 81; go_must (refine (flat81 _).mono ?_); rintro e w1 ⟨rfl, hk⟩; have B1 := Fact.mk (B0.out.keep hk trivial); have K1 := Fact.mk (K0.out.trans hk); have q1 := B1.out.cell 1 _ rfl; clear hk B0 K0  q0)
    | (go_at_call 82; go_must (refine (flat82 _).mono ?_); rintro e w2 ⟨rfl, hk⟩; have B2 := Fact.mk (B1.out.keep hk trivial); have K2 := Fact.mk (K1.out.trans hk); have q2 := B2.out.cell 2 _ rfl; clear hk B1 K1  q1)
    | (go_at_call 83; go_must (refine (flat83 _).mono ?_); rintro e w3 ⟨rfl, hk⟩; have B3 := Fact.mk (B2.out.keep hk trivial); have K3 := Fact.mk (K2.out.trans hk); have q3 := B3.out.cell 3 _ rfl; clear hk B2 K2  q2)
    | (go_at_call 84; go_must (refine (flat84 _).mono ?_); rintro e w4 ⟨rfl, hk⟩; have B4 := Fact.mk (B3.out.keep hk trivial); have K4 := Fact.mk (K3.out.trans hk); have q4 := B4.out.cell 4 _ rfl; clear hk B3 K3  q3)
    | (go_at_call 85; go_must (refine (flat85 _).mono ?_); rintro e w5 ⟨rfl, hk⟩; have B5 := Fact.mk (B4.out.keep hk trivial); have K5 := Fact.mk (K4.out.trans hk); have q5 := B5.out.cell 5 _ rfl; clear hk B4 K4  q4)
    | (go_at_call 86; go_must (refine (flat86 _ g 0 c v xs (H.out.all K5.out).start (fun r hr => K5.out.cell (p := ⟨g, 0 + r, none⟩) trivial (HL.out r hr)) HF.out HN.out).mono ?_); rintro e w6 ⟨rfl, hk⟩; have B6 := Fact.mk (B5.out.keep hk HFB.out); have K6 := Fact.mk ((K5.out.all (G := Free v)).trans hk); have q6 := B6.out.cell 6 _ rfl; clear hk B5 K5 q5)
    | (go_at_call 87; go_must (refine (flat87 _).mono ?_); rintro e w7 ⟨rfl, hk⟩; have B7 := Fact.mk (B6.out.keep hk trivial); have K7 := Fact.mk (K6.out.trans hk.all); have q7 := B7.out.cell 7 _ rfl; clear hk B6 K6 q6)
    | (go_at_call 88; go_must (refine (flat88 _).mono ?_); rintro e w8 ⟨rfl, hk⟩; have B8 := Fact.mk (B7.out.keep hk trivial); have K8 := Fact.mk (K7.out.trans hk.all); have q8 := B8.out.cell 8 _ rfl; clear hk B7 K7 q7)
    | (go_at_call 89; go_must (refine (flat89 _).mono ?_); rintro e w9 ⟨rfl, hk⟩; have B9 := Fact.mk (B8.out.keep hk trivial); have K9 := Fact.mk (K8.out.trans hk.all); have q9 := B9.out.cell 9 _ rfl; clear hk B8 K8 q8)
    | (go_at_call 90; go_must (refine (flat90 _).mono ?_); rintro e w10 ⟨rfl, hk⟩; have B10 := Fact.mk (B9.out.keep hk trivial); have K10 := Fact.mk (K9.out.trans hk.all); have q10 := B10.out.cell 10 _ rfl; clear hk B9 K9 q9)
    | (go_at_call 91; go_must (refine (flat91 _).mono ?_); rintro e w11 ⟨rfl, hk⟩; have B11 := Fact.mk (B10.out.keep hk trivial); have K11 := Fact.mk (K10.out.trans hk.all); have q11 := B11.out.cell 11 _ rfl; clear hk B10 K10 q10)
    | (go_at_call 92; go_must (refine (flat92 _).mono ?_); rintro e w12 ⟨rfl, hk⟩; have B12 := Fact.mk (B11.out.keep hk trivial); have K12 := Fact.mk (K11.out.trans hk.all); have q12 := B12.out.cell 12 _ rfl; clear hk B11 K11 q11)
    | (go_at_call 93; go_must (refine (flat93 _).mono ?_); rintro e w13 ⟨rfl, hk⟩; have B13 := Fact.mk (B12.out.keep hk trivial); have K13 := Fact.mk (K12.out.trans hk.all); have q13 := B13.out.cell 13 _ rfl; clear hk B12 K12 q12)
    | (go_at_call 94; go_must (refine (flat94 _).mono ?_); rintro e w14 ⟨rfl, hk⟩; have B14 := Fact.mk (B13.out.keep hk trivial); have K14 := Fact.mk (K13.out.trans hk.all); have q14 := B14.out.cell 14 _ rfl; clear hk B13 K13 q13)
    | (go_at_call 95; go_must (refine (flat95 _).mono ?_); rintro e w15 ⟨rfl, hk⟩; have B15 := Fact.mk (B14.out.keep hk trivial); have K15 := Fact.mk (K14.out.trans hk.all); have q15 := B15.out.cell 15 _ rfl; clear hk B14 K14 q14)
    | (go_at_call 96; go_must (refine (flat96 _).mono ?_); rintro e w16 ⟨rfl, hk⟩; have B16 := Fact.mk (B15.out.keep hk trivial); have K16 := Fact.mk (K15.out.trans hk.all); have q16 := B16.out.cell 16 _ rfl; clear hk B15 K15 q15)
    | (go_at_call 97; go_must (refine (flat97 _).mono ?_); rintro e w17 ⟨rfl, hk⟩; have B17 := Fact.mk (B16.out.keep hk trivial); have K17 := Fact.mk (K16.out.trans hk.all); have q17 := B17.out.cell 17 _ rfl; clear hk B16 K16 q16)
    | (go_at_call 98; go_must (refine (flat98 _).mono ?_); rintro e w18 ⟨rfl, hk⟩; have B18 := Fact.mk (B17.out.keep hk trivial); have K18 := Fact.mk (K17.out.trans hk.all); have q18 := B18.out.cell 18 _ rfl; clear hk B17 K17 q17)
    | (go_at_call 99; go_must (refine (flat99 _).mono ?_); rintro e w19 ⟨rfl, hk⟩; have B19 := Fact.mk (B18.out.keep hk trivial); have K19 := Fact.mk (K18.out.trans hk.all); have q19 := B19.out.cell 19 _ rfl; clear hk B18 K18 q18)
    | (go_at_call 100; go_must (refine (flat100 _).mono ?_); rintro e w20 ⟨rfl, hk⟩; have B20 := Fact.mk (B19.out.keep hk trivial); have K20 := Fact.mk (K19.out.trans hk.all); have q20 := B20.out.cell 20 _ rfl; clear hk B19 K19 q19)
    | (go_at_call 101; go_must (refine (flat101 _).mono ?_); rintro e w21 ⟨rfl, hk⟩; have B21 := Fact.mk (B20.out.keep hk trivial); have K21 := Fact.mk (K20.out.trans hk.all); clear hk B20 K20 q20)
    )
  go_ret
  exact ⟨rfl, K21.out⟩
end Go.Proofs.YtddmbdigdnmfgaaGreatDoor

/- Two rows of bytes told lie apart: the kit says so. -/
namespace Go.Proofs.YtddmbdigdnmfgaaGreatDoor
open Go.RowKit
set_option maxHeartbeats 800000
set_option maxRecDepth 100000

/-- The bag at bb holds the rows xs. -/
def Bag (w : World) (bb : Nat) (u : Value) (n : Nat) (xs : List Value) : Prop := Blk w bb (bagCells u) 124 ∧ w.ownsRow (bb + 1) 23 1 u n xs
theorem put55 (w : World) (bb n : Nat) (u : Value) (Ax : Option Addr) (nx cx : Nat) (xs : List Value) (h : Bag w bb u n xs) (hn : n ≤ 100) :
    Calls Tryz.prog 55 #[.pointer (some ⟨bb, 0, none⟩), .slice Ax nx cx] w fun e w' => e = .returned (.tuple #[]) ∧ ∃ u', Bag w' bb u' (n + 1) (xs ++ [.slice Ax nx cx]) ∧ Keep (fun i => i ≠ bb ∧ u.ownBlock ≠ some i) w w' := by
  obtain ⟨A, c, rfl⟩ := own_form h.2
  have HB := Fact.mk h.1
  have HO := Fact.mk h.2
  have q5 := h.1.cell 5 _ rfl
  have f5 := h.1.free 5
  have HF : Fact (Fits n 1 24) := ⟨Fits.of (Small.of (by omega)) 24 (by decide)⟩
  have HLT := Fact.mk h.1.lt
  clear h
  go_enter Tryz.func55, Tryz.ntmps55
  go_wp2_with (at_builtin; go_must (refine wpList_ap rfl _ _ 42 23 1 24 (bb + 1) n 1 (HO.out.alloc _) (Sl.new w 23 1 1 [.slice Ax nx cx] rfl (by decide) (by simp [Value.oneCell'])) rfl T42 rfl rfl HF.out (alloc_le HLT.out) ?_); intro v' w1 ho hg hb; have HO1 := Fact.mk ho; have K1 := Fact.mk ((((Keep.refl (fun i => (Value.slice A n c).ownBlock ≠ some i) w).alloc (.cells #[.slice Ax nx cx] 23)).grown hg fun k hk => .inr fun hn => hn hk)); have HB1 := Fact.mk (HB.out.keep K1.out fun e => by have := (HO.out.lt _ e).1; omega); have z5 := HB1.out.cell 5 _ rfl; have y5 := HB1.out.free 5; obtain ⟨A1, c1, rfl⟩ := own_form ho; clear ho hg hb)
  go_end0
  refine ⟨rfl, _, ⟨HB1.out.set 5 _, own_keep HO1.out ((Keep.refl (fun i => i ≠ bb) _).setCell (.inr (by simp)) _) fun k hk => by have := (HO1.out.lt k hk).1; omega⟩, ?_⟩
  exact (K1.out.mono fun i hi => hi.2).then_ ((Keep.refl (fun i => i ≠ bb) _).setCell (.inr (by simp)) _) fun i _ hi => hi.1
theorem apart18 (w : World) (L lo lc : Nat) (v : Nat → Value) (xs : Nat → List UInt8) (h : St w w v xs v xs (fun _ => False)) (hL : ∀ r, r < 2 → w.cell? ⟨L, lo + r, none⟩ = some (v r)) (hn : ∀ r, r < 2 → (xs r).length ≤ 1000) :
    Calls Tryz.prog 18 #[.slice (some ⟨L, lo, none⟩) 2 lc] w fun e w' => e = .returned (.bool true) ∧ Keep (Free v) w w' := by
  have H := Fact.mk h
  have HL := Fact.mk hL
  have HN := Fact.mk hn
  clear h hL hn
  go_enter Tryz.func18, Tryz.ntmps18
  go_upto_block 0 with (fail)
  obtain ⟨bb, hbb⟩ : ∃ n, n = w.heap.size := ⟨_, rfl⟩
  obtain ⟨W, hW⟩ : ∃ X, X = w.alloc (.cells (bagCells (.slice none 0 0)).toArray 124) := ⟨_, rfl⟩
  change Code.wp _ _ _ _ (w.alloc (.cells (bagCells (.slice none 0 0)).toArray 124))
  rw [← hW, ← hbb]
  have HB : Fact (Bag W bb (.slice none 0 0) 0 []) := ⟨by rw [hW, hbb]; exact ⟨Blk.new w _ 124, World.ownsRow_nil _ _ _ _⟩⟩
  have HK : Fact (Keep All w W) := ⟨hW ▸ (Keep.refl _ _).alloc _⟩
  have HBB := Fact.mk hbb
  clear hW hbb
  go_cut [] (fun w' => ∃ u, Bag w' bb u 2 (two v) ∧ Keep All w w')
  case first =>
    go_wp2
    go_loopg [4] 2 (fun g0 i w' => ∃ k u, k + g0 = 2 ∧ i = .int .i64 k ∧ Bag w' bb u k ((two v).take k) ∧ Keep All w w')
    case atStart => exact ⟨0, _, rfl, rfl, by simpa using HB.out, HK.out⟩
    case round =>
      obtain ⟨k, u, hk, rfl, hbag, hkp⟩ := hrel
      have HQ := Fact.mk hk
      have HG := Fact.mk hbag
      have HKP := Fact.mk hkp
      have hbu : ∀ i, i < w.heap.size → i ≠ bb ∧ u.ownBlock ≠ some i := fun i hi => ⟨by have := HBB.out; omega, fun e => by have := (hbag.2.lt i e).1; have := HBB.out; omega⟩
      have HBU := Fact.mk hbu
      clear hk hbag hkp hbu
      by_cases hlt : (k : Int) < 2
      · have hk2 : k < 2 := by omega
        obtain ⟨A, c, hv, hnc, hcm, -⟩ := (H.out.twin k hk2).1.open
        have c0 := HKP.out.cell (p := ⟨L, lo + k, none⟩) trivial (HL.out k hk2)
        rw [hv] at c0
        have HV := Fact.mk hv
        clear hv hnc hcm
        go_wp2_with (go_at_call 55; go_must (refine (put55 _ bb k u _ _ _ _ HG.out (by omega)).mono ?_); rintro e w2 ⟨rfl, u', hbag, hkp⟩; have HG2 := Fact.mk hbag; have HKP2 := Fact.mk (HKP.out.then_ hkp fun i hi _ => HBU.out i hi); clear hbag hkp)
        go_roundg (gk - 1)
        case measure => have := HQ.out; omega
        case rel =>
          refine ⟨k + 1, u', by have := HQ.out; omega, by go_num, ?_, HKP2.out⟩
          rw [List.take_add_one, two_get v hk2, HV.out]
          exact HG2.out
      · have hke : k = 2 := by have := HQ.out; omega
        subst hke
        go_wp2
        go_meet
        case rel => exact ⟨u, HG.out, HKP.out⟩
  case rest =>
    obtain ⟨u, hbag, hkp⟩ := hcut
    have HBG : Fact (∃ g c, u = .slice (some ⟨g, 0, none⟩) 2 c ∧ bb < g ∧ ∀ r, r < 2 → wc.cell? ⟨g, 0 + r, none⟩ = some (v r)) := ⟨by
      have ho := hbag.2
      rcases hbag.2.2 with ⟨-, h0⟩ | ⟨g, cap, cur, rfl, hb, -⟩
      · cases h0
      · refine ⟨g, cap, rfl, hb, fun r hr => ?_⟩
        rw [Nat.zero_add, World.ownsRow.cellAt ho r (by omega)]
        exact two_get v hr⟩
    obtain ⟨g, c, rfl, hg, hc⟩ := HBG.out
    have HC := Fact.mk hc
    have HB2 := Fact.mk hbag.1
    have HKP := Fact.mk hkp
    have HFG : Fact (∀ i, bb ≤ i → Free v i) := ⟨fun i hi r hr e => by have := (H.out.twin r hr).1.lt e; have := HBB.out; omega⟩
    clear HBG hc hbag hkp HB HK
    go_wp2_with (go_at_call 56; go_must (refine (apart56 _ bb g c v xs HB2.out (H.out.all HKP.out).start HC.out (HFG.out g (Nat.le_of_lt hg)) (HFG.out bb (Nat.le_refl _)) HN.out).mono ?_); rintro e w2 ⟨rfl, hk⟩; have HE := Fact.mk ((HKP.out.all (G := Free v)).trans hk); clear hk)
    go_ret
    exact ⟨rfl, HE.out⟩
end Go.Proofs.YtddmbdigdnmfgaaGreatDoor
