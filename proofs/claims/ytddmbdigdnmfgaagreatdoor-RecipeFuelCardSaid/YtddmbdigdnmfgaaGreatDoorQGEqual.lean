/- tree.Equal at any two trees. -/
import Derived.Test.YtddmbdigdnmfgaaGreatDoorQRec5
import Derived.Test.YtddmbdigdnmfgaaGreatDoorQGFind
import Derived.Test.YtddmbdigdnmfgaaGreatDoorQShelf2
namespace Go.Proofs.YtddmbdigdnmfgaaGreatDoor
open Go.RowKit
set_option maxHeartbeats 1000000
set_option maxRecDepth 100000

theorem By.bytesIn {w : World} {G : Nat → Prop} {A : Option Addr} {c : Nat} {l : List UInt8} (h : By w G (.slice A l.length c) l) : Lib.BytesIn w A l.length (l.map fun x => (x.toNat : Int)) := by
  obtain ⟨A', c', e, -, -, -, hx⟩ := h.open
  simp only [Value.slice.injEq] at e
  obtain ⟨rfl, -, rfl⟩ := e
  intro hp
  obtain ⟨b, o, rfl, -, ha⟩ := hx hp
  refine ⟨b, o, rfl, fun i hi => ?_⟩
  rw [ha i hi]
  simp [List.getD_eq_getElem?_getD, hi]
theorem bytesOf_map (l : List UInt8) : Lib.bytesOf (l.map fun x => (x.toNat : Int)) = l := by
  unfold Lib.bytesOf
  rw [List.map_map]
  conv => rhs; rw [← List.map_id l]
  exact List.map_congr_left fun x _ => by simp
theorem equal243 (w : World) (G1 G2 : Nat → Prop) (v1 v2 : Value) (a b : List UInt8) (h1 : By w G1 v1 a) (h2 : By w G2 v2 b) :
    Calls Tryz.prog 243 #[v1, v2] w fun e w' => e = .returned (.bool (a == b)) ∧ w' = w := by
  obtain ⟨A, c, rfl, -⟩ := h1.open
  obtain ⟨B, d, rfl, -⟩ := h2.open
  have := Tryz.bytes_Equal_all A B a.length c b.length d _ _ w (by simp) (by simp) h1.bytesIn h2.bytesIn
  refine this.mono fun e w' h => ⟨?_, h.2⟩
  rw [h.1, bytesOf_map, bytesOf_map]
def SameAt2 (x : PNode) : Prop := ∀ (y : PNode) (w : World) (G1 G2 : Nat → Prop) (v1 v2 : Value), NodeV w G1 x v1 → NodeV w G2 y v2 → Calls Tryz.prog 232 #[v1, v2] w fun e w' => e = .returned (.bool (sameP x y)) ∧ Keep All w w'
theorem same245 (s t : ByteArray) (x y : PNode) (hx : SameAt2 x) (w : World) (G1 G2 : Nat → Prop) (A1 B1 A2 B2 : Option Addr) (c1 d1 c2 d2 : Nat)
    (h1 : RepN w G1 x (.slice A1 x.bytes.length c1) (.slice B1 x.kids.length d1)) (h2 : RepN w G2 y (.slice A2 y.bytes.length c2) (.slice B2 y.kids.length d2)) :
    Calls Tryz.prog 245 #[.agg #[.string s, .int .i64 x.kind, .slice A1 x.bytes.length c1, .slice B1 x.kids.length d1], .agg #[.string t, .int .i64 y.kind, .slice A2 y.bytes.length c2, .slice B2 y.kids.length d2]] w
      fun e w' => e = .returned (.bool (decide (s = t) && sameP x y)) ∧ Keep All w w' := by
  have H1 := Fact.mk h1
  have H2 := Fact.mk h2
  obtain ⟨q, hq⟩ : ∃ q, q = sameP x y := ⟨_, rfl⟩
  have HC : Fact (∀ w', Keep All w w' → Calls Tryz.prog 232 #[.agg #[.int .i64 x.kind, .slice A1 x.bytes.length c1, .slice B1 x.kids.length d1], .agg #[.int .i64 y.kind, .slice A2 y.bytes.length c2, .slice B2 y.kids.length d2]] w' fun e w2 => e = .returned (.bool q) ∧ Keep All w' w2) := ⟨fun w' k => by
    rw [hq]
    exact hx y w' G1 G2 _ _ ⟨A1, c1, B1, d1, rfl, h1.keep k.all⟩ ⟨A2, c2, B2, d2, rfl, h2.keep k.all⟩⟩
  rw [← hq]
  clear h1 h2 hq H1 H2 hx
  by_cases hst : s = t
  · subst hst
    go_enter Tryz.func245, Tryz.ntmps245
    go_wp2_with (go_at_call 232; go_must (refine (HC.out _ (((Keep.refl _ w).alloc _).alloc _)).mono ?_); rintro e w2 ⟨rfl, hk⟩; have K := Fact.mk ((((Keep.refl _ w).alloc _).alloc _).trans hk); clear hk)
    go_ret
    exact ⟨by simp, K.out⟩
  · have hne := text_ne hst
    go_enter Tryz.func245, Tryz.ntmps245
    go_wp2
    go_ret
    exact ⟨by simp [hst], ((Keep.refl _ w).alloc _).alloc _⟩
theorem equal244 (x y : PNode) (hx : ∀ z ∈ x.kids, SameAt2 z.2) (w : World) (G1 G2 : Nat → Prop) (A1 B1 A2 B2 : Option Addr) (c1 d1 c2 d2 n1 n2 : Nat)
    (h1 : RepN w G1 x (.slice A1 n1 c1) (.slice B1 x.kids.length d1)) (h2 : RepN w G2 y (.slice A2 n2 c2) (.slice B2 y.kids.length d2)) :
    Calls Tryz.prog 244 #[.slice B1 x.kids.length d1, .slice B2 y.kids.length d2, .func (.func 245) #[] #[]] w fun e w' => e = .returned (.bool (sameK x.kids y.kids)) ∧ Keep All w w' := by
  obtain ⟨-, -, -, -, hmd1, hd1, -, hat1⟩ := h1.open
  obtain ⟨-, -, -, -, hmd2, hd2, -, hat2⟩ := h2.open
  have HAT1 := Fact.mk hat1
  have HAT2 := Fact.mk hat2
  have HX := Fact.mk hx
  have hb1 : x.kids.length ≤ 9223372036854775807 := by unfold maxLen at hd1; omega
  have hb2 : y.kids.length ≤ 9223372036854775807 := by unfold maxLen at hd2; omega
  clear h1 h2 hat1 hat2 hx hd1 hd2
  by_cases hne : x.kids.length = y.kids.length
  · have HNE := Fact.mk hne
    have hn' : ((x.kids.length : Int) != (y.kids.length : Int)) = false := by simp [hne]
    have hlt0 : ∀ k, k < x.kids.length → k < y.kids.length := fun k h => by omega
    clear hne
    go_enter Tryz.func244, Tryz.ntmps244
    go_wp2
    go_loopg [17] x.kids.length (fun g i w' => ∃ k, k + g = x.kids.length ∧ i = .int .i64 k ∧ Keep All w w' ∧ x.kids.take k = y.kids.take k)
    case atStart => exact ⟨0, by omega, rfl, Keep.refl _ _, rfl⟩
    case round =>
      obtain ⟨k, hk, rfl, hkp, hta⟩ := hrel
      have HK := Fact.mk hk
      have HKP := Fact.mk hkp
      have HTA := Fact.mk hta
      clear hk hkp hta
      by_cases hlt : k < x.kids.length
      · have hlt2 := hlt0 k hlt
        have hlt3 : (k : Int) < y.kids.length := by omega
        obtain ⟨g, off, vb, vk, rfl, hg, a0, a1, a2, a3, hr1⟩ := HAT1.out k hlt
        obtain ⟨P1, n1, Q1, m1, rfl, rfl⟩ := hr1.forms
        obtain ⟨g', off', vb', vk', rfl, hg', b0, b1, b2, b3, hr2⟩ := HAT2.out k hlt2
        obtain ⟨P2, n2, Q2, m2, rfl, rfl⟩ := hr2.forms
        have e0 := HKP.out.cell (p := ⟨g, off + k * 4, none⟩) trivial a0
        have e1 := HKP.out.cell (p := ⟨g, off + k * 4 + 1, none⟩) trivial a1
        have e2 := HKP.out.cell (p := ⟨g, off + k * 4 + 2, none⟩) trivial a2
        have e3 := HKP.out.cell (p := ⟨g, off + k * 4 + 3, none⟩) trivial a3
        have f0 := HKP.out.cell (p := ⟨g', off' + k * 4, none⟩) trivial b0
        have f1 := HKP.out.cell (p := ⟨g', off' + k * 4 + 1, none⟩) trivial b1
        have f2 := HKP.out.cell (p := ⟨g', off' + k * 4 + 2, none⟩) trivial b2
        have f3 := HKP.out.cell (p := ⟨g', off' + k * 4 + 3, none⟩) trivial b3
        have hgl : g' < wr.heap.size := World.block_lt_of_cell? wr _ f0
        have hgn : wr.heap.size ≠ g' := by omega
        obtain ⟨q, hq⟩ : ∃ q, q = (decide (x.kids[k].1 = y.kids[k].1) && sameP x.kids[k].2 y.kids[k].2) := ⟨_, rfl⟩
        have HC : Fact (∀ w', Keep All wr w' → Calls Tryz.prog 245 #[.agg #[.string x.kids[k].1, .int .i64 x.kids[k].2.kind, .slice P1 x.kids[k].2.bytes.length n1, .slice Q1 x.kids[k].2.kids.length m1], .agg #[.string y.kids[k].1, .int .i64 y.kids[k].2.kind, .slice P2 y.kids[k].2.bytes.length n2, .slice Q2 y.kids[k].2.kids.length m2]] w' fun e w2 => e = .returned (.bool q) ∧ Keep All w' w2) := ⟨fun w' k' => by
          rw [hq]
          exact same245 _ _ _ _ (HX.out _ (List.getElem_mem hlt)) w' G1 G2 _ _ _ _ _ _ _ _ (hr1.keep (HKP.out.trans k').all) (hr2.keep (HKP.out.trans k').all)⟩
        have HQ := Fact.mk hq
        clear hq hr1 hr2 a0 a1 a2 a3 b0 b1 b2 b3 hg hg'
        cases q with
        | false =>
          have HN : Fact (sameK x.kids y.kids = false) := ⟨by
            simp only [sameK, decide_eq_false_iff_not]
            intro h
            have h2 := HQ.out
            simp [h, sameP] at h2⟩
          go_wp2_with (go_at_call 245; go_must (refine (HC.out _ (((Keep.refl _ wr).alloc _).alloc _)).mono ?_); rintro e w2 ⟨rfl, hk⟩; have K := Fact.mk (HKP.out.trans ((((Keep.refl _ wr).alloc _).alloc _).trans hk)); clear hk)
          go_ret
          exact ⟨by rw [HN.out]; rfl, K.out⟩
        | true =>
          go_wp2_with (go_at_call 245; go_must (refine (HC.out _ (((Keep.refl _ wr).alloc _).alloc _)).mono ?_); rintro e w2 ⟨rfl, hk⟩; have K := Fact.mk (HKP.out.trans ((((Keep.refl _ wr).alloc _).alloc _).trans hk)); clear hk)
          go_roundg (gk - 1)
          case measure => have := HK.out; omega
          case rel =>
            refine ⟨k + 1, by have := HK.out; omega, by go_num, K.out, ?_⟩
            have h2 := HQ.out.symm
            simp only [Bool.and_eq_true, decide_eq_true_eq, sameP] at h2
            rw [List.take_succ_eq_append_getElem hlt, List.take_succ_eq_append_getElem hlt2, HTA.out, show x.kids[k] = y.kids[k] from Prod.ext h2.1 h2.2]
      · have hkl : k = x.kids.length := by have := HK.out; omega
        have HY : Fact (sameK x.kids y.kids = true) := ⟨by
          simp only [sameK, decide_eq_true_eq]
          have := HTA.out
          rwa [hkl, List.take_length, HNE.out, List.take_length] at this⟩
        go_wp2
        go_ret
        exact ⟨by rw [HY.out]; rfl, HKP.out⟩
  · have hn' : ((x.kids.length : Int) != (y.kids.length : Int)) = true := by simp; omega
    have HN : Fact (sameK x.kids y.kids = false) := ⟨by simp only [sameK, decide_eq_false_iff_not]; exact fun h => hne (by rw [h])⟩
    go_enter Tryz.func244, Tryz.ntmps244
    go_wp2
    go_ret
    exact ⟨by rw [HN.out]; rfl, Keep.refl _ _⟩
theorem same232 : ∀ x, SameAt2 x := by
  refine PNode.ind' ?_
  rintro k b l ih ⟨k', b', l'⟩ w G1 G2 v1 v2 ⟨A, c, B, d, rfl, h1⟩ ⟨A', c', B', d', rfl, h2⟩
  simp only [PNode.kind, PNode.bytes, PNode.kids] at *
  have hb1 := (h1.open).2.2.2.2.2.2.1
  have hb2 := (h2.open).2.2.2.2.2.2.1
  have HB1 := Fact.mk hb1
  have HB2 := Fact.mk hb2
  obtain ⟨q1, hq1⟩ : ∃ q, q = (b == b') := ⟨_, rfl⟩
  obtain ⟨q2, hq2⟩ : ∃ q, q = sameK l l' := ⟨_, rfl⟩
  have C243 : Fact (∀ w', Keep All w w' → Calls Tryz.prog 243 #[.slice A b.length c, .slice A' b'.length c'] w' fun e w2 => e = .returned (.bool q1) ∧ w2 = w') := ⟨fun w' kp => by
    rw [hq1]
    exact equal243 w' G1 G2 _ _ b b' (HB1.out.keep kp.all) (HB2.out.keep kp.all)⟩
  have C244 : Fact (∀ w', Keep All w w' → Calls Tryz.prog 244 #[.slice B l.length d, .slice B' l'.length d', .func (.func 245) #[] #[]] w' fun e w2 => e = .returned (.bool q2) ∧ Keep All w' w2) := ⟨fun w' kp => by
    rw [hq2]
    exact equal244 (.mk k b l) (.mk k' b' l') ih w' G1 G2 _ _ _ _ _ _ _ _ _ _ (h1.keep kp.all) (h2.keep kp.all)⟩
  rw [sameP_mk, ← hq1, ← hq2]
  clear h1 h2 hb1 hb2 HB1 HB2 hq1 hq2 ih
  have K0 : Keep All w ((w.alloc (.cells #[.int .i64 k, .slice A b.length c, .slice B l.length d] 58)).alloc (.cells #[.int .i64 k', .slice A' b'.length c', .slice B' l'.length d'] 58)) := ((Keep.refl _ w).alloc _).alloc _
  have KK := Fact.mk K0
  clear K0
  by_cases hk : k = k'
  · subst hk
    cases q1 with
    | false =>
      go_enter Tryz.func232, Tryz.ntmps232
      go_wp2_with (go_at_call 243; go_must (refine (C243.out _ KK.out).mono ?_); rintro e w2 ⟨rfl, rfl⟩)
      go_ret
      exact ⟨by simp, KK.out⟩
    | true =>
      go_enter Tryz.func232, Tryz.ntmps232
      go_wp2_with (first
        | (go_at_call 243; go_must (refine (C243.out _ KK.out).mono ?_); rintro e w2 ⟨rfl, rfl⟩)
        | (go_at_call 244; go_must (refine (C244.out _ KK.out).mono ?_); rintro e w3 ⟨rfl, hk⟩; have K3 := Fact.mk (KK.out.trans hk); clear hk))
      go_ret
      exact ⟨by simp, K3.out⟩
  · have hne : (k == k') = false := by simpa using hk
    go_enter Tryz.func232, Tryz.ntmps232
    go_wp2
    go_ret
    exact ⟨by simp [hk], KK.out⟩
/-- What Equal answers. -/
noncomputable def equalP (x y : PNode) : Bool := rightP x && rightP y && sameP x y
theorem equal211 (w : World) (G1 G2 : Nat → Prop) (x y : PNode) (v1 v2 : Value) (h1 : NodeV w G1 x v1) (h2 : NodeV w G2 y v2) :
    Calls Tryz.prog 211 #[v1, v2] w fun e w' => e = .returned (.bool (equalP x y)) ∧ Keep All w w' := by
  have H1 := Fact.mk h1
  have H2 := Fact.mk h2
  obtain ⟨A, c, B, d, rfl, -⟩ := h1
  obtain ⟨A', c', B', d', rfl, -⟩ := h2
  obtain ⟨qx, hx⟩ : ∃ q, q = rightP x := ⟨_, rfl⟩
  obtain ⟨qy, hy⟩ : ∃ q, q = rightP y := ⟨_, rfl⟩
  obtain ⟨qs, hs⟩ : ∃ q, q = sameP x y := ⟨_, rfl⟩
  obtain ⟨W, hW⟩ : ∃ X, X = (w.alloc (.cells #[.int .i64 x.kind, .slice A x.bytes.length c, .slice B x.kids.length d] 58)).alloc (.cells #[.int .i64 y.kind, .slice A' y.bytes.length c', .slice B' y.kids.length d'] 58) := ⟨_, rfl⟩
  have KW : Fact (Keep All w W) := ⟨hW ▸ ((Keep.refl All w).alloc _).alloc _⟩
  have B1 : Fact (Blk W w.heap.size [.int .i64 x.kind, .slice A x.bytes.length c, .slice B x.kids.length d] 58) := ⟨hW ▸ (Blk.new w [.int .i64 x.kind, .slice A x.bytes.length c, .slice B x.kids.length d] 58).alloc _⟩
  have B2 : Fact (Blk W (w.heap.size + 1) [.int .i64 y.kind, .slice A' y.bytes.length c', .slice B' y.kids.length d'] 58) := ⟨by
    have := Blk.new (w.alloc (.cells #[.int .i64 x.kind, .slice A x.bytes.length c, .slice B x.kids.length d] 58)) [.int .i64 y.kind, .slice A' y.bytes.length c', .slice B' y.kids.length d'] 58
    rw [World.size_alloc] at this
    rw [hW]; exact this⟩
  have HW := Fact.mk hW
  have C29x : Fact (∀ W', Keep All W W' → Calls Tryz.prog 29 #[.agg #[.int .i64 x.kind, .slice A x.bytes.length c, .slice B x.kids.length d]] W' fun e w' => e = .returned (.bool qx) ∧ Keep All W' w') := ⟨fun W' k => hx ▸ right29g W' G1 x _ ((H1.out.keep KW.out.all).keep k.all)⟩
  have C29y : Fact (∀ W', Keep All W W' → Calls Tryz.prog 29 #[.agg #[.int .i64 y.kind, .slice A' y.bytes.length c', .slice B' y.kids.length d']] W' fun e w' => e = .returned (.bool qy) ∧ Keep All W' w') := ⟨fun W' k => hy ▸ right29g W' G2 y _ ((H2.out.keep KW.out.all).keep k.all)⟩
  have C232 : Fact (∀ W', Keep All W W' → Calls Tryz.prog 232 #[.agg #[.int .i64 x.kind, .slice A x.bytes.length c, .slice B x.kids.length d], .agg #[.int .i64 y.kind, .slice A' y.bytes.length c', .slice B' y.kids.length d']] W' fun e w' => e = .returned (.bool qs) ∧ Keep All W' w') := ⟨fun W' k => hs ▸ same232 x y W' G1 G2 _ _ ((H1.out.keep KW.out.all).keep k.all) ((H2.out.keep KW.out.all).keep k.all)⟩
  rw [equalP, ← hx, ← hy, ← hs]
  clear hW hx hy hs H1 H2
  have b0 := B1.out.cell 0 _ rfl
  have b1 := B1.out.cell 1 _ rfl
  have b2 := B1.out.cell 2 _ rfl
  go_enter Tryz.func211, Tryz.ntmps211
  go_upto_region 1 with (fail)
  rw [← HW.out]
  clear HW
  cases qx with
  | false =>
    go_wp2_with (go_at_call 29; go_must (refine (C29x.out _ (Keep.refl _ _)).mono ?_); rintro e w1 ⟨rfl, hk⟩; have K1 := Fact.mk hk; clear hk)
    go_ret
    exact ⟨rfl, KW.out.trans K1.out⟩
  | true =>
    have hlit : ∀ {W' : World}, Keep All W W' → (W'.cell? ⟨w.heap.size, 0, none⟩ = some (.int .i64 x.kind) ∧ W'.cell? ⟨w.heap.size, 1, none⟩ = some (.slice A x.bytes.length c) ∧ W'.cell? ⟨w.heap.size, 2, none⟩ = some (.slice B x.kids.length d)) ∧ (W'.cell? ⟨w.heap.size + 1, 0, none⟩ = some (.int .i64 y.kind) ∧ W'.cell? ⟨w.heap.size + 1, 1, none⟩ = some (.slice A' y.bytes.length c') ∧ W'.cell? ⟨w.heap.size + 1, 2, none⟩ = some (.slice B' y.kids.length d')) := fun k =>
      ⟨⟨(B1.out.keep k trivial).cell 0 _ rfl, (B1.out.keep k trivial).cell 1 _ rfl, (B1.out.keep k trivial).cell 2 _ rfl⟩, (B2.out.keep k trivial).cell 0 _ rfl, (B2.out.keep k trivial).cell 1 _ rfl, (B2.out.keep k trivial).cell 2 _ rfl⟩
    have HLIT := Fact.mk @hlit
    clear hlit
    have tok : True := trivial
    cases qy with
    | false =>
      go_wp2_with (first
        | (go_at_call 29; have _t := tok; go_must (refine (C29x.out _ (Keep.refl _ _)).mono ?_); rintro e w1 ⟨rfl, hk⟩; have K1 := Fact.mk hk; obtain ⟨-, z0, z1, z2⟩ := HLIT.out hk; clear hk tok b0 b1 b2)
        | (go_at_call 29; go_must (refine (C29y.out _ K1.out).mono ?_); rintro e w2 ⟨rfl, hk⟩; have K2 := Fact.mk (K1.out.trans hk); clear hk))
      go_ret
      exact ⟨rfl, KW.out.trans K2.out⟩
    | true =>
      go_wp2_with (first
        | (go_at_call 29; have _t := tok; go_must (refine (C29x.out _ (Keep.refl _ _)).mono ?_); rintro e w1 ⟨rfl, hk⟩; have K1 := Fact.mk hk; obtain ⟨-, z0, z1, z2⟩ := HLIT.out hk; clear hk tok b0 b1 b2)
        | (go_at_call 29; go_must (refine (C29y.out _ K1.out).mono ?_); rintro e w2 ⟨rfl, hk⟩; have K2 := Fact.mk (K1.out.trans hk); clear z0 z1 z2; obtain ⟨⟨y0, y1, y2⟩, z0, z1, z2⟩ := HLIT.out K2.out; clear hk)
        | (go_at_call 232; go_must (refine (C232.out _ K2.out).mono ?_); rintro e w3 ⟨rfl, hk⟩; have K3 := Fact.mk (K2.out.trans hk); clear hk))
      go_ret
      exact ⟨by simp, KW.out.trans K3.out⟩
end Go.Proofs.YtddmbdigdnmfgaaGreatDoor
