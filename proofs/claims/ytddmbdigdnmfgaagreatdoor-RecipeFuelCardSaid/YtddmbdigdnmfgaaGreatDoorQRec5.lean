/- looker.right at any tree. -/
import Derived.Test.YtddmbdigdnmfgaaGreatDoorQNamed
import Derived.Test.YtddmbdigdnmfgaaGreatDoorQCount
import Derived.Test.YtddmbdigdnmfgaaGreatDoorQWords
import Derived.Test.YtddmbdigdnmfgaaGreatDoorQShelf
namespace Go.Proofs.YtddmbdigdnmfgaaGreatDoor
open Go.RowKit
set_option maxHeartbeats 1000000
set_option maxRecDepth 100000

/-- What stands at a kind: the least and the most bytes, may there be kids; does it stand there at all? -/
def kindV (k : Int) : Nat × Nat × Bool × Bool := if k = 1 ∨ k = 2 then (0, 2048, false, true) else if k = 3 then (1, 200, false, true) else if k = 4 then (0, 0, true, true) else (0, 0, false, false)
theorem findKind (k : Int) : Instr.findNow (.int .i64) (.int .i64 k) kindMap.toList 0 = some (if k = 1 then some (0, .agg #[.int .i64 0, .int .i64 2048, .bool false]) else if k = 2 then some (1, .agg #[.int .i64 0, .int .i64 2048, .bool false]) else if k = 3 then some (2, .agg #[.int .i64 1, .int .i64 200, .bool false]) else if k = 4 then some (3, .agg #[.int .i64 0, .int .i64 0, .bool true]) else none) := by
  by_cases h1 : k = 1
  · subst h1; rfl
  by_cases h2 : k = 2
  · subst h2; rfl
  by_cases h3 : k = 3
  · subst h3; rfl
  by_cases h4 : k = 4
  · subst h4; rfl
  rw [if_neg h1, if_neg h2, if_neg h3, if_neg h4]
  have sn : ∀ a : Int, Instr.sameNow (.int .i64) (.int .i64 k) (.int .i64 a) = some (k == a) := fun _ => rfl
  have e1 : (k == 1) = false := by simpa using h1
  have e2 : (k == 2) = false := by simpa using h2
  have e3 : (k == 3) = false := by simpa using h3
  have e4 : (k == 4) = false := by simpa using h4
  simp only [kindMap, Instr.findNow, sn, e1, e2, e3, e4]
theorem lookKind (w : World) (bm : Nat) (h : w.heap[bm]? = some (.map kindMap 4)) (k : Int) :
    (Instr.lookup 192 (.map (some bm)) (.int .i64 k) true).run Tryz.prog w = .ok (.tuple #[.agg #[.int .i64 (kindV k).1, .int .i64 (kindV k).2.1, .bool (kindV k).2.2.1], .bool (kindV k).2.2.2]) w := by
  have hf := findKind k
  have h1 : Tryz.prog.underlying 192 = some (.map 55 283) := Tryz.underlying192
  have h2 : Tryz.prog.underlying 55 = some (.int .i64) := Tryz.underlying55
  unfold kindV
  by_cases k1 : k = 1
  · subst k1; exact run_lookup192 w bm h 1 _ 0 rfl
  by_cases k2 : k = 2
  · subst k2; exact run_lookup192 w bm h 2 _ 1 rfl
  by_cases k3 : k = 3
  · subst k3; exact run_lookup192 w bm h 3 _ 2 rfl
  by_cases k4 : k = 4
  · subst k4; exact run_lookup192 w bm h 4 _ 3 rfl
  rw [if_neg k1, if_neg k2, if_neg k3, if_neg k4] at hf
  rw [if_neg (by omega), if_neg k3, if_neg k4]
  simp only [Instr.lookup, Sem.run_bind, run_underlying h1, MapKept.run_getObj_map h, Result.andThen_ok, MapKept.run_checkKey h2 (show MapKept.IsKey (.int .i64) (.int .i64 k) from rfl), MapKept.run_findKey h2 hf, Sem.run_pure, if_true]
  rfl
mutual
/-- Is a tree right, so deep down, but for how many nodes there are? -/
noncomputable def okP : PNode → Nat → Bool
  | .mk k b l, dep => decide (dep ≤ 8) && (kindV k).2.2.2 && decide ((kindV k).1 ≤ b.length) && decide (b.length ≤ (kindV k).2.1) && decide (l.length ≤ 200) && ((kindV k).2.2.1 || decide (l.length = 0)) && namedP l && okK l (dep + 1)
noncomputable def okK : List (ByteArray × PNode) → Nat → Bool
  | [], _ => true
  | (_, x) :: r, dep => okP x dep && okK r dep
end
noncomputable def rightB (x : PNode) (n dep : Nat) : Bool := okP x dep && decide (n + x.cnt ≤ 200)
theorem okK_iff : ∀ {l : PKids} {dep : Nat}, okK l dep = true ↔ ∀ k (h : k < l.length), okP l[k].2 dep = true
  | [], dep => by simp [okK]
  | (s, x) :: r, dep => by
    rw [okK, Bool.and_eq_true, okK_iff]
    constructor
    · rintro ⟨h1, h2⟩ k hk
      cases k with
      | zero => exact h1
      | succ k => exact h2 k (by simpa using hk)
    · intro h
      exact ⟨h 0 (by simp), fun k hk => h (k + 1) (by simpa using hk)⟩
theorem cntK_append : ∀ (l m : PKids), cntK (l ++ m) = cntK l + cntK m
  | [], m => by simp [cntK]
  | (s, x) :: r, m => by simp only [List.cons_append, cntK, cntK_append r m]; omega
theorem cntK_take {l : PKids} {k : Nat} (h : k < l.length) : cntK (l.take (k + 1)) = cntK (l.take k) + l[k].2.cnt := by
  rw [List.take_succ_eq_append_getElem h, cntK_append]
  simp [cntK]
theorem cntK_le {l : PKids} (k : Nat) : cntK (l.take k) ≤ cntK l := by
  have := cntK_append (l.take k) (l.drop k)
  rw [List.take_append_drop] at this
  omega
theorem right_iff {k : Int} {b : List UInt8} {l : PKids} {n dep lo hi : Nat} {kd q : Bool} (hV : (lo, hi, kd, q) = kindV k) :
    rightB (.mk k b l) n dep = true ↔ dep ≤ 8 ∧ q = true ∧ lo ≤ b.length ∧ b.length ≤ hi ∧ l.length ≤ 200 ∧ (kd = true ∨ l.length = 0) ∧ namedP l = true ∧ okK l (dep + 1) = true ∧ n + (1 + cntK l) ≤ 200 := by
  simp only [rightB, okP, PNode.cnt, ← hV, Bool.and_eq_true, Bool.or_eq_true, decide_eq_true_eq]
  constructor
  · rintro ⟨⟨⟨⟨⟨⟨⟨⟨h1, h2⟩, h3⟩, h4⟩, h5⟩, h6⟩, h7⟩, h8⟩, h9⟩
    exact ⟨h1, h2, h3, h4, h5, h6, h7, h8, of_decide_eq_true h9⟩
  · rintro ⟨h1, h2, h3, h4, h5, h6, h7, h8, h9⟩
    exact ⟨⟨⟨⟨⟨⟨⟨⟨h1, h2⟩, h3⟩, h4⟩, h5⟩, h6⟩, h7⟩, h8⟩, decide_eq_true h9⟩
theorem right_no {x : PNode} {n dep : Nat} (h : ¬ rightB x n dep = true) : Fact (rightB x n dep = false) := ⟨by simpa using h⟩
/-- What right answers at the tree x. -/
def RightAt (x : PNode) : Prop := ∀ (w : World) (lb bm n d dep : Nat) (A B : Option Addr) (c e : Nat) (G : Nat → Prop), Looker w lb bm n d → n ≤ 200 → d ≤ 9 → dep ≤ 9 → RepN w G x (.slice A x.bytes.length c) (.slice B x.kids.length e) → (∀ i, G i → i ≠ lb) →
  Calls Tryz.prog 119 #[.pointer (some ⟨lb, 0, none⟩), .agg #[.int .i64 x.kind, .slice A x.bytes.length c, .slice B x.kids.length e], .int .i64 dep] w
    fun e w' => e = .returned (.bool (rightB x n dep)) ∧ Keep (fun i => i ≠ lb) w w' ∧ (rightB x n dep = true → ∃ d', d' ≤ 9 ∧ Looker w' lb bm (n + x.cnt) d')
theorem rightAt : ∀ x, RightAt x := by
  refine PNode.ind' ?_
  intro k b l ih w lb bm n d dep A B c e G h hn hd hdep hrep hG
  obtain ⟨-, -, hbc, hcm, hme, hem, -, hat⟩ := hrep.open
  simp only [PNode.bytes, PNode.kids, PNode.kind] at *
  have H := Fact.mk h
  have HREP := Fact.mk hrep
  have HAT := Fact.mk hat
  have IH := Fact.mk ih
  have HG := Fact.mk hG
  have c1 := h.blk.cell 1 _ rfl
  have c2 := h.blk.cell 2 _ rfl
  have f1 := h.blk.free 1
  have f2 := h.blk.free 2
  have hl := h.blk.lt
  have hcm' : c ≤ 9223372036854775807 := by unfold maxLen at hcm; omega
  have hem' : e ≤ 9223372036854775807 := by unfold maxLen at hem; omega
  clear h hrep hat ih hG hcm hem
  go_enter Tryz.func119, Tryz.ntmps119
  go_upto_region 2 with (fail)
  go_cut [] (fun w' => ∃ d1, d1 ≤ 9 ∧ Looker w' lb bm (n + 1) d1 ∧ Blk w' w.heap.size [.int .i64 k, .slice A b.length c, .slice B l.length e] 58 ∧ Keep (fun i => i ≠ lb) w w')
  case first =>
    go_wp2
    go_meet
    case rel =>
      have hlw : lb ≠ w.heap.size := by omega
      have em : max (d : Int) dep = ((max d dep : Nat) : Int) := by omega
      have en : (n : Int) + 1 = ((n + 1 : Nat) : Int) := by omega
      rw [em, en]
      have hB := Blk.new ((w.setCell ⟨lb, 1, none⟩ (.int .i64 ((n + 1 : Nat) : Int))).setCell ⟨lb, 2, none⟩ (.int .i64 ((max d dep : Nat) : Int))) [.int .i64 k, .slice A b.length c, .slice B l.length e] 58
      rw [show ((w.setCell ⟨lb, 1, none⟩ (.int .i64 ((n + 1 : Nat) : Int))).setCell ⟨lb, 2, none⟩ (.int .i64 ((max d dep : Nat) : Int))).heap.size = w.heap.size from by simp [World.setCell]] at hB
      exact ⟨max d dep, by omega, (H.out.turn (n' := n + 1) (d' := max d dep)).alloc _, hB, (((Keep.refl _ w).setCell (p := ⟨lb, 1, none⟩) (.inr fun h => h rfl) _).setCell (p := ⟨lb, 2, none⟩) (.inr fun h => h rfl) _).alloc _⟩
  case rest =>
    obtain ⟨d1, hd1, h0, hb0, hk0⟩ := hcut
    obtain ⟨⟨lo, hi, kd, q⟩, hV⟩ : ∃ V, V = kindV k := ⟨_, rfl⟩
    have HV := Fact.mk hV
    have HL := Fact.mk h0
    have HB := Fact.mk hb0
    have HK := Fact.mk hk0
    have c0 := h0.blk.cell 0 _ rfl
    have d0 := hb0.cell 0 _ rfl
    have hmap := h0.map
    have hbm : bm < wc.heap.size := (Array.getElem?_eq_some_iff.1 hmap).1
    have hlk : ∀ w' : World, w'.heap[bm]? = some (.map kindMap 4) → (Instr.lookup 192 (.map (some bm)) (.int .i64 k) true).run Tryz.prog w' = .ok (.tuple #[.agg #[.int .i64 lo, .int .i64 hi, .bool kd], .bool q]) w' := fun w' h => by
      have := lookKind w' bm h k
      rw [← hV] at this
      exact this
    have hset : ∀ (o : Obj) (v : Value) (j : Nat), ((wc.drew.alloc o).setCell ⟨wc.heap.size, j, none⟩ v).heap[bm]? = some (.map kindMap 4) := fun o v j => (Below.heap_setCell _ _ _ _ (by show bm ≠ wc.heap.size; omega)).trans ((Below.heap_alloc _ _ _ hbm).trans hmap)
    have hall : ∀ (o : Obj), (wc.drew.alloc o).heap[bm]? = some (.map kindMap 4) := fun o => (Below.heap_alloc _ _ _ hbm).trans hmap
    have hdrew : wc.drew.heap[bm]? = some (.map kindMap 4) := hmap
    clear h0 hb0 hk0 hV H
    go_upto_region 3 with (fail)
    go_region_held3 (fun w' => w'.cell? ⟨lb, 0, none⟩ = some (.map (some bm)) ∧ w'.cell? ⟨w.heap.size, 0, none⟩ = some (.int .i64 k) ∧ w'.heap[bm]? = some (.map kindMap 4)) (exact ⟨by go_keep, by go_keep, by first | exact hdrew | exact hall _ | exact hset _ _ _⟩) (fail)
    all_goals
      obtain ⟨w1, hw1⟩ : ∃ W, W = (wc.alloc (.cells #[.int .i64 lo, .int .i64 hi, .bool kd] 283)).drew := ⟨_, rfl⟩
      rw [← hw1]
      obtain ⟨h0, hb0, hb1, hk0⟩ : Looker w1 lb bm (n + 1) d1 ∧ Blk w1 w.heap.size [.int .i64 k, .slice A b.length c, .slice B l.length e] 58 ∧ Blk w1 wc.heap.size [.int .i64 lo, .int .i64 hi, .bool kd] 283 ∧ Keep (fun i => i ≠ lb) w w1 := by
        subst hw1
        exact ⟨(HL.out.alloc _).drew, (HB.out.alloc _).drew, (Blk.new wc [.int .i64 lo, .int .i64 hi, .bool kd] 283).drew, (HK.out.alloc _).drew⟩
      clear hw1
      have H1 := Fact.mk h0
      have K1 := Fact.mk hk0
      clear hlk hset hall hdrew hmap c0 d0
      have c1 := h0.blk.cell 1 _ rfl
      have d0 := hb0.cell 0 _ rfl
      have d1' := hb0.cell 1 _ rfl
      have d2 := hb0.cell 2 _ rfl
      have e0 := hb1.cell 0 _ rfl
      have e1 := hb1.cell 1 _ rfl
      have e2 := hb1.cell 2 _ rfl
      clear h0 hb0 hb1 hk0
      cases q with
      | false =>
        have HN := right_no (x := .mk k b l) (n := n) (dep := dep) fun h => by have := ((right_iff HV.out).1 h).2.1; cases this
        go_wp2
        go_ret
        exact ⟨by rw [HN.out]; rfl, K1.out, fun h => by rw [HN.out] at h; cases h⟩
      | true =>
        by_cases g3 : (200 : Int) < ((n + 1 : Nat) : Int)
        · have HN := right_no (x := .mk k b l) (n := n) (dep := dep) fun h => by have := (right_iff HV.out).1 h; omega
          go_wp2
          go_ret
          exact ⟨by rw [HN.out]; rfl, K1.out, fun h => by rw [HN.out] at h; cases h⟩
        by_cases g4 : (8 : Int) < dep
        · have HN := right_no (x := .mk k b l) (n := n) (dep := dep) fun h => by have := (right_iff HV.out).1 h; omega
          go_wp2
          go_ret
          exact ⟨by rw [HN.out]; rfl, K1.out, fun h => by rw [HN.out] at h; cases h⟩
        by_cases g1 : (b.length : Int) < lo
        · have HN := right_no (x := .mk k b l) (n := n) (dep := dep) fun h => by have := (right_iff HV.out).1 h; omega
          go_wp2
          go_ret
          exact ⟨by rw [HN.out]; rfl, K1.out, fun h => by rw [HN.out] at h; cases h⟩
        by_cases g2 : (hi : Int) < b.length
        · have HN := right_no (x := .mk k b l) (n := n) (dep := dep) fun h => by have := (right_iff HV.out).1 h; omega
          go_wp2
          go_ret
          exact ⟨by rw [HN.out]; rfl, K1.out, fun h => by rw [HN.out] at h; cases h⟩
        by_cases g5 : (200 : Int) < l.length
        · have HN := right_no (x := .mk k b l) (n := n) (dep := dep) fun h => by have := (right_iff HV.out).1 h; omega
          go_wp2
          go_ret
          exact ⟨by rw [HN.out]; rfl, K1.out, fun h => by rw [HN.out] at h; cases h⟩
        by_cases g6 : kd = false ∧ 0 < l.length
        · have HN := right_no (x := .mk k b l) (n := n) (dep := dep) fun h => by
            have := ((right_iff HV.out).1 h).2.2.2.2.2.1
            rcases this with h | h
            · rw [h] at g6; cases g6.1
            · omega
          obtain ⟨rfl, g7⟩ := g6
          have g8 : (0 : Int) < l.length := by omega
          go_wp2
          go_ret
          exact ⟨by rw [HN.out]; rfl, K1.out, fun h => by rw [HN.out] at h; cases h⟩
        have g7 : kd = true ∨ (kd = false ∧ ¬ 0 < l.length) := by
          cases kd
          · exact .inr ⟨rfl, fun h => g6 ⟨rfl, h⟩⟩
          · exact .inl rfl
        have HOK : Fact (namedP l = true → okK l (dep + 1) = true → n + (1 + cntK l) ≤ 200 → rightB (.mk k b l) n dep = true) := ⟨fun h1 h2 h3 => (right_iff HV.out).2 ⟨by omega, rfl, by omega, by omega, by omega, by rcases g7 with h | h; exact .inl h; exact .inr (by omega), h1, h2, h3⟩⟩
        have HNO : Fact (¬ (namedP l = true ∧ okK l (dep + 1) = true ∧ n + (1 + cntK l) ≤ 200) → rightB (.mk k b l) n dep = false) := ⟨fun h => (right_no fun h2 => h ⟨((right_iff HV.out).1 h2).2.2.2.2.2.2.1, ((right_iff HV.out).1 h2).2.2.2.2.2.2.2.1, ((right_iff HV.out).1 h2).2.2.2.2.2.2.2.2⟩).out⟩
        have HR1 := Fact.mk (HREP.out.keep (K1.out.mono fun i hi => HG.out i hi))
        obtain ⟨z, hz⟩ : ∃ z, z = namedP l := ⟨_, rfl⟩
        have HZ := Fact.mk hz
        have HNM : Fact (∀ w' A c G, RepN w' G (.mk k b l) (.slice A b.length c) (.slice B l.length e) → Calls Tryz.prog 179 #[.slice B l.length e] w' fun e w2 => e = .returned (.bool z) ∧ Keep All w' w2) := ⟨fun w' A c G h => hz ▸ named179 w' G (.mk k b l) A B _ c _ e h⟩
        clear hz g6 HV
        rcases g7 with rfl | ⟨rfl, g8⟩
        all_goals
          cases z with
          | false =>
            have HN : Fact (rightB (.mk k b l) n dep = false) := ⟨HNO.out fun h => by rw [← HZ.out] at h; cases h.1⟩
            go_wp2_with (go_at_call 179; go_must (refine (HNM.out _ _ _ _ HR1.out).mono ?_); rintro e w2 ⟨rfl, hk2⟩; have K2 := Fact.mk (K1.out.trans hk2.all); clear hk2)
            go_ret
            exact ⟨by rw [HN.out]; rfl, K2.out, fun h => by rw [HN.out] at h; cases h⟩
          | true =>
            go_upto_region 13 with (go_at_call 179; go_must (refine (HNM.out _ _ _ _ HR1.out).mono ?_); rintro e w2 ⟨rfl, hk2⟩; have K2 := Fact.mk (K1.out.trans hk2.all); have H2 := Fact.mk (H1.out.keep hk2 trivial trivial); have d2' := hk2.cell (p := ⟨w.heap.size, 2, none⟩) trivial d2; clear hk2 d2 c1 d0 d1' e0 e1 e2)
            try clear g8
            go_wp2
            go_loopg [81] l.length (fun g i w' => ∃ j, j + g = l.length ∧ i = .int .i64 j ∧ (∃ d2, d2 ≤ 9 ∧ Looker w' lb bm (n + 1 + cntK (l.take j)) d2) ∧ n + 1 + cntK (l.take j) ≤ 200 ∧ Keep (fun i => i ≠ lb) w w' ∧ ∀ i (h : i < l.length), i < j → okP l[i].2 (dep + 1) = true)
            case atStart => exact ⟨0, by omega, rfl, ⟨d1, hd1, by simpa [cntK] using H2.out⟩, by simp [cntK]; omega, K2.out, fun i h hi => absurd hi (by omega)⟩
            case round =>
              obtain ⟨j, hj, rfl, ⟨d2, hd2, hlk⟩, hcnt, hkp, hall⟩ := hrel
              have HJ := Fact.mk hj
              have HLK := Fact.mk hlk
              have HKP := Fact.mk hkp
              have HALL := Fact.mk hall
              have HCNT := Fact.mk hcnt
              clear hj hlk hkp hall hcnt
              by_cases hlt : j < l.length
              · obtain ⟨g, off, vb, vk, rfl, hg, c0, c1, c2, c3, hrep⟩ := HAT.out j hlt
                obtain ⟨A1, n1, B1, m1, rfl, rfl⟩ := hrep.forms
                have hgl := HG.out g hg
                have x0 := HKP.out.cell (p := ⟨g, off + j * 4, none⟩) hgl c0
                have x1 := HKP.out.cell (p := ⟨g, off + j * 4 + 1, none⟩) hgl c1
                have x2 := HKP.out.cell (p := ⟨g, off + j * 4 + 2, none⟩) hgl c2
                have x3 := HKP.out.cell (p := ⟨g, off + j * 4 + 3, none⟩) hgl c3
                have HRJ := Fact.mk (hrep.keep (HKP.out.mono fun i hi => HG.out i hi))
                obtain ⟨z2, hz2⟩ : ∃ z, z = rightB l[j].2 (n + 1 + cntK (l.take j)) (dep + 1) := ⟨_, rfl⟩
                have HC : Fact (∀ w' : World, Looker w' lb bm (n + 1 + cntK (l.take j)) d2 → RepN w' G l[j].2 (.slice A1 l[j].2.bytes.length n1) (.slice B1 l[j].2.kids.length m1) → Calls Tryz.prog 119 #[.pointer (some ⟨lb, 0, none⟩), .agg #[.int .i64 l[j].2.kind, .slice A1 l[j].2.bytes.length n1, .slice B1 l[j].2.kids.length m1], .int .i64 ((dep : Int) + 1)] w'
                    fun e w'' => e = .returned (.bool z2) ∧ Keep (fun i => i ≠ lb) w' w'' ∧ (z2 = true → ∃ d', d' ≤ 9 ∧ Looker w'' lb bm (n + 1 + cntK (l.take j) + l[j].2.cnt) d')) := ⟨fun w' h1 h2 => by
                  have := IH.out l[j] (List.getElem_mem hlt) w' lb bm _ d2 (dep + 1) A1 B1 n1 m1 G h1 HCNT.out hd2 (by omega) h2 HG.out
                  rw [← hz2] at this
                  exact this⟩
                have HZ2 := Fact.mk hz2
                clear hz2 hrep hg c0 c1 c2 c3
                cases z2 with
                | false =>
                  have HN : Fact (rightB (.mk k b l) n dep = false) := ⟨HNO.out fun h => by
                    have h1 := okK_iff.1 h.2.1 j hlt
                    have h2 : cntK (l.take j) + l[j].2.cnt ≤ cntK l := by rw [← cntK_take hlt]; exact cntK_le _
                    have h3 := HZ2.out
                    rw [rightB, h1, Bool.true_and] at h3
                    have := of_decide_eq_false h3.symm
                    omega⟩
                  go_wp2_with (go_at_call 119; go_must (refine (HC.out _ (HLK.out.alloc _) (HRJ.out.keep ((Keep.refl _ _).alloc _))).mono ?_); rintro e w3 ⟨rfl, hk3, -⟩; have K3 := Fact.mk ((HKP.out.alloc _).trans hk3); clear hk3)
                  go_ret
                  exact ⟨by rw [HN.out]; rfl, K3.out, fun h => by rw [HN.out] at h; cases h⟩
                | true =>
                  go_wp2_with (go_at_call 119; go_must (refine (HC.out _ (HLK.out.alloc _) (HRJ.out.keep ((Keep.refl _ _).alloc _))).mono ?_); rintro e w3 ⟨rfl, hk3, h3⟩; have K3 := Fact.mk ((HKP.out.alloc _).trans hk3); have L3 := Fact.mk (h3 rfl); clear hk3 h3)
                  go_roundg (gk - 1)
                  case measure => have := HJ.out; omega
                  case rel =>
                    have hz := HZ2.out
                    rw [rightB] at hz
                    have hz' := Bool.and_eq_true_iff.1 hz.symm
                    have hle := of_decide_eq_true hz'.2
                    obtain ⟨d3, hd3, h3⟩ := L3.out
                    refine ⟨j + 1, by have := HJ.out; omega, by go_num, ⟨d3, hd3, ?_⟩, ?_, K3.out, fun i h hi => ?_⟩
                    · rw [cntK_take hlt, ← Nat.add_assoc]; exact h3
                    · rw [cntK_take hlt]; omega
                    · by_cases hij : i = j
                      · subst hij; exact hz'.1
                      · exact HALL.out i h (by omega)
              · have hjl : j = l.length := by have := HJ.out; omega
                have HY : Fact (rightB (.mk k b l) n dep = true) := ⟨HOK.out HZ.out.symm (okK_iff.2 fun i h => HALL.out i h (by omega)) (by have := HCNT.out; rw [hjl, List.take_length] at this; omega)⟩
                have HL2 : Fact (∃ d', d' ≤ 9 ∧ Looker wr lb bm (n + (1 + cntK l)) d') := ⟨d2, hd2, by have := HLK.out; rw [hjl, List.take_length] at this; rw [← Nat.add_assoc]; exact this⟩
                go_wp2
                go_ret
                exact ⟨by rw [HY.out]; rfl, HKP.out, fun _ => HL2.out⟩
end Go.Proofs.YtddmbdigdnmfgaaGreatDoor

/- tree.Right at any tree. -/
namespace Go.Proofs.YtddmbdigdnmfgaaGreatDoor
open Go.RowKit
set_option maxHeartbeats 400000
set_option maxRecDepth 100000

/-- Is a tree right? -/
noncomputable def rightP (x : PNode) : Bool := rightB x 0 1
/-- A tree as a value. -/
def NodeV (w : World) (G : Nat → Prop) (x : PNode) (v : Value) : Prop := ∃ A c B d, v = .agg #[.int .i64 x.kind, .slice A x.bytes.length c, .slice B x.kids.length d] ∧ RepN w G x (.slice A x.bytes.length c) (.slice B x.kids.length d)
theorem looked67g (w : World) (G : Nat → Prop) (x : PNode) (v : Value) (h : NodeV w G x v) :
    Calls Tryz.prog 67 #[v] w
      fun e w' => ∃ lb bm, e = .returned (.tuple #[.pointer (some ⟨lb, 0, none⟩), .bool (rightP x)]) ∧ w.heap.size ≤ lb ∧ Keep All w w' ∧ (rightP x = true → ∃ d', Looker w' lb bm x.cnt d') := by
  obtain ⟨A, c, B, d, rfl, hrep⟩ := h
  have H := Fact.mk (hrep.mono (H := fun i => i < w.heap.size) fun i hi _ => hi)
  obtain ⟨q, hq⟩ : ∃ q, q = rightP x := ⟨_, rfl⟩
  have HC : Fact (∀ (w' : World) (lb bm : Nat), Looker w' lb bm 0 0 → RepN w' (fun i => i < w.heap.size) x (.slice A x.bytes.length c) (.slice B x.kids.length d) → w.heap.size ≤ lb → Calls Tryz.prog 119 #[.pointer (some ⟨lb, 0, none⟩), .agg #[.int .i64 x.kind, .slice A x.bytes.length c, .slice B x.kids.length d], .int .i64 1] w'
      fun e w'' => e = .returned (.bool q) ∧ Keep (fun i => i ≠ lb) w' w'' ∧ (q = true → ∃ d', d' ≤ 9 ∧ Looker w'' lb bm (0 + x.cnt) d')) := ⟨fun w' lb bm h1 h2 h3 => by
    have := rightAt x w' lb bm 0 0 1 A B c d _ h1 (by decide) (by decide) (by decide) h2 (fun i hi => by omega)
    rw [show rightB x 0 1 = q from hq.symm] at this
    exact this⟩
  have HQ := Fact.mk hq
  clear hrep hq
  go_enter Tryz.func67, Tryz.ntmps67
  go_wp2_with (first
    | (go_at_call 118; go_must (refine (kinds118 _).mono ?_); rintro e w1 ⟨rfl, rfl⟩)
    | (go_at_call 119; go_must (refine (HC.out _ (w.heap.size + 1 + 1 + 1) (w.heap.size + 1 + 1) (looker_new _ _ _ (by simp) (by simp)) (H.out.keep (((((Keep.refl _ w).alloc _).alloc _).alloc _).alloc _)) (by omega)).mono ?_); rintro e w2 ⟨rfl, hk2, h2⟩; have H2 := Fact.mk h2; have K2 := Fact.mk hk2; clear h2 hk2))
  go_ret2
  refine ⟨w.heap.size + 1 + 1 + 1, w.heap.size + 1 + 1, by rw [← HQ.out]; rfl, by omega, (((((Keep.refl All w).alloc _).alloc _).alloc _).alloc _).then_ K2.out (fun i hi _ => ?_), fun h => ?_⟩
  · show i ≠ _
    omega
  · obtain ⟨d', -, h2⟩ := H2.out (by rw [HQ.out]; exact h)
    exact ⟨d', by simpa using h2⟩
theorem right29g (w : World) (G : Nat → Prop) (x : PNode) (v : Value) (h : NodeV w G x v) :
    Calls Tryz.prog 29 #[v] w fun e w' => e = .returned (.bool (rightP x)) ∧ Keep All w w' := by
  have hv := h
  obtain ⟨A, c, B, d, rfl, hrep⟩ := hv
  obtain ⟨q, hq⟩ : ∃ q, q = rightP x := ⟨_, rfl⟩
  have HC : Fact (∀ (w' : World), Keep All w w' → Calls Tryz.prog 67 #[.agg #[.int .i64 x.kind, .slice A x.bytes.length c, .slice B x.kids.length d]] w'
      fun e w'' => ∃ lb, e = .returned (.tuple #[.pointer (some ⟨lb, 0, none⟩), .bool q]) ∧ Keep All w' w'') := ⟨fun w' k => by
    refine (looked67g w' G x _ ⟨A, c, B, d, rfl, hrep.keep k.all⟩).mono ?_
    rintro e w2 ⟨lb, bm, rfl, -, hk, -⟩
    exact ⟨lb, by rw [hq], hk⟩⟩
  have HQ := Fact.mk hq
  clear hrep hq h
  go_enter Tryz.func29, Tryz.ntmps29
  go_wp2_with (first
    | (go_at_call 67; go_must (refine (HC.out _ ((Keep.refl _ w).alloc _)).mono ?_); rintro e w1 ⟨lb, rfl, hk⟩; have K1 := Fact.mk (((Keep.refl _ w).alloc _).trans hk); clear hk))
  go_ret
  exact ⟨by rw [← HQ.out]; rfl, K1.out⟩
end Go.Proofs.YtddmbdigdnmfgaaGreatDoor

/- The kit's NodeOf at any tree: how much there is of it, as far as it counts. -/
namespace Go.Proofs.YtddmbdigdnmfgaaGreatDoor
open Go.RowKit
set_option maxHeartbeats 800000
set_option maxRecDepth 100000

mutual
/-- How much there is of a tree: stops behind what goes past most. -/
def manyP : PNode → Int → Int
  | .mk _ b l, most => manyK l most (1 + b.length)
def manyK : List (ByteArray × PNode) → Int → Int → Int
  | [], _, out => out
  | (s, x) :: r, most, out => if out ≤ most then manyK r most (out + s.size + manyP x (most - out)) else out
end
mutual
/-- No text, no bytes are longer than M. -/
def LessN (M : Nat) : PNode → Prop
  | .mk _ b l => b.length ≤ M ∧ LessK M l
def LessK (M : Nat) : List (ByteArray × PNode) → Prop
  | [] => True
  | (s, x) :: r => s.size ≤ M ∧ LessN M x ∧ LessK M r
end
/-- How much NodeOf tells, at most. -/
def manyF (M : Nat) : Nat → Nat
  | 0 => 1 + M
  | k + 1 => k + M + (1 + M) + manyF M k
theorem manyK_past : ∀ {l : PKids} {most out : Int}, most < out → manyK l most out = out
  | [], _, _, _ => by rw [manyK]
  | (s, x) :: r, most, out, h => by rw [manyK, if_neg (by omega)]
mutual
theorem manyP_pos : ∀ (x : PNode) (most : Int), 1 ≤ manyP x most
  | .mk _ b l, most => by rw [manyP]; exact Int.le_trans (by omega) (manyK_ge l most _)
theorem manyK_ge : ∀ (l : List (ByteArray × PNode)) (most out : Int), out ≤ manyK l most out
  | [], _, out => by rw [manyK]; exact Int.le_refl _
  | (s, x) :: r, most, out => by
    rw [manyK]
    split
    · have h1 := manyP_pos x (most - out)
      have h2 := manyK_ge r most (out + s.size + manyP x (most - out))
      omega
    · exact Int.le_refl _
end
mutual
theorem manyP_le {M : Nat} : ∀ (x : PNode) (k : Nat) (most : Int), most < k → LessN M x → manyP x most ≤ manyF M k
  | .mk _ b l, k, most, h, hx => by
    rw [LessN] at hx
    rw [manyP]
    refine manyK_le l k most _ h (by omega) ?_ hx.2
    cases k with
    | zero => simp only [manyF]; omega
    | succ k => simp only [manyF]; omega
theorem manyK_le {M : Nat} : ∀ (l : List (ByteArray × PNode)) (k : Nat) (most out : Int), most < k → 1 ≤ out → out ≤ manyF M k → LessK M l → manyK l most out ≤ manyF M k
  | [], _, _, _, _, _, ho, _ => by rw [manyK]; exact ho
  | (s, x) :: r, k, most, out, h, h1, ho, hl => by
    rw [LessK] at hl
    rw [manyK]
    split
    · rename_i hle
      cases k with
      | zero => omega
      | succ k =>
        have h2 := manyP_le x k (most - out) (by omega) hl.2.1
        have h3 := manyP_pos x (most - out)
        refine manyK_le r (k + 1) most _ h (by omega) ?_ hl.2.2
        simp only [manyF]
        omega
    · exact ho
end
def big : Nat := 140737488351232
theorem manyF_le : ∀ k, manyF big k ≤ k * (k + 2 * big + 1) + 1 + big
  | 0 => by simp [manyF]
  | k + 1 => by
    have := manyF_le k
    simp only [manyF]
    have e : (k + 1) * (k + 1 + 2 * big + 1) = k * (k + 2 * big + 1) + k + (k + 1 + 2 * big + 1) := by
      rw [Nat.add_mul, Nat.one_mul, show k + 1 + 2 * big + 1 = (k + 2 * big + 1) + 1 by omega, Nat.mul_add]; omega
    omega
theorem manyF_small {k : Nat} (h : k ≤ 2001) : manyF big k ≤ 600000000000000000 := by
  have h1 := manyF_le k
  have h2 : k * (k + 2 * big + 1) ≤ 2001 * (2001 + 2 * big + 1) := Nat.mul_le_mul h (by omega)
  have h3 : 2001 * (2001 + 2 * big + 1) + 1 + big ≤ 600000000000000000 := by decide
  omega
theorem manyK_drop {l : PKids} {most out : Int} {j : Nat} (hj : j < l.length) (h : out ≤ most) : manyK (l.drop j) most out = manyK (l.drop (j + 1)) most (out + l[j].1.size + manyP l[j].2 (most - out)) := by
  rw [List.drop_eq_getElem_cons hj]
  rw [show l[j] = (l[j].1, l[j].2) from rfl, manyK, if_pos h]
theorem LessK.get {M : Nat} : ∀ {l : PKids}, LessK M l → ∀ j (h : j < l.length), l[j].1.size ≤ M ∧ LessN M l[j].2
  | (s, x) :: r, h, 0, _ => by rw [LessK] at h; exact ⟨h.1, h.2.1⟩
  | (s, x) :: r, h, j + 1, hj => by rw [LessK] at h; exact LessK.get h.2.2 j (by simpa using hj)
def ManyAt (x : PNode) : Prop := ∀ (w : World) (G : Nat → Prop) (v : Value) (k : Nat) (most : Int), NodeV w G x v → LessN big x → most < k → k ≤ 2001 → 0 ≤ most → Calls Tryz.prog 62 #[v, .int .i64 most] w fun e w' => e = .returned (.int .i64 (manyP x most)) ∧ Keep All w w'
theorem manyAt : ∀ x, ManyAt x := by
  refine PNode.ind' ?_
  rintro k b l ih w G v n most ⟨A, c, B, d, rfl, hrep⟩ hless hmk hk2 hm0
  simp only [PNode.kind, PNode.bytes, PNode.kids] at *
  rw [LessN] at hless
  obtain ⟨-, -, hbc, hcm, hme, hem, -, hat⟩ := hrep.open
  simp only [PNode.kids] at hat
  have HAT := Fact.mk hat
  have IH := Fact.mk ih
  have HLESS := Fact.mk hless
  have hF := manyF_small hk2
  obtain ⟨F, hFF⟩ : ∃ F, F = manyF big n := ⟨_, rfl⟩
  have hbl : b.length ≤ 140737488351232 := hless.1
  have hll : l.length ≤ 9223372036854775807 := by unfold maxLen at hem; omega
  have HFF := Fact.mk hFF
  rw [← hFF] at hF
  have HMP : Fact (manyP (.mk k b l) most = manyK l most (1 + b.length)) := ⟨by rw [manyP]⟩
  have HF1 : Fact ((1 : Int) + b.length ≤ F) := ⟨by rw [hFF]; cases n <;> (simp only [manyF, big] at *; omega)⟩
  obtain ⟨W, hW⟩ : ∃ X, X = w.alloc (.cells #[.int .i64 k, .slice A b.length c, .slice B l.length d] 58) := ⟨_, rfl⟩
  have HB : Fact (Blk W w.heap.size [.int .i64 k, .slice A b.length c, .slice B l.length d] 58) := ⟨hW ▸ Blk.new w _ 58⟩
  have HKW : Fact (Keep All w W) := ⟨hW ▸ (Keep.refl _ _).alloc _⟩
  have HW := Fact.mk hW
  clear hrep hless hat ih hcm hem hFF hW
  go_enter Tryz.func62, Tryz.ntmps62
  go_upto_block 0 with (fail)
  rw [← HW.out]
  clear HW
  go_cut [5] (fun x w' => x = .int .i64 (manyP (.mk k b l) most) ∧ Keep All w w')
  case first =>
    go_wp2
    go_loopg [5, 6] l.length (fun g o i w' => ∃ (j : Nat) (out : Int), j + g = l.length ∧ i = .int .i64 j ∧ o = .int .i64 out ∧ manyK (l.drop j) most out = manyP (.mk k b l) most ∧ 1 ≤ out ∧ out ≤ F ∧ Keep All W w')
    case atStart => exact ⟨0, _, by omega, rfl, rfl, by rw [HMP.out]; rfl, by omega, HF1.out, Keep.refl _ _⟩
    case round =>
      obtain ⟨j, out, hj, rfl, rfl, hmany, h1, h2, hkp⟩ := hrel
      have HJ := Fact.mk hj
      have HM := Fact.mk hmany
      have HKP := Fact.mk hkp
      have x2 := HKP.out.cell (p := ⟨w.heap.size, 2, none⟩) trivial (HB.out.cell 2 _ rfl)
      clear hj hmany hkp
      by_cases hlt : j < l.length
      · by_cases hle : out ≤ most
        · obtain ⟨g, off, vb, vk, rfl, hg, a0, a1, a2, a3, hr1⟩ := HAT.out j hlt
          obtain ⟨P1, n1, Q1, m1, rfl, rfl⟩ := hr1.forms
          have kk : ∀ p v, w.cell? p = some v → ∀ q : Kept wr, q.tw.cell? p = some v := fun p v h q => kept_cell ((HKW.out.trans HKP.out).cell trivial h) q
          have e0 := kk _ _ a0
          have e1 := kk _ _ a1
          have e2 := kk _ _ a2
          have e3 := kk _ _ a3
          have y2 := fun q : Kept wr => kept_cell x2 q
          obtain ⟨z, hz⟩ : ∃ z, z = manyP l[j].2 (most - out) := ⟨_, rfl⟩
          obtain ⟨hs1, hs2⟩ := LessK.get HLESS.out.2 j hlt
          have hz1 : 1 ≤ z := hz ▸ manyP_pos _ _
          obtain ⟨n', rfl⟩ : ∃ n', n = n' + 1 := ⟨n - 1, by omega⟩
          have hz2 : z ≤ manyF big n' := hz ▸ manyP_le _ n' _ (by omega) hs2
          have hFF' : F = n' + big + (1 + big) + manyF big n' := HFF.out
          have hsb : l[j].1.size ≤ 140737488351232 := hs1
          have hsum : out + (l[j].1.size : Int) + z ≤ F := by rw [hFF']; simp only [big] at *; omega
          have HC : Fact (∀ w', Keep All wr w' → Calls Tryz.prog 62 #[.agg #[.int .i64 l[j].2.kind, .slice P1 l[j].2.bytes.length n1, .slice Q1 l[j].2.kids.length m1], .int .i64 (most - out)] w' fun e w2 => e = .returned (.int .i64 z) ∧ Keep All w' w2) := ⟨fun w' kp => by
            rw [hz]
            exact IH.out _ (List.getElem_mem hlt) w' G _ n' _ ⟨P1, n1, Q1, m1, rfl, hr1.keep ((HKW.out.trans HKP.out).trans kp).all⟩ hs2 (by omega) (by omega) (by omega)⟩
          have HZ := Fact.mk hz
          have hz3 : z ≤ 600000000000000000 := by omega
          have ho3 : out ≤ 600000000000000000 := by omega
          have ht3 : out + (l[j].1.size : Int) + z ≤ 600000000000000000 := by omega
          have hm3 : most ≤ 2001 := by omega
          clear hz hr1 a0 a1 a2 a3 hg kk hs2 hz2 hFF' hs1
          go_upto_region 5 with (fail)
          refine wp_region_kept (by kernel_rfl) (by kernel_rfl) ?_
          repeat (go_big_quiet_step ((go_at_call 62; exact kept_call (HC.out _ (Kept.keep _)))))
          refine wpQuiet_nil ?_
          intro _ hw'
          obtain ⟨⟨wq, hq⟩, hw''⟩ := hw'
          subst hw''
          have KQ := Fact.mk (HKP.out.trans hq)
          clear hq e0 e1 e2 e3 y2 x2
          go_wp2
          go_roundg (gk - 1)
          case measure => have := HJ.out; omega
          case rel => exact ⟨j + 1, _, by have := HJ.out; omega, by go_num, rfl, by rw [← HM.out, manyK_drop hlt hle, ← HZ.out], by omega, hsum, KQ.out⟩
        · have HE : Fact (manyP (.mk k b l) most = out) := ⟨by rw [← HM.out, manyK_past (by omega)]⟩
          go_wp2
          go_meet
          case rel => exact ⟨by rw [HE.out], HKW.out.trans HKP.out⟩
      · have HE : Fact (manyP (.mk k b l) most = out) := ⟨by rw [← HM.out, List.drop_eq_nil_of_le (by omega), manyK]⟩
        go_wp2
        go_meet
        case rel => exact ⟨by rw [HE.out], HKW.out.trans HKP.out⟩
  case rest =>
    obtain ⟨rfl, hkp⟩ := hcut
    have HKP := Fact.mk hkp
    clear hkp
    go_wp2
    go_ret
    exact ⟨rfl, HKP.out⟩
end Go.Proofs.YtddmbdigdnmfgaaGreatDoor

/- The kit's SameNode at any two trees. -/
namespace Go.Proofs.YtddmbdigdnmfgaaGreatDoor
open Go.RowKit
set_option maxHeartbeats 800000
set_option maxRecDepth 100000

theorem text_ne {s t : ByteArray} (h : ¬ s = t) : (s.toList == t.toList) = false := by
  rw [beq_eq_false_iff_ne, Go.ByteArray.toList_eq, Go.ByteArray.toList_eq]
  intro e
  apply h
  obtain ⟨⟨a⟩⟩ := s
  obtain ⟨⟨b⟩⟩ := t
  simp at e
  rw [e]
open Classical in
noncomputable def sameP (x y : PNode) : Bool := decide (x = y)
open Classical in
noncomputable def sameK (l m : PKids) : Bool := decide (l = m)
def SameAt (x : PNode) : Prop := ∀ (y : PNode) (w : World) (G1 G2 : Nat → Prop) (v1 v2 : Value), NodeV w G1 x v1 → NodeV w G2 y v2 → Calls Tryz.prog 28 #[v1, v2] w fun e w' => e = .returned (.bool (sameP x y)) ∧ Keep All w w'
theorem sameKid117 (s t : ByteArray) (x y : PNode) (hx : SameAt x) (w : World) (G1 G2 : Nat → Prop) (A1 B1 A2 B2 : Option Addr) (c1 d1 c2 d2 : Nat)
    (h1 : RepN w G1 x (.slice A1 x.bytes.length c1) (.slice B1 x.kids.length d1)) (h2 : RepN w G2 y (.slice A2 y.bytes.length c2) (.slice B2 y.kids.length d2)) :
    Calls Tryz.prog 117 #[.agg #[.string s, .int .i64 x.kind, .slice A1 x.bytes.length c1, .slice B1 x.kids.length d1], .agg #[.string t, .int .i64 y.kind, .slice A2 y.bytes.length c2, .slice B2 y.kids.length d2]] w
      fun e w' => e = .returned (.bool (decide (s = t) && sameP x y)) ∧ Keep All w w' := by
  have H1 := Fact.mk h1
  have H2 := Fact.mk h2
  obtain ⟨q, hq⟩ : ∃ q, q = sameP x y := ⟨_, rfl⟩
  have HC : Fact (∀ w', Keep All w w' → Calls Tryz.prog 28 #[.agg #[.int .i64 x.kind, .slice A1 x.bytes.length c1, .slice B1 x.kids.length d1], .agg #[.int .i64 y.kind, .slice A2 y.bytes.length c2, .slice B2 y.kids.length d2]] w' fun e w2 => e = .returned (.bool q) ∧ Keep All w' w2) := ⟨fun w' k => by
    rw [hq]
    exact hx y w' G1 G2 _ _ ⟨A1, c1, B1, d1, rfl, h1.keep k.all⟩ ⟨A2, c2, B2, d2, rfl, h2.keep k.all⟩⟩
  rw [← hq]
  clear h1 h2 hq H1 H2 hx
  by_cases hst : s = t
  · subst hst
    go_enter Tryz.func117, Tryz.ntmps117
    go_wp2_with (go_at_call 28; go_must (refine (HC.out _ (((Keep.refl _ w).alloc _).alloc _)).mono ?_); rintro e w2 ⟨rfl, hk⟩; have K := Fact.mk ((((Keep.refl _ w).alloc _).alloc _).trans hk); clear hk)
    go_ret
    exact ⟨by simp, K.out⟩
  · have hne := text_ne hst
    go_enter Tryz.func117, Tryz.ntmps117
    go_wp2
    go_ret
    exact ⟨by simp [hst], ((Keep.refl _ w).alloc _).alloc _⟩
theorem sameK_nil : sameK [] [] = true := by simp [sameK]
/-- Kids, one by one. -/
theorem sameKids66 (x y : PNode) (hx : ∀ z ∈ x.kids, SameAt z.2) (w : World) (G1 G2 : Nat → Prop) (A1 B1 A2 B2 : Option Addr) (c1 d1 c2 d2 n1 n2 : Nat)
    (h1 : RepN w G1 x (.slice A1 n1 c1) (.slice B1 x.kids.length d1)) (h2 : RepN w G2 y (.slice A2 n2 c2) (.slice B2 y.kids.length d2)) :
    Calls Tryz.prog 66 #[.slice B1 x.kids.length d1, .slice B2 y.kids.length d2] w fun e w' => e = .returned (.bool (sameK x.kids y.kids)) ∧ Keep All w w' := by
  obtain ⟨-, -, -, -, hmd1, hd1, -, hat1⟩ := h1.open
  obtain ⟨-, -, -, -, hmd2, hd2, -, hat2⟩ := h2.open
  have HAT1 := Fact.mk hat1
  have HAT2 := Fact.mk hat2
  have HX := Fact.mk hx
  have hb1 : x.kids.length ≤ 9223372036854775807 := by unfold maxLen at hd1; omega
  have hb2 : y.kids.length ≤ 9223372036854775807 := by unfold maxLen at hd2; omega
  clear h1 h2 hat1 hat2 hx hd1 hd2
  by_cases hne : x.kids.length = y.kids.length
  · have HNE := Fact.mk hne
    have hn' : ((x.kids.length : Int) != (y.kids.length : Int)) = false := by simp [hne]
    have hlt0 : ∀ k, k < x.kids.length → k < y.kids.length := fun k h => by omega
    clear hne
    go_enter Tryz.func66, Tryz.ntmps66
    go_wp2
    go_loopg [5] x.kids.length (fun g i w' => ∃ k, k + g = x.kids.length ∧ i = .int .i64 k ∧ Keep All w w' ∧ x.kids.take k = y.kids.take k)
    case atStart => exact ⟨0, by omega, rfl, Keep.refl _ _, rfl⟩
    case round =>
      obtain ⟨k, hk, rfl, hkp, hta⟩ := hrel
      have HK := Fact.mk hk
      have HKP := Fact.mk hkp
      have HTA := Fact.mk hta
      clear hk hkp hta
      by_cases hlt : k < x.kids.length
      · have hlt2 := hlt0 k hlt
        obtain ⟨g, off, vb, vk, rfl, hg, a0, a1, a2, a3, hr1⟩ := HAT1.out k hlt
        obtain ⟨P1, n1, Q1, m1, rfl, rfl⟩ := hr1.forms
        obtain ⟨g', off', vb', vk', rfl, hg', b0, b1, b2, b3, hr2⟩ := HAT2.out k hlt2
        obtain ⟨P2, n2, Q2, m2, rfl, rfl⟩ := hr2.forms
        have kk : ∀ p v, w.cell? p = some v → ∀ q : Kept wr, q.tw.cell? p = some v := fun p v h q => kept_cell (HKP.out.cell trivial h) q
        have e0 := kk _ _ a0
        have e1 := kk _ _ a1
        have e2 := kk _ _ a2
        have e3 := kk _ _ a3
        have f0 := kk _ _ b0
        have f1 := kk _ _ b1
        have f2 := kk _ _ b2
        have f3 := kk _ _ b3
        obtain ⟨q, hq⟩ : ∃ q, q = (decide (x.kids[k].1 = y.kids[k].1) && sameP x.kids[k].2 y.kids[k].2) := ⟨_, rfl⟩
        have HC : Fact (∀ w', Keep All wr w' → Calls Tryz.prog 117 #[.agg #[.string x.kids[k].1, .int .i64 x.kids[k].2.kind, .slice P1 x.kids[k].2.bytes.length n1, .slice Q1 x.kids[k].2.kids.length m1], .agg #[.string y.kids[k].1, .int .i64 y.kids[k].2.kind, .slice P2 y.kids[k].2.bytes.length n2, .slice Q2 y.kids[k].2.kids.length m2]] w' fun e w2 => e = .returned (.bool q) ∧ Keep All w' w2) := ⟨fun w' k' => by
          rw [hq]
          exact sameKid117 _ _ _ _ (HX.out _ (List.getElem_mem hlt)) w' G1 G2 _ _ _ _ _ _ _ _ (hr1.keep (HKP.out.trans k').all) (hr2.keep (HKP.out.trans k').all)⟩
        have HQ := Fact.mk hq
        clear hq hr1 hr2 a0 a1 a2 a3 b0 b1 b2 b3 hg hg' kk
        go_upto_region 6 with (fail)
        refine wp_region_kept (by kernel_rfl) (by kernel_rfl) ?_
        repeat (go_big_quiet_step ((go_at_call 117; exact kept_call (HC.out _ (Kept.keep _)))))
        refine wpQuiet_nil ?_
        intro _ hw'
        obtain ⟨⟨wq, hq⟩, hw''⟩ := hw'
        subst hw''
        have KQ := Fact.mk (HKP.out.trans hq)
        clear hq e0 e1 e2 e3 f0 f1 f2 f3
        cases q with
        | false =>
          have HN : Fact (sameK x.kids y.kids = false) := ⟨by
            simp only [sameK, decide_eq_false_iff_not]
            intro h
            have h2 := HQ.out
            simp [h, sameP] at h2⟩
          go_wp2
          go_ret
          exact ⟨by rw [HN.out]; rfl, KQ.out⟩
        | true =>
          go_wp2
          go_roundg (gk - 1)
          case measure => have := HK.out; omega
          case rel =>
            refine ⟨k + 1, by have := HK.out; omega, by go_num, KQ.out, ?_⟩
            have h2 := HQ.out.symm
            simp only [Bool.and_eq_true, decide_eq_true_eq, sameP] at h2
            rw [List.take_succ_eq_append_getElem hlt, List.take_succ_eq_append_getElem hlt2, HTA.out, show x.kids[k] = y.kids[k] from Prod.ext h2.1 h2.2]
      · have hkl : k = x.kids.length := by have := HK.out; omega
        have HY : Fact (sameK x.kids y.kids = true) := ⟨by
          simp only [sameK, decide_eq_true_eq]
          have := HTA.out
          rwa [hkl, List.take_length, HNE.out, List.take_length] at this⟩
        go_wp2
        go_ret
        exact ⟨by rw [HY.out]; rfl, HKP.out⟩
  · have hn' : ((x.kids.length : Int) != (y.kids.length : Int)) = true := by simp; omega
    have HN : Fact (sameK x.kids y.kids = false) := ⟨by simp only [sameK, decide_eq_false_iff_not]; exact fun h => hne (by rw [h])⟩
    go_enter Tryz.func66, Tryz.ntmps66
    go_wp2
    go_ret
    exact ⟨by rw [HN.out]; rfl, Keep.refl _ _⟩
theorem sameP_mk {k k' : Int} {b b' : List UInt8} {l l' : PKids} : sameP (.mk k b l) (.mk k' b' l') = (decide (k = k') && (b == b') && sameK l l') := by
  rw [Bool.eq_iff_iff]
  simp only [sameP, sameK, PNode.mk.injEq, Bool.and_eq_true, decide_eq_true_eq, beq_iff_eq, and_assoc]
theorem sameAt : ∀ x, SameAt x := by
  refine PNode.ind' ?_
  rintro k b l ih ⟨k', b', l'⟩ w G1 G2 v1 v2 ⟨A, c, B, d, rfl, h1⟩ ⟨A', c', B', d', rfl, h2⟩
  simp only [PNode.kind, PNode.bytes, PNode.kids] at *
  have hb1 := (h1.open).2.2.2.2.2.2.1
  have hb2 := (h2.open).2.2.2.2.2.2.1
  have HB1 := Fact.mk hb1
  have HB2 := Fact.mk hb2
  obtain ⟨q1, hq1⟩ : ∃ q, q = (b == b') := ⟨_, rfl⟩
  obtain ⟨q2, hq2⟩ : ∃ q, q = sameK l l' := ⟨_, rfl⟩
  have C15 : Fact (∀ w', Keep All w w' → Calls Tryz.prog 15 #[.slice A b.length c, .slice A' b'.length c'] w' fun e w2 => e = .returned (.bool q1) ∧ Keep All w' w2) := ⟨fun w' kp => by
    rw [hq1]
    exact (sameBytes15 w' G1 G2 _ _ b b' (HB1.out.keep kp.all) (HB2.out.keep kp.all)).mono fun e w2 h => ⟨h.1, h.keep⟩⟩
  have C66 : Fact (∀ w', Keep All w w' → Calls Tryz.prog 66 #[.slice B l.length d, .slice B' l'.length d'] w' fun e w2 => e = .returned (.bool q2) ∧ Keep All w' w2) := ⟨fun w' kp => by
    rw [hq2]
    exact sameKids66 (.mk k b l) (.mk k' b' l') ih w' G1 G2 _ _ _ _ _ _ _ _ _ _ (h1.keep kp.all) (h2.keep kp.all)⟩
  rw [sameP_mk, ← hq1, ← hq2]
  clear h1 h2 hb1 hb2 HB1 HB2 hq1 hq2 ih
  have K0 : Keep All w ((w.alloc (.cells #[.int .i64 k, .slice A b.length c, .slice B l.length d] 58)).alloc (.cells #[.int .i64 k', .slice A' b'.length c', .slice B' l'.length d'] 58)) := ((Keep.refl _ w).alloc _).alloc _
  have KK := Fact.mk K0
  clear K0
  by_cases hk : k = k'
  · subst hk
    cases q1 with
    | false =>
      go_enter Tryz.func28, Tryz.ntmps28
      go_wp2_with (go_at_call 15; go_must (refine (C15.out _ KK.out).mono ?_); rintro e w2 ⟨rfl, hk⟩; have K2 := Fact.mk (KK.out.trans hk); clear hk)
      go_ret
      exact ⟨by simp, K2.out⟩
    | true =>
      have hx2 := (((Blk.new w [.int .i64 k, .slice A b.length c, .slice B l.length d] 58).alloc (.cells #[.int .i64 k, .slice A' b'.length c', .slice B' l'.length d'] 58)).cell 2 _ rfl)
      have hy2 := (Blk.new (w.alloc (.cells #[.int .i64 k, .slice A b.length c, .slice B l.length d] 58)) [.int .i64 k, .slice A' b'.length c', .slice B' l'.length d'] 58).cell 2 _ rfl
      rw [World.size_alloc] at hy2
      have HX2 := Fact.mk hx2
      have HY2 := Fact.mk hy2
      clear hx2 hy2
      go_enter Tryz.func28, Tryz.ntmps28
      go_wp2_with (first
        | (go_at_call 15; go_must (refine (C15.out _ KK.out).mono ?_); rintro e w2 ⟨rfl, hk⟩; have K2 := Fact.mk (KK.out.trans hk); have x2 := hk.cell (p := ⟨w.heap.size, 2, none⟩) trivial HX2.out; have y2 := hk.cell (p := ⟨w.heap.size + 1, 2, none⟩) trivial HY2.out; clear hk)
        | (go_at_call 66; go_must (refine (C66.out _ K2.out).mono ?_); rintro e w3 ⟨rfl, hk⟩; have K3 := Fact.mk (K2.out.trans hk); clear hk))
      go_ret
      exact ⟨by simp, K3.out⟩
  · have hne : (k == k') = false := by simpa using hk
    go_enter Tryz.func28, Tryz.ntmps28
    go_wp2
    go_ret
    exact ⟨by simp [hk], KK.out⟩
end Go.Proofs.YtddmbdigdnmfgaaGreatDoor

namespace Go.Proofs.YtddmbdigdnmfgaaGreatDoor
open Go.RowKit Go.Shelf
set_option maxHeartbeats 1000000
set_option maxRecDepth 100000
attribute [local go_sem] Oper.semAt_some

def sX : ByteArray := ⟨#[120]⟩
def sSlash : ByteArray := ⟨#[47]⟩
theorem split221 (w : World) : Calls Tryz.prog 221 #[.string ⟨#[120]⟩, .string ⟨#[47]⟩] w fun e w' =>
    e = .returned (.func (.func 247) #[] #[.pointer (some ⟨w.heap.size + 1, 0, none⟩), .pointer (some ⟨w.heap.size, 0, none⟩), .pointer (some ⟨w.heap.size + 2, 0, none⟩)]) ∧
    w' = ((w.alloc (.cells #[.string ⟨#[120]⟩] 9)).alloc (.cells #[.string ⟨#[47]⟩] 9)).alloc (.cells #[.int .i64 0] 3) := by
  go_enter Tryz.func221, Tryz.ntmps221
  go_wp2
  all_goals (go_ret; exact ⟨rfl, rfl⟩)

/-- The iterator over one name without a slash. -/
theorem iter247 (n B : Nat) (w : World)
    (b0 : Blk w (B + 1) [.string ⟨#[47]⟩] 9) (b1 : Blk w B [.string ⟨#[120]⟩] 9) (b2 : Blk w (B + 2) [.int .i64 0] 3) :
    SeqStopsK Fence.wide n Tryz.prog 247 #[.pointer (some ⟨B + 1, 0, none⟩), .pointer (some ⟨B, 0, none⟩), .pointer (some ⟨B + 2, 0, none⟩)] (fun _ : Unit => #[.string ⟨#[120]⟩]) (Below 0) (fun xs => xs = [()]) (fun pre => pre = [()]) 1 w := fun l J Jx W hW hJ hJx hY hJ0 => by
  have hdd : ∀ k : Nat, (Fence.wide.depth.isSome = true → 1 ≤ k) := fun k h => by cases h
  have c0 := (show Blk W (B + 1) _ _ from (hW.block _ b0.lt).trans b0).cell 0 _ rfl
  have c1 := (show Blk W B _ _ from (hW.block _ b1.lt).trans b1).cell 0 _ rfl
  have c2 := (show Blk W (B + 2) _ _ from (hW.block _ b2.lt).trans b2).cell 0 _ rfl
  obtain ⟨fn, tmps, assign, body, hy, hR⟩ := hY [] () W hJ0 (by decide)
  have hR1 := Fact.mk hR
  clear hW b0 b1 b2 hJ hJx hY hJ0 hR
  show CallsIn Fence.wide n Tryz.prog 247 #[.func (.yield l) #[] #[], .pointer (some ⟨B + 1, 0, none⟩), .pointer (some ⟨B, 0, none⟩), .pointer (some ⟨B + 2, 0, none⟩)] W _
  refine callsIn_of_wp Tryz.func247 rfl trivial ?_ rfl
  simp only [Tryz.ntmps247, List.size_toArray, List.length_cons, List.length_nil, Nat.reduceAdd, Nat.reduceSub, Array.replicate_succ, Array.replicate_zero, List.push_toArray, List.append_toArray, List.nil_append, List.cons_append]
  gi_wp2
  refine wpIn_loop_rounds 1 ?_
  rw [roundsIn_succ]
  gi_wp2_with (first
    | (refine ⟨trivial, hdd _, ?_⟩; gi_at_call 249; refine (callsIn_wide.2 (Tryz.strings_Index_one ⟨#[120]⟩ 47 _)).mono ?_; rintro e w' ⟨rfl, rfl⟩)
    | ((try refine ⟨hdd _, ?_⟩); refine hR1.out.mono ?_; clear hR1; rintro e W2 (⟨rfl, hj, _⟩ | ⟨rfl, hx⟩)))
  · go_end0
    exact ⟨⟨_, rfl⟩, .inl ⟨_, rfl, hj⟩⟩
  · go_end0
    exact ⟨⟨_, rfl⟩, .inr ⟨_, rfl, hx⟩⟩

theorem Keep.from_ {w w' : World} (h : Keep All w w') (B : Nat) : KeepsFrom B w w' := ⟨h.size, fun _ _ _ hk _ => h.heap trivial hk⟩
theorem row_ne {w : World} {base D : Nat} {e : TypeId} {sz n : Nat} {v : Value} {xs : List Value} (h : w.ownsRow base e sz v n xs) (hD : w.heap[D]? = some (.deferred (some []))) : ∀ g, v.ownBlock = some g → g ≠ D := by
  intro g hg
  rcases h.2 with ⟨rfl, _⟩ | ⟨g', cap, cur, rfl, _, hh, _⟩
  · cases hg
  · cases hg
    intro e
    subst e
    rw [hh] at hD
    cases hD
def WayPost (w : World) (e : Ending) (w' : World) : Prop := ∃ A c, e = .returned (.tuple #[.slice A 1 c, .int .i64 0]) ∧ Sl w' (fun i => w.heap.size ≤ i) 1 (.slice A 1 c) 1 [.string ⟨#[120]⟩] ∧ Keep All w w'
theorem way198 (w : World) : Calls Tryz.prog 198 #[.string ⟨#[120]⟩] w (WayPost w) := by
  refine (callsIn_wide (n := 9)).1 ?_
  refine callsIn_of_wp_marks Tryz.func198 rfl trivial ?_ rfl
  simp only [Tryz.ntmps198, List.size_toArray, List.length_cons, List.length_nil, Nat.reduceAdd, Nat.reduceSub, Array.replicate_succ, Array.replicate_zero, List.push_toArray, List.append_toArray, List.nil_append, List.cons_append]
  gi_wp2_with (first
    | (refine ⟨trivial, ?_⟩; gi_at_call 221; refine (callsIn_wide.2 (split221 _)).mono ?_; rintro e w1 ⟨rfl, rfl⟩))
  have b2 := ((((Boxed.new w 125 (.slice none 0 0)).alloc (.cells #[.int .i64 0] 28)).alloc (.cells #[.string ⟨#[120]⟩] 9)).alloc (.cells #[.string ⟨#[47]⟩] 9)).alloc (.cells #[.int .i64 0] 3)
  have b3 := (((Boxed.new (w.alloc (.cells #[.slice none 0 0] 125)) 28 (.int .i64 0)).alloc (.cells #[.string ⟨#[120]⟩] 9)).alloc (.cells #[.string ⟨#[47]⟩] 9)).alloc (.cells #[.int .i64 0] 3)
  have b4 := ((Boxed.new ((w.alloc (.cells #[.slice none 0 0] 125)).alloc (.cells #[.int .i64 0] 28)) 9 (.string ⟨#[120]⟩)).alloc (.cells #[.string ⟨#[47]⟩] 9)).alloc (.cells #[.int .i64 0] 3)
  have b5 := (Boxed.new (((w.alloc (.cells #[.slice none 0 0] 125)).alloc (.cells #[.int .i64 0] 28)).alloc (.cells #[.string ⟨#[120]⟩] 9)) 9 (.string ⟨#[47]⟩)).alloc (.cells #[.int .i64 0] 3)
  have b6 := Boxed.new ((((w.alloc (.cells #[.slice none 0 0] 125)).alloc (.cells #[.int .i64 0] 28)).alloc (.cells #[.string ⟨#[120]⟩] 9)).alloc (.cells #[.string ⟨#[47]⟩] 9)) 3 (.int .i64 0)
  have hBW : Keep All w (((((w.alloc (.cells #[.slice none 0 0] 125)).alloc (.cells #[.int .i64 0] 28)).alloc (.cells #[.string ⟨#[120]⟩] 9)).alloc (.cells #[.string ⟨#[47]⟩] 9)).alloc (.cells #[.int .i64 0] 3)) := (((((Keep.refl _ w).alloc _).alloc _).alloc _).alloc _).alloc _
  have hsz : (((((w.alloc (.cells #[.slice none 0 0] 125)).alloc (.cells #[.int .i64 0] 28)).alloc (.cells #[.string ⟨#[120]⟩] 9)).alloc (.cells #[.string ⟨#[47]⟩] 9)).alloc (.cells #[.int .i64 0] 3)).heap.size = w.heap.size + 5 := by simp
  simp only [World.size_alloc] at b3 b4 b5 b6
  obtain ⟨W0, hW0⟩ : ∃ W0, (((((w.alloc (.cells #[.slice none 0 0] 125)).alloc (.cells #[.int .i64 0] 28)).alloc (.cells #[.string ⟨#[120]⟩] 9)).alloc (.cells #[.string ⟨#[47]⟩] 9)).alloc (.cells #[.int .i64 0] 3)) = W0 := ⟨_, rfl⟩
  rw [hW0] at b2 b3 b4 b5 b6 hBW hsz ⊢
  clear hW0
  refine wpIn_rangeFunc_ownG rfl (by decide) (gf := 247) (lb := #[.pointer (some ⟨w.heap.size + 1 + 1 + 1, 0, none⟩), .pointer (some ⟨w.heap.size + 1 + 1, 0, none⟩), .pointer (some ⟨w.heap.size + 1 + 1 + 2, 0, none⟩)]) rfl trivial (enters_of Tryz.func247 (by kernel_rfl) rfl)
    (iter247 8 (w.heap.size + 1 + 1) W0 b5 b4 b6)
    Below.trans (belowK_b (Nat.zero_le _)) (Below.refl _ _) (fun _ => rfl)
    (fun pre W => ((∃ v, Boxed W w.heap.size 125 v ∧ W.ownsRow (w.heap.size + 2) 9 1 v pre.length (pre.map fun _ => .string ⟨#[120]⟩) ∧ (pre = [] → v = .slice none 0 0)) ∧ Boxed W (w.heap.size + 1) 28 (.int .i64 0)) ∧ Below w.heap.size w W)
    (fun _ _ _ => False)
    (OwnFrom.and (OwnFrom.and (Own.from (holdsRow_own _ _ _ _ _ _ _ _) _) (Own.from (boxed_own _ _ (fun _ => .int .i64 0)) _)) (ownFrom_below (Nat.le_refl _) (by omega)))
    (fun _ _ _ _ _ hs _ _ => hs)
    ⟨⟨⟨_, b2, World.ownsRow_nil _ _ _ _, fun _ => rfl⟩, b3⟩, hBW.below⟩
    (fun _ => { tmps := #[.string ⟨#[120]⟩, undef, .pointer (some ⟨w.heap.size, 0, none⟩), .pointer (some ⟨w.heap.size + 1, 0, none⟩), .string ⟨#[120]⟩, .string ⟨#[120]⟩, .bool false, .string ⟨#[120]⟩, .func (.func 247) #[] #[.pointer (some ⟨w.heap.size + 1 + 1 + 1, 0, none⟩), .pointer (some ⟨w.heap.size + 1 + 1, 0, none⟩), .pointer (some ⟨w.heap.size + 1 + 1 + 2, 0, none⟩)], .string ⟨#[120]⟩, undef, undef, undef, undef, undef, undef, undef, undef], defers := [] })
    ?assign ?body ?done ?stop
  case assign =>
    intro l x W K hK
    gi_wp2
    exact hK
  case body =>
    rintro l pre x W ⟨⟨⟨v, bv, hrow, hnil⟩, b3w⟩, hB1⟩ hlt
    obtain rfl : pre = [] := List.eq_nil_of_length_eq_zero (by omega)
    obtain rfl := hnil rfl
    clear hnil hrow hlt b2 b4 b5 b6 b3
    obtain ⟨i0, hi, hz0, hz1, hz2⟩ := info_parts (P := Tryz.prog) (e := 9) (z := .string ⟨#[]⟩) (size := 1) (bytes := 16) (by kernel_rfl)
    have hI := Fact.mk hi
    have hZ := Fact.mk (And.intro hz0 (And.intro hz1 hz2))
    have hsW : w.heap.size + 2 ≤ W.heap.size := b3w.lt
    have BV := Fact.mk bv
    have B3 := Fact.mk b3w
    clear hi hz0 hz1 hz2 bv b3w
    gi_wp2_with (first
      | (refine ⟨trivial, ?_⟩; gi_at_call 110; refine (CallsIn.inRound l (callsIn_wide.2 (name110 _ _ nameOk_x))).mono ?_; rintro e W1 ⟨rfl, hk1⟩; have K1 := Fact.mk hk1; have cv := (show Boxed W1 w.heap.size 125 _ from hk1.heap trivial BV.out).cell; clear hk1)
      | (gi_at_builtin; refine wpListIn_append_own _ rfl _ _ 125 rfl (w.heap.size + 2) 9 i0 (.string ⟨#[]⟩) 1 16 Tryz.underlying125 hI.out hZ.out.1 hZ.out.2.1 hZ.out.2.2 rfl (by decide) (.slice none 0 0) 0 [] rfl (World.ownsRow_nil _ _ _ _) ⟨W1.heap.size, 0, none⟩ 1 1 [.string ⟨#[120]⟩] rfl rfl (cell_one_new _ _ _) (by simp [Value.oneCell']) (by decide) (by decide) (by have := K1.out.size; simp; omega) ?_; intro v' w2 hown' hgrow _; have K2 := Fact.mk ((K1.out.alloc _).grown hgrow (fun k e => by cases e)); have HO := Fact.mk hown'; obtain ⟨A2, c2, rfl⟩ := own_form hown'; clear hown' hgrow; have cv := (show Boxed w2 w.heap.size 125 _ from K2.out.heap trivial BV.out).cell; have fv := (show Boxed w2 w.heap.size 125 _ from K2.out.heap trivial BV.out).frozen))
    have bv2 : Boxed w2 w.heap.size 125 (.slice none 0 0) := K2.out.heap trivial BV.out
    have b32 : Boxed w2 (w.heap.size + 1) 28 (.int .i64 0) := K2.out.heap trivial B3.out
    exact ⟨(K2.out.from_ _).trans ((KeepsOthers.setCell _ _ _).from _), (K2.out.below.mono (Nat.zero_le _)).setCell (Nat.zero_le _) _,
      ⟨⟨_, bv2.set _, own_keep HO.out (G := fun i => i ≠ w.heap.size) ((Keep.refl _ _).setCell (.inr fun h => h rfl) _) (fun g hg => by have := (HO.out.lt g hg).1; omega), fun h => by cases h⟩, b32.other (by omega) _⟩,
      (hB1.trans (K2.out.below.mono hB1.size)).setCell (p := ⟨w.heap.size, 0, none⟩) (by simp) _⟩
  case done =>
    rintro D xs W hD rfl ⟨⟨⟨v, bv, hrow, _⟩, b3w⟩, hB1⟩ hK
    have HROW := Fact.mk hrow
    obtain ⟨A2, cc, rfl⟩ := own_form hrow
    clear hrow
    have c2 := bv.cell
    have f2 := bv.frozen
    have c3 := b3w.cell
    have f3 := b3w.frozen
    gi_wp2
    have bv3 : Boxed ((W.setCell ⟨w.heap.size, 0, none⟩ (.slice A2 1 cc)).setCell ⟨w.heap.size + 1, 0, none⟩ (.int .i64 0)) w.heap.size 125 (.slice A2 1 cc) := (bv.set _).other (by omega) _
    have b33 : Boxed ((W.setCell ⟨w.heap.size, 0, none⟩ (.slice A2 1 cc)).setCell ⟨w.heap.size + 1, 0, none⟩ (.int .i64 0)) (w.heap.size + 1) 28 (.int .i64 0) := (b3w.other (by omega) _).set _
    have hKK : Keep (fun i => i ≠ w.heap.size ∧ i ≠ w.heap.size + 1) W ((W.setCell ⟨w.heap.size, 0, none⟩ (.slice A2 1 cc)).setCell ⟨w.heap.size + 1, 0, none⟩ (.int .i64 0)) :=
      ((Keep.refl _ _).setCell (p := ⟨w.heap.size, 0, none⟩) (.inr fun h => h.1 rfl) _).setCell (p := ⟨w.heap.size + 1, 0, none⟩) (.inr fun h => h.2 rfl) _
    have hB3 : Below w.heap.size w ((W.setCell ⟨w.heap.size, 0, none⟩ (.slice A2 1 cc)).setCell ⟨w.heap.size + 1, 0, none⟩ (.int .i64 0)) := (hB1.setCell (p := ⟨w.heap.size, 0, none⟩) (by simp) _).setCell (p := ⟨w.heap.size + 1, 0, none⟩) (by simp) _
    have hrow3 := own_keep HROW.out hKK (fun g hg => by have := (HROW.out.lt g hg).1; omega)
    have hK3 := hKK.heap (i := D) (by omega) hK
    obtain ⟨W3, hW3⟩ : ∃ W3, (W.setCell ⟨w.heap.size, 0, none⟩ (.slice A2 1 cc)).setCell ⟨w.heap.size + 1, 0, none⟩ (.int .i64 0) = W3 := ⟨_, rfl⟩
    rw [hW3] at bv3 b33 hB3 hrow3 hK3 ⊢
    clear hW3 hKK
    have hKD : Keep (fun i => i ≠ D) W3 (W3.putObj D (.deferred none)) := (Keep.refl _ _).grown (grownBy_putObj' _ _ _) (fun k e => by cases e; exact .inr fun h => h rfl)
    have bv4 : Boxed (W3.putObj D (.deferred none)) w.heap.size 125 (.slice A2 1 cc) := hKD.heap (by omega) bv3
    have b34 : Boxed (W3.putObj D (.deferred none)) (w.heap.size + 1) 28 (.int .i64 0) := hKD.heap (by omega) b33
    have hrow4 := own_keep hrow3 hKD (row_ne hrow3 hK3)
    have hB4 : Below w.heap.size w (W3.putObj D (.deferred none)) := hB3.trans (belowK_b (w := w) (Nat.le_refl _) W3 D _ _ (by omega) hK3 rfl rfl)
    refine ⟨by simp, .inl ⟨_, _, rfl, run_takeDeferred hK3, ?_⟩⟩
    obtain ⟨W4, hW4⟩ : ∃ W4, W3.putObj D (.deferred none) = W4 := ⟨_, rfl⟩
    rw [hW4] at bv4 b34 hrow4 hB4 ⊢
    have c4 := bv4.cell
    have c5 := b34.cell
    refine ⟨.tuple #[.slice A2 1 cc, .int .i64 0], ?_, A2, cc, rfl, (Sl.of_own hrow4 (by simp [Value.oneCell'])).mono (fun i _ h => by omega), Keep.of_below hB4⟩
    simp [results, Tryz.f198]
    go_simp
  case stop =>
    rintro D c pre W _ _ h _
    exact h.elim
end Go.Proofs.YtddmbdigdnmfgaaGreatDoor

namespace Go.Proofs.YtddmbdigdnmfgaaGreatDoor
open Go.RowKit
set_option maxHeartbeats 400000
set_option maxRecDepth 100000

/-- A store of a node's three cells. -/
def set3 (w : World) (g : Nat) (x y z : Value) : World := ((w.setCell ⟨g, 0, none⟩ x).setCell ⟨g, 1, none⟩ y).setCell ⟨g, 2, none⟩ z
theorem Keep.set3 {G : Nat → Prop} {a w : World} (h : Keep G a w) (g : Nat) (hg : a.heap.size ≤ g ∨ ¬ G g) (x y z : Value) : Keep G a (set3 w g x y z) :=
  ((h.setCell (p := ⟨g, 0, none⟩) hg _).setCell (p := ⟨g, 1, none⟩) hg _).setCell (p := ⟨g, 2, none⟩) hg _
theorem Blk.set3 {w : World} {g : Nat} {a b c : Value} {T : TypeId} (h : Blk w g [a, b, c] T) (x y z : Value) : Blk (set3 w g x y z) g [x, y, z] T := ((h.set 0 x).set 1 y).set 2 z
theorem Blk.other3 {w : World} {b : Nat} {c : List Value} {T : TypeId} (h : Blk w b c T) (g : Nat) (hg : b ≠ g) (x y z : Value) : Blk (YtddmbdigdnmfgaaGreatDoor.set3 w g x y z) b c T :=
  ((h.other ⟨g, 0, none⟩ hg _).other ⟨g, 1, none⟩ hg _).other ⟨g, 2, none⟩ hg _
theorem By.set3 {w : World} {G : Nat → Prop} {v : Value} {l : List UInt8} (h : By w G v l) (g : Nat) (hg : ∀ i, G i → i ≠ g) (x y z : Value) : By (YtddmbdigdnmfgaaGreatDoor.set3 w g x y z) G v l :=
  h.keep ((Keep.refl G w).set3 g (.inr fun h => hg _ h rfl) x y z)

/-- A leaf of its own: the bytes lie in new memory. -/
def OwnPost (w : World) (k : Int) (b : List UInt8) (e : Ending) (w' : World) : Prop :=
  ∃ A c, e = .returned (.agg #[.int .i64 k, .slice A b.length c, .slice none 0 0]) ∧ By w' (fun i => w.heap.size ≤ i) (.slice A b.length c) b ∧ Keep All w w'
theorem results_58 {fn : Func} {p : Tmp} (h : fn.results = #[.cell p 58]) (tmps : Array Value) (w : World) (g : Nat) (x y z : Value)
    (hp : tmps.getD p undef = .pointer (some ⟨g, 0, none⟩)) (hb : Blk w g [x, y, z] 58) : (results fn tmps).run Tryz.prog w = .ok (.agg #[x, y, z]) w := by
  have hp' : tmps[p]?.getD undef = .pointer (some ⟨g, 0, none⟩) := by simpa using hp
  have hb' : w.heap[g]? = some (.cells #[x, y, z] 58 (0, 0)) := hb
  simp [results, h, hp', asAddr, run_loadVar_row w g 58 58 #[x, y, z] (0, 0) _ hb' Tryz.underlying58 rfl (by kernel_rfl)]
theorem own199 (w : World) (G : Nat → Prop) (k : Int) (A : Option Addr) (c : Nat) (b : List UInt8) (h : By w G (.slice A b.length c) b) (hs : Small b.length) :
    Calls Tryz.prog 199 #[.agg #[.int .i64 k, .slice A b.length c, .slice none 0 0]] w (OwnPost w k b) := by
  have H := Fact.mk h
  have HS := Fact.mk hs
  clear h hs
  go_enter Tryz.func199, Tryz.ntmps199
  go_wp2_with fail
  have B := Fact.mk ((Blk.new w [.int .i64 k, .slice A b.length c, .slice none 0 0] 58).alloc (.cells #[.int .i64 0, .slice none 0 0, .slice none 0 0] 58))
  have K0 := Fact.mk (((Keep.refl All w).alloc (.cells #[.int .i64 k, .slice A b.length c, .slice none 0 0] 58)).alloc (.cells #[.int .i64 0, .slice none 0 0, .slice none 0 0] 58))
  have BT := Blk.new ((w.alloc (.cells #[.int .i64 k, .slice A b.length c, .slice none 0 0] 58)).alloc (.cells #[.int .i64 0, .slice none 0 0, .slice none 0 0] 58)).drew [.int .i64 0, .slice none 0 0, .slice none 0 0] 58
  simp only [World.size_drew, World.size_alloc] at BT
  have B3 := Fact.mk BT
  have B2 := Blk.new (w.alloc (.cells #[.int .i64 k, .slice A b.length c, .slice none 0 0] 58)) [.int .i64 0, .slice none 0 0, .slice none 0 0] 58
  rw [World.size_alloc] at B2
  have C2 := Fact.mk B2
  clear BT B2
  have hne : w.heap.size + 1 + 1 ≠ w.heap.size := by omega
  go_region_held3 (fun w' => w'.cell? ⟨w.heap.size, 0, none⟩ = some (.int .i64 k) ∧ w'.cell? ⟨w.heap.size, 1, none⟩ = some (.slice A b.length c)) (go_keep)
    (first
      | (go_at_call 72; refine (clone72 _ G _ _ (H.out.keep K0.out.drew.all) HS.out).mono ?_; rintro e w1 ⟨A1, c1, rfl, hby, hk⟩; have HB := Fact.mk (hby.mono (H := fun i => w.heap.size + 1 < i ∧ i < w1.heap.size) fun i hl hi => by simp at hi; omega); have K1 := Fact.mk (K0.out.drew.trans hk); have hb1 := B.out.drew.keep hk trivial; have y0 := hb1.cell 0 _ rfl; have y1 := hb1.cell 1 _ rfl; have y2 := hb1.cell 2 _ rfl; have D2 := Fact.mk (C2.out.drew.keep hk trivial); clear hby hk hb1)
      | (go_at_call 72; refine (clone72 _ G _ _ (H.out.keep (K0.out.drew.alloc _).all) HS.out).mono ?_; rintro e w1 ⟨A1, c1, rfl, hby, hk⟩; have HB := Fact.mk (hby.mono (H := fun i => w.heap.size + 2 < i) fun i hl hi => by simp at hi; omega); have K1 := Fact.mk ((K0.out.drew.alloc _).trans hk); have hb1 := (B.out.drew.alloc _).keep hk trivial; have y0 := hb1.cell 0 _ rfl; have y1 := hb1.cell 1 _ rfl; have y2 := hb1.cell 2 _ rfl; have D2 := Fact.mk ((C2.out.drew.alloc _).keep hk trivial); have hb3 := B3.out.keep hk trivial; have D3 := Fact.mk hb3; have z0 := hb3.cell 0 _ rfl; have z1 := hb3.cell 1 _ rfl; have z2 := hb3.cell 2 _ rfl; have v0 := hb3.free 0; have v1 := hb3.free 1; have v2 := hb3.free 2; clear hby hk hb1 hb3))
  all_goals first
    | (obtain ⟨W3, hW3⟩ : ∃ W, W = w1.alloc (.cells #[.int .i64 k, .slice A1 b.length c1, .slice none 0 0] 58) := ⟨_, rfl⟩
       rw [← hW3]
       have HB3 : Fact (By W3 (fun i => w.heap.size + 1 < i) (.slice A1 b.length c1) b) := ⟨hW3 ▸ (HB.out.keep ((Keep.refl _ _).alloc _)).mono fun i _ h => h.1⟩
       have BT : Blk W3 (w1.heap.size) [.int .i64 k, .slice A1 b.length c1, .slice none 0 0] 58 := hW3 ▸ Blk.new w1 [.int .i64 k, .slice A1 b.length c1, .slice none 0 0] 58
       have E2 : Blk W3 (w.heap.size + 1) [.int .i64 0, .slice none 0 0, .slice none 0 0] 58 := hW3 ▸ D2.out.alloc _
       have E1 : W3.cell? ⟨w.heap.size, 2, none⟩ = some (.slice none 0 0) := hW3 ▸ ((Keep.refl All w1).alloc _).cell (p := ⟨w.heap.size, 2, none⟩) trivial y2
       have K3 : Fact (Keep All w W3) := ⟨hW3 ▸ K1.out.alloc _⟩
       clear hW3)
    | (obtain ⟨W3, hW3⟩ : ∃ W, W = set3 w1 (w.heap.size + 1 + 1) (.int .i64 k) (.slice A1 b.length c1) (.slice none 0 0) := ⟨_, rfl⟩
       rw [set3] at hW3
       rw [← hW3]
       rw [← set3] at hW3
       have HB3 : Fact (By W3 (fun i => w.heap.size + 1 < i) (.slice A1 b.length c1) b) := ⟨hW3 ▸ (HB.out.set3 _ (fun i h => by omega) _ _ _).mono fun i _ h => by omega⟩
       have BT : Blk W3 (w.heap.size + 1 + 1) [.int .i64 k, .slice A1 b.length c1, .slice none 0 0] 58 := hW3 ▸ D3.out.set3 _ _ _
       have E2 : Blk W3 (w.heap.size + 1) [.int .i64 0, .slice none 0 0, .slice none 0 0] 58 := hW3 ▸ D2.out.other3 _ (by omega) _ _ _
       have E1 : W3.cell? ⟨w.heap.size, 2, none⟩ = some (.slice none 0 0) := hW3 ▸ ((Keep.refl (fun i => i ≠ w.heap.size + 1 + 1) w1).set3 _ (.inr fun h => h rfl) _ _ _).cell (p := ⟨w.heap.size, 2, none⟩) (by show w.heap.size ≠ _; omega) y2
       have K3 : Fact (Keep All w W3) := ⟨hW3 ▸ K1.out.set3 _ (.inl (by omega)) _ _ _⟩
       clear hW3)
  all_goals
    have t0 := BT.cell 0 _ rfl
    have t1 := BT.cell 1 _ rfl
    have t2 := BT.cell 2 _ rfl
    have s0 := E2.cell 0 _ rfl
    have s1 := E2.cell 1 _ rfl
    have s2 := E2.cell 2 _ rfl
    have r0 := E2.free 0
    have r1 := E2.free 1
    have r2 := E2.free 2
    have HE := Fact.mk E2
    clear y0 y1 y2 BT E2 H HS B K0 B3 C2 HB K1 D2
    go_wp2
    refine wp_loop_rounds 1 ?_
    rw [rounds_succ]
    go_wp2
    refine bodyPost_ret (results_58 rfl _ _ (w.heap.size + 1) _ _ _ rfl (HE.out.set3 _ _ _)) rfl ?_
    exact ⟨A1, c1, rfl, (HB3.out.set3 _ (fun i h => by omega) _ _ _).mono fun i _ h => by omega, K3.out.set3 _ (.inl (by omega)) _ _ _⟩
theorem bin223 (w : World) (s : ByteArray) : Calls Tryz.prog 223 #[.slice none 0 0, .string s, .func (.func 224) #[] #[]] w fun e w' => e = .returned (.tuple #[.int .i64 0, .bool false]) ∧ w = w' := by
  go_enter Tryz.func223, Tryz.ntmps223
  go_wp2
  refine wp_loop_rounds 1 ?_
  rw [rounds_succ]
  go_wp2
  go_ret2
  exact ⟨rfl, rfl⟩
theorem find201 (w : World) (k : Int) (A : Option Addr) (m c : Nat) (s : ByteArray) : Calls Tryz.prog 201 #[.agg #[.int .i64 k, .slice A m c, .slice none 0 0], .string s] w fun e w' => e = .returned (.tuple #[.int .i64 0, .bool false]) ∧ Keep All w w' := by
  go_enter Tryz.func201, Tryz.ntmps201
  go_wp2_with (go_at_call 223; go_must (refine (bin223 _ _).mono ?_); rintro e w' ⟨rfl, rfl⟩)
  go_ret2
  exact ⟨rfl, (Keep.refl _ w).alloc _⟩

theorem T56 : SlTy Tryz.prog 56 71 4 72 := by
  obtain ⟨i, hi, h0, h1, h2⟩ := info_parts (P := Tryz.prog) (e := 71) (z := .agg #[.string ⟨#[]⟩, .int .i64 0, .slice none 0 0, .slice none 0 0]) (size := 4) (bytes := 72) (by kernel_rfl)
  exact ⟨Tryz.underlying56, by decide, i, _, hi, h0, h1, h2, rfl⟩
/-- The first kid goes into a row of its own. -/
def InsPost (w : World) (xs : List Value) (e : Ending) (w' : World) : Prop := ∃ g c, e = .returned (.slice (some ⟨g, 0, none⟩) 1 c) ∧ w'.ownsRow w.heap.size 71 4 (.slice (some ⟨g, 0, none⟩) 1 c) 1 xs ∧ Keep All w w'
theorem ins222 (w : World) (G : Nat → Prop) (A : Option Addr) (c : Nat) (xs : List Value) (h : Sl w G 4 (.slice A 1 c) 1 xs) :
    Calls Tryz.prog 222 #[.slice none 0 0, .int .i64 0, .slice A 1 c] w (InsPost w xs) := by
  have H := Fact.mk h
  clear h
  go_enter Tryz.func222, Tryz.ntmps222
  go_wp2_with (at_builtin; go_must (refine wpList_ap rfl _ _ 56 71 4 72 w.heap.size 0 1 (World.ownsRow_nil _ _ _ _) H.out rfl T56 rfl rfl (Fits.of (n := 0) (m := 1) (Small.of (by decide)) 72 (by decide)) (Nat.le_refl _) ?_); intro v' w1 ho hg hb; have HO := Fact.mk ho; have K1 := Fact.mk ((Keep.refl All w).grown hg (fun k e => by cases e)); obtain ⟨A1, c1, rfl⟩ := own_form ho; clear ho hg hb)
  go_ret
  have ho := HO.out
  rcases ho.2 with ⟨e, h0⟩ | ⟨g, cap, cur, e, hb, hh, hn⟩
  · simp at h0
  · injection e with e1 e2 e3
    subst e1 e3
    exact ⟨g, _, rfl, by simpa using ho, K1.out⟩
end Go.Proofs.YtddmbdigdnmfgaaGreatDoor

/- Trees in memory of their own: each block for one thing alone. -/
namespace Go.Proofs.YtddmbdigdnmfgaaGreatDoor
open Go.RowKit
set_option maxHeartbeats 400000
set_option maxRecDepth 100000

mutual
/-- The tree x lies in memory of its own: all blocks of F, each for one thing alone; rows from base on. -/
def OwnN (w : World) (base : Nat) (F : Nat → Prop) : PNode → Value → Value → Prop
  | .mk _ b l, vb, vk => ∃ Fb Fk : Nat → Prop, By w Fb vb b ∧ ∃ cs, w.ownsRow base 71 4 vk l.length cs ∧ OwnK w base Fk l cs ∧ (∀ i, Fb i → F i ∧ ¬ Fk i ∧ vk.ownBlock ≠ some i) ∧ (∀ i, Fk i → F i ∧ vk.ownBlock ≠ some i) ∧ (∀ g, vk.ownBlock = some g → F g)
def OwnK (w : World) (base : Nat) (F : Nat → Prop) : List (ByteArray × PNode) → List Value → Prop
  | [], cs => cs = []
  | (s, x) :: r, cs => ∃ vb vk d, ∃ F1 F2 : Nat → Prop, cs = .string s :: .int .i64 x.kind :: vb :: vk :: d ∧ OwnN w base F1 x vb vk ∧ OwnK w base F2 r d ∧ (∀ i, F1 i → F i ∧ ¬ F2 i) ∧ (∀ i, F2 i → F i)
end
section
variable {w w' : World} {G H F F' : Nat → Prop} {base base' : Nat}
mutual
theorem OwnN.keep (k : Keep G w w') : ∀ {x : PNode} {F : Nat → Prop} {vb vk : Value}, (∀ i, F i → G i) → OwnN w base F x vb vk → OwnN w' base F x vb vk
  | .mk _ b l, F, vb, vk, hF, h => by
    rw [OwnN] at *
    obtain ⟨Fb, Fk, h1, cs, h2, h3, h4, h5, h6⟩ := h
    exact ⟨Fb, Fk, h1.keep (k.mono fun i hi => hF i (h4 i hi).1), cs, own_keep h2 k fun g hg => hF g (h6 g hg), OwnK.keep k (fun i hi => hF i (h5 i hi).1) h3, h4, h5, h6⟩
theorem OwnK.keep (k : Keep G w w') : ∀ {l : List (ByteArray × PNode)} {F : Nat → Prop} {cs : List Value}, (∀ i, F i → G i) → OwnK w base F l cs → OwnK w' base F l cs
  | [], F, cs, _, h => by rw [OwnK] at *; exact h
  | (s, x) :: r, F, cs, hF, h => by
    rw [OwnK] at *
    obtain ⟨vb, vk, d, F1, F2, h1, h2, h3, h4, h5⟩ := h
    exact ⟨vb, vk, d, F1, F2, h1, OwnN.keep k (fun i hi => hF i (h4 i hi).1) h2, OwnK.keep k (fun i hi => hF i (h5 i hi)) h3, h4, h5⟩
end
theorem OwnN.mono {x : PNode} {vb vk : Value} (hi : ∀ i, F i → F' i) (h : OwnN w base F x vb vk) : OwnN w base F' x vb vk := by
  obtain ⟨k, b, l⟩ := x
  rw [OwnN] at *
  obtain ⟨Fb, Fk, h1, cs, h2, h3, h4, h5, h6⟩ := h
  exact ⟨Fb, Fk, h1, cs, h2, h3, fun i h => ⟨hi i (h4 i h).1, (h4 i h).2⟩, fun i h => ⟨hi i (h5 i h).1, (h5 i h).2⟩, fun g hg => hi g (h6 g hg)⟩
theorem OwnK.mono (hi : ∀ i, F i → F' i) : ∀ {l : PKids} {cs : List Value}, OwnK w base F l cs → OwnK w base F' l cs
  | [], cs, h => by rw [OwnK] at *; exact h
  | (s, x) :: r, cs, h => by
    rw [OwnK] at *
    obtain ⟨vb, vk, d, F1, F2, h1, h2, h3, h4, h5⟩ := h
    exact ⟨vb, vk, d, F1, F2, h1, h2, h3, fun i h => ⟨hi i (h4 i h).1, (h4 i h).2⟩, fun i h => hi i (h5 i h)⟩
mutual
theorem OwnN.based (hb : base' ≤ base) : ∀ {x : PNode} {F : Nat → Prop} {vb vk : Value}, OwnN w base F x vb vk → OwnN w base' F x vb vk
  | .mk _ b l, F, vb, vk, h => by
    rw [OwnN] at *
    obtain ⟨Fb, Fk, h1, cs, h2, h3, h4, h5, h6⟩ := h
    exact ⟨Fb, Fk, h1, cs, own_base h2 hb, OwnK.based hb h3, h4, h5, h6⟩
theorem OwnK.based (hb : base' ≤ base) : ∀ {l : List (ByteArray × PNode)} {F : Nat → Prop} {cs : List Value}, OwnK w base F l cs → OwnK w base' F l cs
  | [], F, cs, h => by rw [OwnK] at *; exact h
  | (s, x) :: r, F, cs, h => by
    rw [OwnK] at *
    obtain ⟨vb, vk, d, F1, F2, h1, h2, h3, h4, h5⟩ := h
    exact ⟨vb, vk, d, F1, F2, h1, OwnN.based hb h2, OwnK.based hb h3, h4, h5⟩
end
theorem one4 (s : ByteArray) (k : Int) (vb vk : Value) (hb : vb.oneCell' = true) (hk : vk.oneCell' = true) : ∀ u ∈ [Value.string s, .int .i64 k, vb, vk], u.oneCell' = true := by
  intro u hu
  simp only [List.mem_cons, List.not_mem_nil, or_false] at hu
  rcases hu with rfl | rfl | rfl | rfl
  · rfl
  · rfl
  · exact hb
  · exact hk
theorem By.oneCell {v : Value} {l : List UInt8} (h : By w G v l) : v.oneCell' = true := by
  obtain ⟨A, c, rfl, -⟩ := h.open
  rfl
theorem Own.oneCell {v : Value} {e : TypeId} {sz n : Nat} {xs : List Value} (h : w.ownsRow base e sz v n xs) : v.oneCell' = true := by
  obtain ⟨A, c, rfl⟩ := own_form h
  rfl
mutual
theorem OwnN.rep : ∀ {x : PNode} {F : Nat → Prop} {vb vk : Value}, OwnN w base F x vb vk → RepN w F x vb vk ∧ vb.oneCell' = true ∧ vk.oneCell' = true
  | .mk _ b l, F, vb, vk, h => by
    rw [OwnN] at h
    rw [RepN]
    obtain ⟨Fb, Fk, h1, cs, h2, h3, h4, h5, h6⟩ := h
    obtain ⟨h7, h8⟩ := OwnK.rep h3
    refine ⟨⟨h1.mono fun i _ hi => (h4 i hi).1, cs, ?_, RepK.mono (fun i _ hi => (h5 i hi).1) h7⟩, h1.oneCell, Own.oneCell h2⟩
    have := Sl.of_own h2 h8
    obtain ⟨e1, A, c, e2, e3, e4, e5, e6, e7⟩ := this
    refine ⟨e1, A, c, e2, e3, e4, e5, e6, fun hp => ?_⟩
    obtain ⟨g, off, ea, hg, ha⟩ := e7 hp
    exact ⟨g, off, ea, h6 g (by rw [e2, ea]; rfl), ha⟩
theorem OwnK.rep : ∀ {l : List (ByteArray × PNode)} {F : Nat → Prop} {cs : List Value}, OwnK w base F l cs → RepK w F l cs ∧ ∀ u ∈ cs, u.oneCell' = true
  | [], F, cs, h => by rw [OwnK] at h; rw [RepK]; subst h; exact ⟨rfl, fun u hu => by cases hu⟩
  | (s, x) :: r, F, cs, h => by
    rw [OwnK] at h
    rw [RepK]
    obtain ⟨vb, vk, d, F1, F2, rfl, h2, h3, h4, h5⟩ := h
    obtain ⟨q1, q2, q3⟩ := OwnN.rep h2
    obtain ⟨q4, q5⟩ := OwnK.rep h3
    refine ⟨⟨vb, vk, d, rfl, q1.mono fun i _ hi => (h4 i hi).1, q4.mono fun i _ hi => h5 i hi⟩, fun u hu => ?_⟩
    simp only [List.mem_cons] at hu
    rcases hu with rfl | rfl | rfl | rfl | hu
    · rfl
    · rfl
    · exact q2
    · exact q3
    · exact q5 u hu
end
/-- One kid more, behind. -/
theorem OwnK.snoc {s : ByteArray} {x : PNode} {vb vk : Value} {F1 : Nat → Prop} (h1 : OwnN w base F1 x vb vk) : ∀ {l : PKids} {F : Nat → Prop} {cs : List Value}, OwnK w base F l cs → (∀ i, F1 i → ¬ F i) →
    OwnK w base (fun i => F i ∨ F1 i) (l ++ [(s, x)]) (cs ++ [.string s, .int .i64 x.kind, vb, vk])
  | [], F, cs, h, ha => by
    rw [OwnK] at h
    subst h
    rw [List.nil_append, List.nil_append, OwnK]
    exact ⟨vb, vk, [], F1, fun _ => False, rfl, h1, by rw [OwnK], fun i hi => ⟨.inr hi, fun h => h⟩, fun i hi => hi.elim⟩
  | (s', x') :: r, F, cs, h, ha => by
    rw [OwnK] at h
    obtain ⟨vb', vk', d, F1', F2, rfl, h2, h3, h4, h5⟩ := h
    have ih := OwnK.snoc (s := s) h1 h3 (fun i hi hf => ha i hi (h5 i hf))
    rw [List.cons_append, OwnK]
    refine ⟨vb', vk', d ++ [.string s, .int .i64 x.kind, vb, vk], F1', _, rfl, h2, ih, fun i hi => ⟨.inl (h4 i hi).1, fun hc => ?_⟩, fun i hi => ?_⟩
    · rcases hc with hc | hc
      · exact (h4 i hi).2 hc
      · exact ha i hc (h4 i hi).1
    · exact hi.imp (h5 i) id
end
mutual
/-- No more bytes, no more kids than a right tree may have. -/
def SmallN : PNode → Prop
  | .mk _ b l => b.length ≤ 2048 ∧ l.length ≤ 200 ∧ SmallK l
def SmallK : List (ByteArray × PNode) → Prop
  | [] => True
  | (_, x) :: r => SmallN x ∧ SmallK r
end
theorem SmallK.get : ∀ {l : PKids}, SmallK l → ∀ k (h : k < l.length), SmallN l[k].2
  | (_, x) :: r, h, 0, _ => by rw [SmallK] at h; exact h.1
  | (_, x) :: r, h, k + 1, hk => by rw [SmallK] at h; exact SmallK.get h.2 k (by simpa using hk)
theorem smallK_of : ∀ {l : PKids}, (∀ k (h : k < l.length), SmallN l[k].2) → SmallK l
  | [], _ => by rw [SmallK]; trivial
  | (_, x) :: r, h => by rw [SmallK]; exact ⟨h 0 (by simp), smallK_of fun k hk => h (k + 1) (by simpa using hk)⟩
theorem kindV_most (k : Int) : (kindV k).2.1 ≤ 2048 := by
  unfold kindV
  split
  · exact Nat.le_refl _
  · split
    · decide
    · split <;> decide
mutual
theorem okP_small : ∀ {x : PNode} {dep : Nat}, okP x dep = true → SmallN x
  | .mk k b l, dep, h => by
    rw [okP] at h
    simp only [Bool.and_eq_true, decide_eq_true_eq] at h
    rw [SmallN]
    have := kindV_most k
    exact ⟨by omega, h.1.1.1.2, okK_small h.2⟩
theorem okK_small : ∀ {l : List (ByteArray × PNode)} {dep : Nat}, okK l dep = true → SmallK l
  | [], _, _ => by rw [SmallK]; trivial
  | (_, x) :: r, dep, h => by
    rw [okK, Bool.and_eq_true] at h
    rw [SmallK]
    exact ⟨okP_small h.1, okK_small h.2⟩
end
theorem rightP_ok {x : PNode} (h : rightP x = true) : okP x 1 = true := by
  unfold rightP rightB at h
  rw [Bool.and_eq_true] at h
  exact h.1
theorem rightP_small {x : PNode} (h : rightP x = true) : SmallN x := okP_small (rightP_ok h)
end Go.Proofs.YtddmbdigdnmfgaaGreatDoor

namespace Go.Proofs.YtddmbdigdnmfgaaGreatDoor
open Go.RowKit
set_option maxHeartbeats 400000
set_option maxRecDepth 100000

theorem put200_nil (w : World) (g : Nat) (A0 : Option Addr) (c0 : Nat) (k : Int) (A : Option Addr) (m c : Nat) (x y z : Value)
    (h1 : w.cell? ⟨g, 1, none⟩ = some x) (h2 : w.cell? ⟨g, 2, none⟩ = some y) (h3 : w.cell? ⟨g, 3, none⟩ = some z)
    (f1 : w.frozen? ⟨g, 1, none⟩ = false) (f2 : w.frozen? ⟨g, 2, none⟩ = false) (f3 : w.frozen? ⟨g, 3, none⟩ = false) :
    Calls Tryz.prog 200 #[.pointer (some ⟨g, 1, none⟩), .slice A0 0 c0, .agg #[.int .i64 k, .slice A m c, .slice none 0 0]] w
      fun e w' => e = .returned (.int .i64 0) ∧ w' = (((w.setCell ⟨g, 1, none⟩ (.int .i64 k)).setCell ⟨g, 2, none⟩ (.slice A m c)).setCell ⟨g, 3, none⟩ (.slice none 0 0)).alloc (.cells #[.int .i64 k, .slice A m c, .slice none 0 0] 58) := by
  have hlt := World.block_lt_of_cell? w _ h1
  go_enter Tryz.func200, Tryz.ntmps200
  go_wp2
  go_ret
  exact ⟨rfl, rfl⟩

theorem kid_set (W : World) (g : Nat) (s : ByteArray) (k : Int) (A : Option Addr) (m c : Nat) (x y z : Value) (o : Obj) (h0 : W.cell? ⟨g, 0, none⟩ = some (.string s)) (h1 : W.cell? ⟨g, 1, none⟩ = some x) (h2 : W.cell? ⟨g, 2, none⟩ = some y) (h3 : W.cell? ⟨g, 3, none⟩ = some z) :
    KidAt ((((W.setCell ⟨g, 1, none⟩ (.int .i64 k)).setCell ⟨g, 2, none⟩ (.slice A m c)).setCell ⟨g, 3, none⟩ (.slice none 0 0)).alloc o) g 0 s k A m c := by
  have n1 : ∀ (i j : Nat) (w : World) (v u : Value), i ≠ j → w.cell? ⟨g, j, none⟩ = some u → (w.setCell ⟨g, i, none⟩ v).cell? ⟨g, j, none⟩ = some u := fun i j w v u hij hu =>
    (World.cell?_setCell_other w ⟨g, i, none⟩ ⟨g, j, none⟩ v (fun e => hij (by injection e))).trans hu
  have n2 : ∀ (i : Nat) (w : World) (v u : Value), w.cell? ⟨g, i, none⟩ = some u → (w.setCell ⟨g, i, none⟩ v).cell? ⟨g, i, none⟩ = some v := fun i w v u hu => World.cell?_setCell_same' _ _ _ (by rw [hu]; rfl)
  have al : ∀ (w : World) (p : Addr) (u : Value), w.cell? p = some u → (w.alloc o).cell? p = some u := fun w p u hu => ((Keep.refl All w).alloc o).cell trivial hu
  exact ⟨al _ _ _ (n1 3 0 _ _ _ (by decide) (n1 2 0 _ _ _ (by decide) (n1 1 0 _ _ _ (by decide) h0))),
    al _ _ _ (n1 3 1 _ _ _ (by decide) (n1 2 1 _ _ _ (by decide) (n2 1 _ _ _ h1))),
    al _ _ _ (n1 3 2 _ _ _ (by decide) (n2 2 _ _ _ (n1 1 2 _ _ _ (by decide) h2))),
    al _ _ _ (n2 3 _ _ _ (n1 2 3 _ _ _ (by decide) (n1 1 3 _ _ _ (by decide) h3)))⟩
def PutX (w : World) (db : Nat) (A0 : Option Addr) (c0 : Nat) (k : Int) (A : Option Addr) (m c : Nat) (e : Ending) (w' : World) : Prop :=
  e = .returned (.int .i64 0) ∧ ∃ g cc, Blk w' db [.int .i64 4, .slice A0 0 c0, .slice (some ⟨g, 0, none⟩) 1 cc] 58 ∧ KidAt w' g 0 ⟨#[120]⟩ k A m c ∧ w.heap.size ≤ g ∧ Keep (fun i => i ≠ db) w w'
theorem put200_x (w : World) (Gw : Nat → Prop) (db : Nat) (A0 : Option Addr) (c0 cw : Nat) (Aw : Option Addr) (k : Int) (A : Option Addr) (m c : Nat)
    (hd : Blk w db [.int .i64 4, .slice A0 0 c0, .slice none 0 0] 58) (hw : Sl w Gw 1 (.slice Aw 1 cw) 1 [.string ⟨#[120]⟩]) :
    Calls Tryz.prog 200 #[.pointer (some ⟨db, 0, none⟩), .slice Aw 1 cw, .agg #[.int .i64 k, .slice A m c, .slice none 0 0]] w
      (PutX w db A0 c0 k A m c) := by
  obtain ⟨_, A', c', he, -, hcw, hcm, hA, hx⟩ := hw
  injection he with e1 _ e3
  subst e1 e3
  obtain ⟨wb, wo, rfl, hg, hat⟩ := hx (by simp)
  have HW := hat 0 (by simp)
  simp only [List.getD_cons_zero, Nat.add_zero] at HW
  have D := Fact.mk hd
  have hdl := hd.lt
  have d0 := hd.cell 0 _ rfl
  have d1 := hd.cell 1 _ rfl
  have d2 := hd.cell 2 _ rfl
  clear hd hg hat hx hcm hA
  go_enter Tryz.func200, Tryz.ntmps200
  go_wp2_with fail
  have K0 := Fact.mk ((Keep.refl All w).alloc (.cells #[.int .i64 k, .slice A m c, .slice none 0 0] 58))
  have T := Fact.mk (Blk.new w [.int .i64 k, .slice A m c, .slice none 0 0] 58)
  go_region_held3 (fun w' => w'.cell? ⟨db, 0, none⟩ = some (.int .i64 4) ∧ w'.cell? ⟨db, 1, none⟩ = some (.slice A0 0 c0) ∧ w'.cell? ⟨db, 2, none⟩ = some (.slice none 0 0) ∧ w'.cell? ⟨wb, wo, none⟩ = some (.string ⟨#[120]⟩)) (go_keep)
    (first
      | (go_at_call 201; refine (find201 _ _ _ _ _ _).mono ?_; rintro e w1 ⟨rfl, hk⟩; have hk1 := K0.out.drew.trans hk; have K1 := Fact.mk hk1; have T1 := Fact.mk (T.out.drew.keep hk trivial); have D1 := Fact.mk (D.out.keep hk1 trivial); have y0 := D1.out.cell 0 _ rfl; have y1 := D1.out.cell 1 _ rfl; have y2 := D1.out.cell 2 _ rfl; have y3 := hk1.cell (p := ⟨wb, wo, none⟩) trivial HW; clear hk hk1))
  go_wp2_with fail
  have SK := Fact.mk (Sl.new w1 71 4 1 [.string ⟨#[120]⟩, .int .i64 4, .slice none 0 0, .slice none 0 0] rfl (by decide) (by simp [Value.oneCell']))
  have SK2 := Fact.mk (Sl.new w1.drew 71 4 1 [.string ⟨#[120]⟩, .int .i64 4, .slice none 0 0, .slice none 0 0] rfl (by decide) (by simp [Value.oneCell']))
  have hdl1 := D1.out.lt
  have hwl1 := World.block_lt_of_cell? w1 _ y3
  clear d0 d1 d2 D K0 T HW
  go_region_with (first
      | (go_at_call 222; refine (ins222 _ _ _ _ _ SK2.out).mono ?_; rintro e w2 ⟨g, cc, rfl, hrow, hk⟩; have K2 := Fact.mk ((K1.out.drew.alloc _).trans hk); have HR := Fact.mk hrow; have T2 := Fact.mk ((T1.out.drew.alloc _).keep hk trivial); have hd2 := (D1.out.drew.alloc _).keep hk trivial; have D2 := Fact.mk hd2; have y2 := hd2.cell 2 _ rfl; have g2 := hd2.free 2; have hsz := hk.size; clear hk hrow hd2))
  all_goals go_wp2_with fail
  all_goals
    obtain ⟨W3, hW3⟩ : ∃ W, W = w2.setCell ⟨db, 2, none⟩ (.slice (some ⟨g, 0, none⟩) 1 cc) := ⟨_, rfl⟩
    rw [← hW3]
    have hgw : w1.heap.size < g := by
      have := (HR.out.lt g rfl).1
      simp at this
      omega
    have hws : w.heap.size ≤ w1.heap.size := K1.out.size
    have hr3 : W3.ownsRow (w1.heap.size + 1) 71 4 (.slice (some ⟨g, 0, none⟩) 1 cc) 1 [.string ⟨#[120]⟩, .int .i64 4, .slice none 0 0, .slice none 0 0] := by
      subst hW3
      have := own_keep HR.out (G := fun i => i ≠ db) ((Keep.refl _ _).setCell (p := ⟨db, 2, none⟩) (.inr fun h => h rfl) (.slice (some ⟨g, 0, none⟩) 1 cc)) (fun g' hg' => by cases hg'; show g ≠ db; omega)
      simpa using this
    have D3 : Fact (Blk W3 db [.int .i64 4, .slice A0 0 c0, .slice (some ⟨g, 0, none⟩) 1 cc] 58) := ⟨hW3 ▸ D2.out.set 2 _⟩
    have T3 : Fact (Blk W3 w.heap.size [.int .i64 k, .slice A m c, .slice none 0 0] 58) := ⟨hW3 ▸ T2.out.other _ (by show w.heap.size ≠ db; omega) _⟩
    have K3 : Fact (Keep (fun i => i ≠ db) w W3) := ⟨hW3 ▸ K2.out.all.setCell (p := ⟨db, 2, none⟩) (.inr fun h => h rfl) _⟩
    have HR3 := Fact.mk hr3
    clear hW3 y0 y1 y2 y3 g2 hr3 HR T2 D2 K2 SK SK2 hsz T1 D1 hwl1
    have q1 := D3.out.cell 2 _ rfl
    have q2 := T3.out.cell 0 _ rfl
    have q3 := T3.out.cell 1 _ rfl
    have q4 := T3.out.cell 2 _ rfl
    go_region_held3 (fun w' => w'.cell? ⟨db, 2, none⟩ = some (.slice (some ⟨g, 0, none⟩) 1 cc) ∧ w'.cell? ⟨w.heap.size, 0, none⟩ = some (.int .i64 k) ∧ w'.cell? ⟨w.heap.size, 1, none⟩ = some (.slice A m c) ∧ w'.cell? ⟨w.heap.size, 2, none⟩ = some (.slice none 0 0)) (go_keep)
      (first
        | (go_at_call 200; refine (put200_nil W3.drew g _ _ k A m c _ _ _ (HR3.out.cellAt 1 (by decide)) (HR3.out.cellAt 2 (by decide)) (HR3.out.cellAt 3 (by decide)) (HR3.out.frozenAt 1) (HR3.out.frozenAt 2) (HR3.out.frozenAt 3)).mono ?_; rintro e w4 ⟨rfl, hw4⟩; have hk4 : Keep (fun i => i ≠ g) W3.drew w4 := hw4 ▸ ((((Keep.refl _ W3.drew).setCell (p := ⟨g, 1, none⟩) (.inr fun h => h rfl) _).setCell (p := ⟨g, 2, none⟩) (.inr fun h => h rfl) _).setCell (p := ⟨g, 3, none⟩) (.inr fun h => h rfl) _).alloc _; have hd4 := D3.out.drew.keep hk4 (by show db ≠ g; omega); have ht4 := T3.out.drew.keep hk4 (by show w.heap.size ≠ g; omega); have D4 := Fact.mk hd4; have p1 := hd4.cell 2 _ rfl; have p2 := ht4.cell 0 _ rfl; have p3 := ht4.cell 1 _ rfl; have p4 := ht4.cell 2 _ rfl; have K4 := Fact.mk hk4; have W4 := Fact.mk hw4; clear hk4 hd4 ht4 hw4; dsimp only))
    all_goals
      go_wp2
      all_goals
        go_ret
        refine ⟨rfl, g, cc, D4.out, ?_, by omega, K3.out.drew.then_ K4.out fun i hi _ => by show i ≠ g; omega⟩
        rw [W4.out]
        exact kid_set W3.drew g _ k A m c _ _ _ _ (HR3.out.cellAt 0 (by decide)) (HR3.out.cellAt 1 (by decide)) (HR3.out.cellAt 2 (by decide)) (HR3.out.cellAt 3 (by decide))
end Go.Proofs.YtddmbdigdnmfgaaGreatDoor

namespace Go.Proofs.YtddmbdigdnmfgaaGreatDoor
open Go.RowKit
set_option maxHeartbeats 800000
set_option maxRecDepth 100000

theorem results_58_tmp {fn : Func} {p u : Tmp} (h : fn.results = #[.cell p 58, .tmp u]) (tmps : Array Value) (w : World) (g : Nat) (x y z : Value)
    (hp : tmps.getD p undef = .pointer (some ⟨g, 0, none⟩)) (hb : Blk w g [x, y, z] 58) : (results fn tmps).run Tryz.prog w = .ok (.tuple #[.agg #[x, y, z], tmps.getD u undef]) w := by
  have hp' : tmps[p]?.getD undef = .pointer (some ⟨g, 0, none⟩) := by simpa using hp
  have hb' : w.heap[g]? = some (.cells #[x, y, z] 58 (0, 0)) := hb
  simp [results, h, hp', asAddr, run_loadVar_row w g 58 58 #[x, y, z] (0, 0) _ hb' Tryz.underlying58 rfl (by kernel_rfl)]
/-- What Put hands back: a directory that holds the leaf under "x", all in new memory. -/
def PutPost164 (w : World) (k : Int) (b : List UInt8) (e : Ending) (w' : World) : Prop :=
  ∃ A0 c0 g cc A c, e = .returned (.tuple #[.agg #[.int .i64 4, .slice A0 0 c0, .slice (some ⟨g, 0, none⟩) 1 cc], .int .i64 0]) ∧ KidAt w' g 0 ⟨#[120]⟩ k A b.length c ∧ By w' (fun i => w.heap.size ≤ i) (.slice A b.length c) b ∧ w.heap.size ≤ g ∧ Keep All w w'
theorem put164 (w : World) (G : Nat → Prop) (A0 : Option Addr) (c0 : Nat) (k : Int) (lo hi : Nat) (kd : Bool) (A : Option Addr) (c : Nat) (b : List UInt8) (h0 : By w G (.slice A0 0 c0) []) (h : By w G (.slice A b.length c) b) (hs : Small b.length)
    (hk : KindIs k lo hi kd) (hlo : lo ≤ b.length) (hhi : b.length ≤ hi) :
    Calls Tryz.prog 164 #[.agg #[.int .i64 4, .slice A0 0 c0, .slice none 0 0], .string ⟨#[120]⟩, .agg #[.int .i64 k, .slice A b.length c, .slice none 0 0]] w (PutPost164 w k b) := by
  have H0 := Fact.mk h0
  have H := Fact.mk h
  have HS := Fact.mk hs
  have HK := Fact.mk hk
  clear h0 h hs hk
  go_enter Tryz.func164, Tryz.ntmps164
  go_wp2_with fail
  have KB : Fact (Keep All w (((w.alloc (.cells #[.int .i64 4, .slice A0 0 c0, .slice none 0 0] 58)).alloc (.cells #[.int .i64 k, .slice A b.length c, .slice none 0 0] 58)).alloc (.cells #[.int .i64 0, .slice none 0 0, .slice none 0 0] 58))) := ⟨(((Keep.refl _ w).alloc _).alloc _).alloc _⟩
  have B3 := Fact.mk (((Blk.new w [.int .i64 4, .slice A0 0 c0, .slice none 0 0] 58).alloc (.cells #[.int .i64 k, .slice A b.length c, .slice none 0 0] 58)).alloc (.cells #[.int .i64 0, .slice none 0 0, .slice none 0 0] 58))
  have b5 := (Blk.new (w.alloc (.cells #[.int .i64 4, .slice A0 0 c0, .slice none 0 0] 58)) [.int .i64 k, .slice A b.length c, .slice none 0 0] 58).alloc (.cells #[.int .i64 0, .slice none 0 0, .slice none 0 0] 58)
  have b6 := Blk.new ((w.alloc (.cells #[.int .i64 4, .slice A0 0 c0, .slice none 0 0] 58)).alloc (.cells #[.int .i64 k, .slice A b.length c, .slice none 0 0] 58)) [.int .i64 0, .slice none 0 0, .slice none 0 0] 58
  simp only [World.size_alloc] at b5 b6
  have B5 := Fact.mk b5
  have B6 := Fact.mk b6
  clear b5 b6
  obtain ⟨wb, hwb⟩ : ∃ W, W = (((w.alloc (.cells #[.int .i64 4, .slice A0 0 c0, .slice none 0 0] 58)).alloc (.cells #[.int .i64 k, .slice A b.length c, .slice none 0 0] 58)).alloc (.cells #[.int .i64 0, .slice none 0 0, .slice none 0 0] 58)) := ⟨_, rfl⟩
  rw [← hwb] at KB B3 B5 B6 ⊢
  clear hwb
  have KW : Fact (Keep All wb wb) := ⟨Keep.refl _ _⟩
  go_wp2_with (first
    | (go_at_call 29; go_must (refine (right29 _ ⟨⟨#[]⟩, _, _, _, _, _, _, _⟩ _ _ (by first | exact rightN_leaf _ _ _ _ _ _ _ _ _ kind4 (Nat.le_refl _) (Nat.le_refl _) | exact rightN_leaf _ _ _ _ _ _ _ _ _ HK.out hlo hhi)).mono ?_); rintro e v ⟨rfl, hk⟩; replace KW := Fact.mk (KW.out.trans hk); have x0 := (B3.out.keep KW.out trivial).cell 0 _ rfl; have x1 := (B3.out.keep KW.out trivial).cell 1 _ rfl; have x2 := (B3.out.keep KW.out trivial).cell 2 _ rfl; have z0 := (B5.out.keep KW.out trivial).cell 0 _ rfl; have z1 := (B5.out.keep KW.out trivial).cell 1 _ rfl; have z2 := (B5.out.keep KW.out trivial).cell 2 _ rfl; clear hk)
    | (go_at_call 198; go_must (refine (way198 _).mono ?_); rintro e v ⟨Aw, cw, rfl, hsl, hk⟩; replace KW := Fact.mk (KW.out.trans hk); have x0 := (B3.out.keep KW.out trivial).cell 0 _ rfl; have x1 := (B3.out.keep KW.out trivial).cell 1 _ rfl; have x2 := (B3.out.keep KW.out trivial).cell 2 _ rfl; have SW := Fact.mk (hsl.mono (H := All) fun _ _ _ => trivial); clear hk hsl)
    | (go_at_call 199; go_must (refine (own199 _ _ _ _ _ [] (H0.out.keep (KB.out.trans KW.out).all) (Small.of (by decide))).mono ?_); rintro e v2 ⟨A1, c1, rfl, hby, hk⟩; replace KW := Fact.mk (KW.out.trans hk); have SW2 := Fact.mk (SW.out.keep hk); clear hk hby))
  have hcw : 1 ≤ cw := by
    obtain ⟨_, A', c', he, -, h1, -⟩ := SW2.out
    injection he with _ _ e3
    omega
  have hcw' : (1 : Int) ≤ cw := by omega
  have hmin : min (1 : Int) 1000 = 1 := by decide
  have W7 := Fact.mk (KW.out.alloc (.cells #[.int .i64 4, .slice A1 0 c1, .slice none 0 0] 58)).drew
  have D7 := Fact.mk (Blk.new v2 [.int .i64 4, .slice A1 0 c1, .slice none 0 0] 58).drew
  have S7 := Fact.mk ((SW2.out.keep ((Keep.refl All v2).alloc (.cells #[.int .i64 4, .slice A1 0 c1, .slice none 0 0] 58))).keep ((Keep.refl All _).drew))
  obtain ⟨W, hW⟩ : ∃ W, W = v2.alloc (.cells #[.int .i64 4, .slice A1 0 c1, .slice none 0 0] 58) := ⟨_, rfl⟩
  have hWs : W.heap.size = v2.heap.size + 1 := by rw [hW]; simp
  have HWS := Fact.mk hWs
  rw [← hW] at W7 D7 S7 ⊢
  have HB7 := Fact.mk (H.out.keep (KB.out.trans W7.out).all)
  clear hW hWs x0 x1 x2 z0 z1 z2 SW SW2
  have hwbs : Fact (w.heap.size + 1 + 1 < wb.heap.size) := ⟨B6.out.lt⟩
  have hv2s : Fact (wb.heap.size ≤ v2.heap.size) := ⟨KW.out.size⟩
  have y0 := (B5.out.keep W7.out trivial).cell 0 _ rfl
  have y1 := (B5.out.keep W7.out trivial).cell 1 _ rfl
  have y2 := (B5.out.keep W7.out trivial).cell 2 _ rfl
  go_region_held3 (fun w' => w'.cell? ⟨w.heap.size + 1, 0, none⟩ = some (.int .i64 k) ∧ w'.cell? ⟨w.heap.size + 1, 1, none⟩ = some (.slice A b.length c) ∧ w'.cell? ⟨w.heap.size + 1, 2, none⟩ = some (.slice none 0 0)) (go_keep)
    (first
      | (go_at_call 199; refine (own199 W.drew G k A c b HB7.out HS.out).mono ?_; rintro e v3 ⟨A3, c3, rfl, hby, hk⟩; have W8 := Fact.mk (W7.out.trans hk); have D8 := Fact.mk (D7.out.keep hk trivial); have S8 := Fact.mk (S7.out.keep hk); have HB8 := Fact.mk hby; have y0 := (B5.out.keep W8.out trivial).cell 0 _ rfl; have y1 := (B5.out.keep W8.out trivial).cell 1 _ rfl; have y2 := (B5.out.keep W8.out trivial).cell 2 _ rfl; clear hk hby; dsimp only)
      | (go_at_call 200; refine (put200_x _ All v2.heap.size A1 c1 cw Aw k A3 b.length c3 D8.out S8.out).mono ?_; rintro e v4 ⟨rfl, g, cc, hd9, hkid, hg, hk⟩; have W9 := Fact.mk (W8.out.then_ hk fun i hi _ => by have := hv2s.out; show i ≠ v2.heap.size; omega); have D9 := Fact.mk hd9; have KID := Fact.mk hkid; have HG := Fact.mk hg; have HB9 := Fact.mk ((HB8.out.mono (H := fun i => i ≠ v2.heap.size ∧ v2.heap.size < i) fun i _ hi => by have := HWS.out; simp at hi; omega).keep (hk.mono fun i h => h.1)); have y0 := (B5.out.keep W9.out trivial).cell 0 _ rfl; have y1 := (B5.out.keep W9.out trivial).cell 1 _ rfl; have y2 := (B5.out.keep W9.out trivial).cell 2 _ rfl; clear hk hkid hg hd9; dsimp only))
  all_goals
    have n0 := D9.out.cell 0 _ rfl
    have n1 := D9.out.cell 1 _ rfl
    have n2 := D9.out.cell 2 _ rfl
    clear y0 y1 y2 hmin
    go_wp2_with (first
      | (go_at_call 29; go_must (refine (right29 _ ⟨⟨#[]⟩, _, _, _, _, _, _, _⟩ _ _ (rightN_dir _ _ _ _ _ _ _ _ _ _ _ _ _ _ _ KID.out nameOk_x HK.out hlo hhi)).mono ?_); rintro e v5 ⟨rfl, hk⟩; have W10 := Fact.mk (W9.out.trans hk); have b6 := B6.out.keep W10.out trivial; have HB6 := Fact.mk b6; have hd := D9.out.keep hk trivial; have n0 := hd.cell 0 _ rfl; have n1 := hd.cell 1 _ rfl; have n2 := hd.cell 2 _ rfl; have p0 := b6.cell 0 _ rfl; have p1 := b6.cell 1 _ rfl; have p2 := b6.cell 2 _ rfl; have q0 := b6.free 0; have q1 := b6.free 1; have q2 := b6.free 2; have KID10 := Fact.mk (KID.out.keep hk trivial); have HB10 := Fact.mk (HB9.out.keep hk.all); clear hk hd b6))
    refine bodyPost_ret (results_58_tmp rfl _ _ (w.heap.size + 1 + 1) _ _ _ rfl (HB6.out.set3 _ _ _)) rfl ?_
    have e1 := hwbs.out
    have e2 := hv2s.out
    have e3 := HWS.out
    have e4 : v3.heap.size ≤ g := HG.out
    have e5 : v2.heap.size < v3.heap.size := D8.out.lt
    have hK : Keep (fun i => i ≠ w.heap.size + 1 + 1) v5 (set3 v5 (w.heap.size + 1 + 1) (.int .i64 4) (.slice A1 0 c1) (.slice (some ⟨g, 0, none⟩) 1 cc)) := (Keep.refl _ _).set3 _ (.inr fun h => h rfl) _ _ _
    exact ⟨A1, c1, g, cc, A3, c3, rfl, KID10.out.keep hK (by show g ≠ _; omega), (HB10.out.mono (H := fun i => i ≠ w.heap.size + 1 + 1 ∧ w.heap.size ≤ i) fun i _ h => ⟨by omega, by omega⟩).set3 _ (fun i h => h.1) _ _ _ |>.mono fun i _ h => h.2, by omega,
      (KB.out.trans W10.out).set3 _ (.inl (by omega)) _ _ _⟩
end Go.Proofs.YtddmbdigdnmfgaaGreatDoor

namespace Go.Proofs.YtddmbdigdnmfgaaGreatDoor
open Go.RowKit
set_option maxHeartbeats 400000
set_option maxRecDepth 100000

theorem must111 (w : World) : Calls Tryz.prog 111 #[.bool true] w fun e w' => e = .returned (.tuple #[]) ∧ w = w' := by
  go_enter Tryz.func111, Tryz.ntmps111
  go_wp2
  go_end0
  exact ⟨rfl, rfl⟩
/-- A builder's block: what is used, the fuel, the pile, the operations, where it stands, and the rest. -/
def BlkB (w : World) (p : Nat) (used fuel : Nat) (pv ov : Value) (at_ : Nat) (rest : List Value) : Prop := Blk w p ([.int .i64 used, .int .i64 fuel, pv, ov, .int .i64 at_] ++ rest) 143
theorem spend112 (w : World) (p used fuel n at_ : Nat) (pv ov : Value) (rest : List Value) (h : BlkB w p used fuel pv ov at_ rest) (hs : Small (used + n)) (hle : used + n ≤ fuel) :
    Calls Tryz.prog 112 #[.pointer (some ⟨p, 0, none⟩), .int .i64 n] w fun e w' => e = .returned (.tuple #[]) ∧ BlkB w' p (used + n) fuel pv ov at_ rest ∧ Keep (fun i => i ≠ p) w w' := by
  have H := Fact.mk h
  have c0 := Blk.cell h 0 _ rfl
  have c1 := Blk.cell h 1 _ rfl
  have f0 := Blk.free h 0
  have hsm := hs.le
  clear h hs
  have hle' : ¬ (fuel : Int) < (used : Int) + n := by omega
  go_enter Tryz.func112, Tryz.ntmps112
  go_wp2_with fail
  obtain ⟨W1, hW1⟩ : ∃ W, W = w.setCell ⟨p, 0, none⟩ (.int .i64 ((used : Int) + n)) := ⟨_, rfl⟩
  rw [← hW1]
  have H1 : Fact (BlkB W1 p (used + n) fuel pv ov at_ rest) := ⟨hW1 ▸ Blk.set H.out 0 _⟩
  have K1 : Fact (Keep (fun i => i ≠ p) w W1) := ⟨hW1 ▸ (Keep.refl _ w).setCell (p := ⟨p, 0, none⟩) (.inr fun h => h rfl) _⟩
  clear hW1 c0 c1 f0 H
  have c0 : W1.cell? ⟨p, 0, none⟩ = some (.int .i64 ((used : Int) + n)) := Blk.cell H1.out 0 _ rfl
  have c1 := Blk.cell H1.out 1 _ rfl
  have f0 := Blk.free H1.out 0
  go_quiet (fail)
  go_wp2
  go_end0
  exact ⟨rfl, Blk.drewN H1.out _, K1.out.drewN _⟩
def outOfFuel : Ending := .panicked [{ v := .iface 28 (.int .i64 11), recovered := false }]
/-- What comes when the fuel is out: all that there was is used. -/
theorem spend112_out (w : World) (p used fuel n at_ : Nat) (pv ov : Value) (rest : List Value) (h : BlkB w p used fuel pv ov at_ rest) (hs : Small (used + n)) (hgt : fuel < used + n) :
    Calls Tryz.prog 112 #[.pointer (some ⟨p, 0, none⟩), .int .i64 n] w fun e w' => e = outOfFuel ∧ BlkB w' p fuel fuel pv ov at_ rest ∧ Keep (fun i => i ≠ p) w w' := by
  have H := Fact.mk h
  have c0 := Blk.cell h 0 _ rfl
  have c1 := Blk.cell h 1 _ rfl
  have f0 := Blk.free h 0
  have hsm := hs.le
  clear h hs
  have hle' : (fuel : Int) < (used : Int) + n := by omega
  go_enter Tryz.func112, Tryz.ntmps112
  go_wp2_with fail
  obtain ⟨W1, hW1⟩ : ∃ W, W = w.setCell ⟨p, 0, none⟩ (.int .i64 ((used : Int) + n)) := ⟨_, rfl⟩
  rw [← hW1]
  have H1 : Fact (BlkB W1 p (used + n) fuel pv ov at_ rest) := ⟨hW1 ▸ Blk.set H.out 0 _⟩
  have K1 : Fact (Keep (fun i => i ≠ p) w W1) := ⟨hW1 ▸ (Keep.refl _ w).setCell (p := ⟨p, 0, none⟩) (.inr fun h => h rfl) _⟩
  clear hW1 c0 c1 f0 H
  have c0 : W1.cell? ⟨p, 0, none⟩ = some (.int .i64 ((used : Int) + n)) := Blk.cell H1.out 0 _ rfl
  have c1 := Blk.cell H1.out 1 _ rfl
  have f0 := Blk.free H1.out 0
  go_quiet (fail)
  go_wp2
  refine ⟨rfl, rfl, Blk.set (Blk.drewN H1.out nq) 0 _, (K1.out.drewN _).setCell (p := ⟨p, 0, none⟩) (.inr fun h => h rfl) _⟩
end Go.Proofs.YtddmbdigdnmfgaaGreatDoor

namespace Go.Proofs.YtddmbdigdnmfgaaGreatDoor
open Go.RowKit
set_option maxHeartbeats 800000
set_option maxRecDepth 100000

theorem T131 : SlTy Tryz.prog 131 58 3 56 := by
  obtain ⟨i, hi, h0, h1, h2⟩ := info_parts (P := Tryz.prog) (e := 58) (z := .agg #[.int .i64 0, .slice none 0 0, .slice none 0 0]) (size := 3) (bytes := 56) (by kernel_rfl)
  exact ⟨Tryz.underlying131, by decide, i, _, hi, h0, h1, h2, rfl⟩
/-- What Put leaves in the builder: one tree more on the pile. -/
def PutOn (w : World) (p used fuel cnt at_ n : Nat) (pv ov : Value) (rest xs ys : List Value) (base : Nat) (e : Ending) (w' : World) : Prop :=
  e = .returned (.tuple #[]) ∧ ∃ A c, BlkB w' p (used + cnt) fuel (.slice A (n + 1) c) ov at_ rest ∧ w'.ownsRow base 58 3 (.slice A (n + 1) c) (n + 1) (xs ++ ys) ∧ Moved w pv (.slice A (n + 1) c) ∧ Keep (Mine p pv) w w'

theorem put171_ok (w : World) (p used fuel cnt deep at_ n base pc nc : Nat) (PA NA : Option Addr) (ov : Value) (rest xs : List Value) (x : XN) (h : BlkB w p used fuel (.slice PA n pc) ov at_ rest)
    (hrow : w.ownsRow base 58 3 (.slice PA n pc) n xs) (hbase : base ≤ w.heap.size) (hpb : p < base) (hn : n < 16) (hnode : Sl w (fun i => i ≠ p) 3 (.slice NA 1 nc) 1 [.int .i64 x.k, .slice x.A x.m x.c, .slice x.B x.q x.cq])
    (hR : RightN w x cnt deep) (hS : StepOk w x) (hsm : Small (used + cnt)) (hf : used + cnt ≤ fuel) :
    Calls Tryz.prog 171 #[.pointer (some ⟨p, 0, none⟩), .slice NA 1 nc] w (PutOn w p used fuel cnt at_ n (.slice PA n pc) ov rest xs [.int .i64 x.k, .slice x.A x.m x.c, .slice x.B x.q x.cq] base) := by
  obtain ⟨_, A', c', he, -, hcw, hcm, hA, hx⟩ := id hnode
  injection he with e1 _ e3
  subst e1 e3
  obtain ⟨nb, no, rfl, hg, hat⟩ := hx (by simp)
  have n0 := hat 0 (by simp)
  have n1 := hat 1 (by simp)
  have n2 := hat 2 (by simp)
  simp only [List.getD_cons_zero, List.getD_cons_succ, Nat.add_zero] at n0 n1 n2
  have HN := Fact.mk hnode
  have HR := Fact.mk hR
  have HS := Fact.mk hS
  have H := Fact.mk h
  have HROW := Fact.mk hrow
  have c2 := Blk.cell h 2 _ rfl
  have hlt := h.lt
  have hsml := hsm.le
  have hn' : (n : Int) + 1 ≤ 16 := by omega
  have HSM := Fact.mk hsm
  have hpv : (Value.slice PA n pc).ownBlock ≠ some p := fun e => by have := (hrow.lt p e).1; omega
  have HPV := Fact.mk hpv
  clear hpv h hrow hnode hR hS hg hat hx hA hcm hsm
  go_enter Tryz.func171, Tryz.ntmps171
  go_wp2
  refine wp_loop_rounds 2 ?_
  rw [rounds_succ]
  go_wp2_with (first
    | (go_at_call 29; go_must (refine (right29 _ x cnt deep (HR.out.keep ((Keep.refl _ w).alloc _))).mono ?_); rintro e w1 ⟨rfl, hk⟩; have K1 := Fact.mk (((Keep.refl All w).alloc _).trans hk); have B1 := (Blk.new w [.int .i64 x.k, .slice x.A x.m x.c, .slice x.B x.q x.cq] 58).keep hk trivial; have t0 := B1.cell 0 _ rfl; have t1 := B1.cell 1 _ rfl; have t2 := B1.cell 2 _ rfl; clear hk B1)
    | (go_at_call 111; go_must (refine (must111 _).mono ?_); rintro e v ⟨rfl, rfl⟩)
    | (go_at_call 204; go_must (refine (count204 _ x cnt deep (HR.out.keep K1.out) (HS.out.keep K1.out)).mono ?_); rintro e w2 ⟨⟨bts, rfl⟩, hk⟩; have K2 := Fact.mk (K1.out.trans hk); have H2 := Fact.mk (Blk.keep H.out K2.out trivial); have c2' := Blk.cell H2.out 2 _ rfl; clear hk))
  rw [rounds_succ]
  have hs2 := Fact.mk K2.out.size
  go_wp2_with (first
    | (go_at_call 111; go_must (refine (must111 _).mono ?_); rintro e v ⟨rfl, rfl⟩)
    | (go_at_call 112; go_must (refine (spend112 _ p used fuel cnt at_ _ ov rest H2.out HSM.out hf).mono ?_); rintro e w3 ⟨rfl, h3, hk⟩; have H3 := Fact.mk h3; have K3 := Fact.mk (K2.out.all.trans hk); have c3 := Blk.cell h3 2 _ rfl; have HROW3 := Fact.mk (own_keep HROW.out K3.out (fun g hg => by have := (HROW.out.lt g hg).1; show g ≠ p; omega)); have HN3 := Fact.mk (HN.out.keep K3.out); clear hk h3)
    | (at_builtin; go_must (refine wpList_ap rfl _ _ 131 58 3 56 base n 1 HROW3.out HN3.out rfl T131 rfl rfl (Fits.of (n := n) (m := 1) (Small.of (by omega)) 56 (by decide)) (Nat.le_trans hbase K3.out.size) ?_); intro v' w4 ho hg hb; have HO := Fact.mk ho; have HB := Fact.mk hb; have H4 := Fact.mk (Blk.grown H3.out hg HPV.out); have K4 := Fact.mk ((K3.out.mono (H := Mine p (.slice PA n pc)) fun i h => h.1).grown hg (fun k e => .inr fun h => h.2 e)); obtain ⟨A4, c4, rfl⟩ := own_form ho; have f4 := Blk.free H4.out 2; have c4' := Blk.cell H4.out 2 _ rfl; clear ho hg hb))
  go_end0
  have hne : ∀ g, (Value.slice A4 (n + 1) c4).ownBlock = some g → g ≠ p := fun g hg => by
    have := (HO.out.lt g hg).1
    omega
  refine ⟨rfl, A4, c4, Blk.set H4.out 2 _, own_keep HO.out (G := fun i => i ≠ p) ((Keep.refl _ _).setCell (p := ⟨p, 2, none⟩) (.inr fun h => h rfl) _) hne, fun g hg => ?_, K4.out.setCell (p := ⟨p, 2, none⟩) (.inr fun h => h.1 rfl) _⟩
  rcases HB.out with h1 | h1
  · exact .inl (h1 ▸ hg)
  · rw [h1] at hg
    cases hg
    have := K3.out.size
    exact .inr (by omega)
theorem put171_out (w : World) (p used fuel cnt deep at_ n base pc nc : Nat) (PA NA : Option Addr) (ov : Value) (rest xs : List Value) (x : XN) (h : BlkB w p used fuel (.slice PA n pc) ov at_ rest)
    (hrow : w.ownsRow base 58 3 (.slice PA n pc) n xs) (_hbase : base ≤ w.heap.size) (hpb : p < base) (hn : n < 16) (hnode : Sl w (fun i => i ≠ p) 3 (.slice NA 1 nc) 1 [.int .i64 x.k, .slice x.A x.m x.c, .slice x.B x.q x.cq])
    (hR : RightN w x cnt deep) (hS : StepOk w x) (hsm : Small (used + cnt)) (hf : fuel < used + cnt) :
    Calls Tryz.prog 171 #[.pointer (some ⟨p, 0, none⟩), .slice NA 1 nc] w fun e w' => e = outOfFuel ∧ BlkB w' p fuel fuel (.slice PA n pc) ov at_ rest ∧ Keep (fun i => i ≠ p) w w' := by
  obtain ⟨_, A', c', he, -, hcw, hcm, hA, hx⟩ := id hnode
  injection he with e1 _ e3
  subst e1 e3
  obtain ⟨nb, no, rfl, hg, hat⟩ := hx (by simp)
  have n0 := hat 0 (by simp)
  have n1 := hat 1 (by simp)
  have n2 := hat 2 (by simp)
  simp only [List.getD_cons_zero, List.getD_cons_succ, Nat.add_zero] at n0 n1 n2
  have HN := Fact.mk hnode
  have HR := Fact.mk hR
  have HS := Fact.mk hS
  have H := Fact.mk h
  have HROW := Fact.mk hrow
  have c2 := Blk.cell h 2 _ rfl
  have hlt := h.lt
  have hsml := hsm.le
  have hn' : (n : Int) + 1 ≤ 16 := by omega
  have HSM := Fact.mk hsm
  have hpv : (Value.slice PA n pc).ownBlock ≠ some p := fun e => by have := (hrow.lt p e).1; omega
  have HPV := Fact.mk hpv
  clear hpv h hrow hnode hR hS hg hat hx hA hcm hsm
  go_enter Tryz.func171, Tryz.ntmps171
  go_wp2
  refine wp_loop_rounds 2 ?_
  rw [rounds_succ]
  go_wp2_with (first
    | (go_at_call 29; go_must (refine (right29 _ x cnt deep (HR.out.keep ((Keep.refl _ w).alloc _))).mono ?_); rintro e w1 ⟨rfl, hk⟩; have K1 := Fact.mk (((Keep.refl All w).alloc _).trans hk); have B1 := (Blk.new w [.int .i64 x.k, .slice x.A x.m x.c, .slice x.B x.q x.cq] 58).keep hk trivial; have t0 := B1.cell 0 _ rfl; have t1 := B1.cell 1 _ rfl; have t2 := B1.cell 2 _ rfl; clear hk B1)
    | (go_at_call 111; go_must (refine (must111 _).mono ?_); rintro e v ⟨rfl, rfl⟩)
    | (go_at_call 204; go_must (refine (count204 _ x cnt deep (HR.out.keep K1.out) (HS.out.keep K1.out)).mono ?_); rintro e w2 ⟨⟨bts, rfl⟩, hk⟩; have K2 := Fact.mk (K1.out.trans hk); have H2 := Fact.mk (Blk.keep H.out K2.out trivial); have c2' := Blk.cell H2.out 2 _ rfl; clear hk))
  rw [rounds_succ]
  have hs2 := Fact.mk K2.out.size
  go_wp2_with (first
    | (go_at_call 111; go_must (refine (must111 _).mono ?_); rintro e v ⟨rfl, rfl⟩)
    | (go_at_call 112; go_must (refine (spend112_out _ p used fuel cnt at_ _ ov rest H2.out HSM.out hf).mono ?_); rintro e w3 ⟨he, h3, hk⟩; unfold outOfFuel at he; subst he; have H3 := Fact.mk h3; have K3 := Fact.mk (K2.out.all.trans hk); clear hk h3))
  exact ⟨rfl, rfl, H3.out, K3.out⟩
end Go.Proofs.YtddmbdigdnmfgaaGreatDoor

namespace Go.Proofs.YtddmbdigdnmfgaaGreatDoor
open Go.RowKit
set_option maxHeartbeats 800000
set_option maxRecDepth 100000

/-- A leaf goes onto the pile: its bytes are in memory of their own. -/
def LeafOn (w : World) (p used fuel at_ n : Nat) (pv ov : Value) (rest xs : List Value) (k : Int) (b : List UInt8) (base : Nat) (e : Ending) (w' : World) : Prop :=
  e = .returned (.tuple #[]) ∧ ∃ A c A1 c1, BlkB w' p (used + 1) fuel (.slice A (n + 1) c) ov at_ rest ∧ w'.ownsRow base 58 3 (.slice A (n + 1) c) (n + 1) (xs ++ [.int .i64 k, .slice A1 b.length c1, .slice none 0 0]) ∧
    By w' (fun i => w.heap.size ≤ i ∧ (Value.slice A (n + 1) c).ownBlock ≠ some i) (.slice A1 b.length c1) b ∧ Moved w pv (.slice A (n + 1) c) ∧ Keep (Mine p pv) w w'
theorem leaf168 (w : World) (G : Nat → Prop) (p used fuel at_ n base pc : Nat) (PA : Option Addr) (ov : Value) (rest xs : List Value) (k : Int) (lo hi : Nat) (kd : Bool) (b : List UInt8) (A0 : Option Addr) (c0 : Nat)
    (h : BlkB w p used fuel (.slice PA n pc) ov at_ rest) (hrow : w.ownsRow base 58 3 (.slice PA n pc) n xs) (hbase : base ≤ w.heap.size) (hpb : p < base) (hn : n < 16)
    (hb : By w G (.slice A0 b.length c0) b) (hs : Small b.length) (hk : KindIs k lo hi kd) (hlo : lo ≤ b.length) (hhi : b.length ≤ hi) (hsm : Small (used + 1)) (hf : used + 1 ≤ fuel) :
    Calls Tryz.prog 168 #[.pointer (some ⟨p, 0, none⟩), .int .i64 k, .slice A0 b.length c0] w (LeafOn w p used fuel at_ n (.slice PA n pc) ov rest xs k b base) := by
  have H := Fact.mk h
  have HROW := Fact.mk hrow
  have HB := Fact.mk hb
  have HS := Fact.mk hs
  have HK := Fact.mk hk
  have HSM := Fact.mk hsm
  have HPB := Fact.mk hpb
  have hlt := h.lt
  clear h hrow hb hs hk hsm
  go_enter Tryz.func168, Tryz.ntmps168
  go_wp2_with (first
    | (go_at_call 72; go_must (refine (clone72 _ _ _ _ HB.out HS.out).mono ?_); rintro e w1 ⟨A1, c1, rfl, hby, hk⟩; have HB1 := Fact.mk (hby.mono (H := fun i => w.heap.size ≤ i ∧ i < w1.heap.size) fun i h1 h2 => ⟨h2, h1⟩); have K1 := Fact.mk hk; clear hby hk)
    | (go_at_call 171; go_must (refine (put171_ok _ p used fuel 1 1 at_ n base pc 1 PA (some ⟨w1.heap.size, 0, none⟩) ov rest xs ⟨⟨#[]⟩, k, A1, b.length, c1, none, 0, 0⟩ ((Blk.keep H.out K1.out trivial).alloc _) (own_keep HROW.out (K1.out.alloc _) fun _ _ => trivial) (Nat.le_trans hbase (K1.out.alloc _).size) HPB.out hn
        ((Sl.new w1 58 3 1 [.int .i64 k, .slice A1 b.length c1, .slice none 0 0] rfl (by decide) (by simp [Value.oneCell'])).mono fun i _ hi => by have := K1.out.size; show i ≠ p; omega) (rightN_leaf _ _ _ _ _ _ _ _ _ HK.out hlo hhi) (stepOk_leaf _ _ _ _ _ _) HSM.out hf).mono ?_); rintro e w2 ⟨rfl, A, c, h2, hr2, hm2, hk2⟩; have H2 := Fact.mk h2; have R2 := Fact.mk hr2; have M2 := Fact.mk hm2; have K2 := Fact.mk hk2; clear h2 hr2 hm2 hk2))
  go_end0
  have hpo : ∀ g, (Value.slice PA n pc).ownBlock = some g → g < w.heap.size := fun g hg => (HROW.out.lt g hg).2
  have hs1 := K1.out.size
  refine ⟨rfl, A, c, A1, c1, H2.out, R2.out, ?_, fun g hg => ?_, ?_⟩
  · refine ((HB1.out.keep ((Keep.refl _ _).alloc _)).mono (H := fun i => Mine p (.slice PA n pc) i ∧ w.heap.size ≤ i ∧ i < w1.heap.size) fun i _ h => ⟨⟨by omega, fun e => by have := hpo i e; omega⟩, h⟩).keep (K2.out.mono fun i h => h.1) |>.mono fun i _ h => ⟨h.2.1, fun e => ?_⟩
    rcases M2.out i e with h1 | h1
    · have := hpo i h1; omega
    · simp at h1; omega
  · rcases M2.out g hg with h1 | h1
    · exact .inl h1
    · simp at h1; exact .inr (by omega)
  · exact (K1.out.all.alloc _).trans K2.out
end Go.Proofs.YtddmbdigdnmfgaaGreatDoor

namespace Go.Proofs.YtddmbdigdnmfgaaGreatDoor
open Go.RowKit
set_option maxHeartbeats 800000
set_option maxRecDepth 100000

theorem row_shrink {w : World} {base g n m c sz : Nat} {e : TypeId} {xs ys : List Value} (h : w.ownsRow base e sz (.slice (some ⟨g, 0, none⟩) (n + m) c) (n + m) (xs ++ ys)) (hx : xs.length = n * sz) : w.ownsRow base e sz (.slice (some ⟨g, 0, none⟩) n c) n xs := by
  rcases h.2 with ⟨e1, _⟩ | ⟨g', cap, cur, e1, hb, hh, hn, hc, hs, ht⟩
  · cases e1
  · injection e1 with e2 _ e3
    injection e2 with e4
    injection e4 with e5
    subst e5 e3
    refine ⟨hx, .inr ⟨g, c, cur, rfl, hb, hh, by omega, hc, hs, ?_⟩⟩
    have := congrArg (List.take (n * sz)) ht
    rw [List.take_take, List.take_left' hx] at this
    rwa [Nat.min_eq_left (Nat.mul_le_mul_right _ (by omega))] at this

/-- The topmost tree is taken. -/
def Took (w : World) (p used fuel at_ n g pc : Nat) (ov : Value) (rest xs : List Value) (x : XN) (base : Nat) (e : Ending) (w' : World) : Prop :=
  e = .returned (.agg #[.int .i64 x.k, .slice x.A x.m x.c, .slice x.B x.q x.cq]) ∧ BlkB w' p used fuel (.slice (some ⟨g, 0, none⟩) n pc) ov at_ rest ∧ w'.ownsRow base 58 3 (.slice (some ⟨g, 0, none⟩) n pc) n xs ∧ Keep (fun i => i ≠ p) w w'
theorem take162 (w : World) (p used fuel at_ n g pc base : Nat) (ov : Value) (rest xs : List Value) (x : XN) (h : BlkB w p used fuel (.slice (some ⟨g, 0, none⟩) (n + 1) pc) ov at_ rest)
    (hrow : w.ownsRow base 58 3 (.slice (some ⟨g, 0, none⟩) (n + 1) pc) (n + 1) (xs ++ [.int .i64 x.k, .slice x.A x.m x.c, .slice x.B x.q x.cq])) (hx : xs.length = n * 3) (hn : n < 16) (hpb : p < base) :
    Calls Tryz.prog 162 #[.pointer (some ⟨p, 0, none⟩)] w (Took w p used fuel at_ n g pc ov rest xs x base) := by
  have H := Fact.mk h
  have HROW := Fact.mk hrow
  have c2 := Blk.cell h 2 _ rfl
  have f2 := Blk.free h 2
  have hlt := h.lt
  have hpc : n + 1 ≤ pc := by
    rcases hrow.2 with ⟨e1, _⟩ | ⟨g', cap, cur, e1, hb, hh, hn, hc, hs, ht⟩
    · cases e1
    · injection e1 with _ _ e3; omega
  have hg := (hrow.lt g rfl).2
  have hgp : g ≠ p := by have := (hrow.lt g rfl).1; omega
  have q0 : w.cell? ⟨g, n * 3, none⟩ = some (.int .i64 x.k) := (hrow.cellAt (n * 3) (by omega)).trans (by rw [List.getElem?_append_right (by omega), hx]; simp)
  have q1 : w.cell? ⟨g, n * 3 + 1, none⟩ = some (.slice x.A x.m x.c) := (hrow.cellAt (n * 3 + 1) (by omega)).trans (by rw [List.getElem?_append_right (by omega), hx]; simp)
  have q2 : w.cell? ⟨g, n * 3 + 2, none⟩ = some (.slice x.B x.q x.cq) := (hrow.cellAt (n * 3 + 2) (by omega)).trans (by rw [List.getElem?_append_right (by omega), hx]; simp)
  clear h hrow
  go_enter Tryz.func162, Tryz.ntmps162
  go_wp2_with (go_at_call 111; go_must (refine (must111 _).mono ?_); rintro e v ⟨rfl, rfl⟩)
  have hB := Blk.new (w.setCell ⟨p, 2, none⟩ (.slice (some ⟨g, 0, none⟩) n pc)) [.int .i64 x.k, .slice x.A x.m x.c, .slice x.B x.q x.cq] 58
  rw [show (w.setCell ⟨p, 2, none⟩ (.slice (some ⟨g, 0, none⟩) n pc)).heap.size = w.heap.size from by simp [World.setCell]] at hB
  refine bodyPost_ret (results_58 rfl _ _ w.heap.size _ _ _ rfl (hB.alloc _)) rfl ?_
  have hK : Keep (fun i => i ≠ p) w (w.setCell ⟨p, 2, none⟩ (.slice (some ⟨g, 0, none⟩) n pc)) := (Keep.refl _ w).setCell (p := ⟨p, 2, none⟩) (.inr fun h => h rfl) _
  exact ⟨rfl, ((Blk.set H.out 2 _).alloc _).alloc _, own_keep (row_shrink HROW.out hx) ((hK.alloc _).alloc _) (fun g' hg' => by cases hg'; exact hgp), (hK.alloc _).alloc _⟩
end Go.Proofs.YtddmbdigdnmfgaaGreatDoor

namespace Go.Proofs.YtddmbdigdnmfgaaGreatDoor
open Go.RowKit
set_option maxHeartbeats 800000
set_option maxRecDepth 100000

theorem own116_4 (w : World) (p used fuel at_ n base pc : Nat) (PA : Option Addr) (ov : Value) (rest xs : List Value) (on om : Int) (tA : Option Addr) (tc : Nat)
    (h : BlkB w p used fuel (.slice PA n pc) ov at_ rest) (hrow : w.ownsRow base 58 3 (.slice PA n pc) n xs) (hbase : base ≤ w.heap.size) (hpb : p < base) (hn : n < 16) (hsm : Small (used + 1)) (hf : used + 1 ≤ fuel) :
    Calls Tryz.prog 116 #[.pointer (some ⟨p, 0, none⟩), .agg #[.int .i64 4, .int .i64 on, .int .i64 om, .slice tA 0 tc]] w (PutOn w p used fuel 1 at_ n (.slice PA n pc) ov rest xs [.int .i64 4, .slice none 0 0, .slice none 0 0] base) := by
  have H := Fact.mk h
  have HROW := Fact.mk hrow
  have HSM := Fact.mk hsm
  have HPB := Fact.mk hpb
  have hlt := h.lt
  clear h hrow hsm
  go_enter Tryz.func116, Tryz.ntmps116
  go_wp2_with (first
    | (go_at_call 171; go_must (refine (put171_ok _ p used fuel 1 1 at_ n base pc 1 PA (some ⟨w.heap.size + 1, 0, none⟩) ov rest xs ⟨⟨#[]⟩, 4, none, 0, 0, none, 0, 0⟩ ((Blk.alloc H.out _).alloc _) (own_keep HROW.out (((Keep.refl All w).alloc _).alloc _) fun _ _ => trivial) (Nat.le_trans hbase (((Keep.refl All w).alloc _).alloc _).size) HPB.out hn
        ((by have := Sl.new (w.alloc (.cells #[.int .i64 4, .int .i64 on, .int .i64 om, .slice tA 0 tc] 25)) 58 3 1 [.int .i64 4, .slice none 0 0, .slice none 0 0] rfl (by decide) (by simp [Value.oneCell']); rw [World.size_alloc] at this; exact this.mono fun i _ hi => by show i ≠ p; omega)) (rightN_leaf _ _ _ _ _ _ _ _ _ kind4 (Nat.le_refl _) (Nat.le_refl _)) (stepOk_leaf _ _ _ _ _ _) HSM.out hf).mono ?_); rintro e w2 ⟨rfl, A, c, h2, hr2, hm2, hk2⟩; have H2 := Fact.mk h2; have R2 := Fact.mk hr2; have M2 := Fact.mk hm2; have K2 := Fact.mk hk2; clear h2 hr2 hm2 hk2))
  go_end0
  exact ⟨rfl, A, c, H2.out, R2.out, (M2.out.of_alloc).of_alloc, (((Keep.refl _ w).alloc _).alloc _).trans K2.out⟩
theorem own116_1 (w : World) (G : Nat → Prop) (p used fuel at_ n base pc : Nat) (PA : Option Addr) (ov : Value) (rest xs : List Value) (on om : Int) (b : List UInt8) (A0 : Option Addr) (c0 : Nat)
    (h : BlkB w p used fuel (.slice PA n pc) ov at_ rest) (hrow : w.ownsRow base 58 3 (.slice PA n pc) n xs) (hbase : base ≤ w.heap.size) (hpb : p < base) (hn : n < 16)
    (hb : By w G (.slice A0 b.length c0) b) (hs : Small b.length) (hhi : b.length ≤ 2048) (hsm : Small (used + 1)) (hf : used + 1 ≤ fuel) :
    Calls Tryz.prog 116 #[.pointer (some ⟨p, 0, none⟩), .agg #[.int .i64 1, .int .i64 on, .int .i64 om, .slice A0 b.length c0]] w (LeafOn w p used fuel at_ n (.slice PA n pc) ov rest xs 1 b base) := by
  have H := Fact.mk h
  have HROW := Fact.mk hrow
  have HB := Fact.mk hb
  have HS := Fact.mk hs
  have HSM := Fact.mk hsm
  have HPB := Fact.mk hpb
  have hlt := h.lt
  clear h hrow hsm hb hs
  go_enter Tryz.func116, Tryz.ntmps116
  go_wp2_with fail
  have hpo : ∀ g, (Value.slice PA n pc).ownBlock = some g → g < w.heap.size := fun g hg => (HROW.out.lt g hg).2
  have HPO := Fact.mk hpo
  have BX := Fact.mk (Blk.new w [.int .i64 1, .int .i64 on, .int .i64 om, .slice A0 b.length c0] 25)
  clear hpo
  obtain ⟨W, hW⟩ : ∃ W, W = w.alloc (.cells #[.int .i64 1, .int .i64 on, .int .i64 om, .slice A0 b.length c0] 25) := ⟨_, rfl⟩
  have KW : Fact (Keep All w W.drew) := ⟨hW ▸ ((Keep.refl All w).alloc _).drew⟩
  have HWS : Fact (W.drew.heap.size = w.heap.size + 1) := ⟨by rw [hW]; simp⟩
  rw [← hW]
  have BX1 : Fact (Blk W.drew w.heap.size [.int .i64 1, .int .i64 on, .int .i64 om, .slice A0 b.length c0] 25) := ⟨hW ▸ BX.out.drew⟩
  clear hW BX
  have y3 : W.cell? ⟨w.heap.size, 3, none⟩ = some (.slice A0 b.length c0) := BX1.out.cell 3 _ rfl
  go_region_held3 (fun w' => w'.cell? ⟨w.heap.size, 3, none⟩ = some (.slice A0 b.length c0)) (go_keep)
    (first
      | (go_at_call 168; refine (leaf168 W.drew G p used fuel at_ n base pc PA ov rest xs 1 0 2048 false b A0 c0 (Blk.keep H.out KW.out trivial) (own_keep HROW.out KW.out fun _ _ => trivial) (Nat.le_trans hbase KW.out.size) HPB.out hn (HB.out.keep KW.out.all) HS.out kind1 (Nat.zero_le _) hhi HSM.out hf).mono ?_; rintro e w2 ⟨rfl, A, c, A1, c1, h2, hr2, hb2, hm2, hk2⟩; have H2 := Fact.mk h2; have R2 := Fact.mk hr2; have B2 := Fact.mk hb2; have M2 := Fact.mk hm2; have K2 := Fact.mk hk2; have y3 : w2.cell? ⟨w.heap.size, 3, none⟩ = some (.slice A0 b.length c0) := (BX1.out.keep hk2 ⟨by show w.heap.size ≠ p; omega, fun e => by have := HPO.out _ e; omega⟩).cell 3 _ rfl; clear h2 hr2 hb2 hm2 hk2; dsimp only))
  go_wp2
  go_end0
  have e1 := HWS.out
  exact ⟨rfl, A, c, A1, c1, H2.out, R2.out, B2.out.mono fun i _ h => ⟨by omega, h.2⟩, fun g hg => (M2.out g hg).imp id fun h => by omega, KW.out.all.trans K2.out⟩
end Go.Proofs.YtddmbdigdnmfgaaGreatDoor
