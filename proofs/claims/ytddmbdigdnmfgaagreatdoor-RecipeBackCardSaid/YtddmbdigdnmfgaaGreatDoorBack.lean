/- RecipeBack, walked: it is true, and what was there stays. -/
import Derived.Test.YtddmbdigdnmfgaaGreatDoorAwake
import Derived.Test.YtddmbdigdnmfgaaGreatDoorSame
namespace Go.Proofs.YtddmbdigdnmfgaaGreatDoor
open Go.RowKit
set_option maxHeartbeats 1000000
set_option maxRecDepth 100000

def Truly (w : World) (e : Ending) (w' : World) : Prop := e = .returned (.bool true) ∧ Keep All w w'
def sumText (l : List POp) : Nat := (l.map fun o => o.text.length).sum
theorem sumText_take {l : List POp} {k : Nat} (hk : k < l.length) : sumText (l.take (k + 1)) = sumText (l.take k) + l[k].text.length := by
  rw [List.take_succ_eq_append_getElem hk]
  simp only [sumText, List.map_append, List.sum_append, List.map_cons, List.map_nil, List.sum_cons, List.sum_nil, Nat.add_zero]
theorem sumText_le {l : List POp} {k : Nat} : sumText (l.take k) ≤ sumText l := by
  conv => rhs; rw [← List.take_append_drop k l]
  simp only [sumText, List.map_append, List.sum_append]
  omega
theorem opsSize_sum (l : List POp) : opsSize l = sumText l + 32 * l.length := by
  induction l with
  | nil => rfl
  | cons o l ih => simp only [opsSize, sumText, List.map_cons, List.sum_cons, List.length_cons] at *; omega
theorem get13_long (w : World) (A : Option Addr) (c : Nat) (b : List UInt8) (hb : 1000 < b.length) :
    Calls Tryz.prog 13 #[.slice A b.length c] w (GetPost w b) := by
  have HG : Fact (getOps b = .bad 3) := ⟨by rw [getOps, if_pos hb]⟩
  go_enter Tryz.func13, Tryz.ntmps13
  go_wp2
  go_ret2
  exact ⟨by rw [HG.out]; rfl, Keep.refl _ _⟩
theorem get13_any (w : World) (G : Nat → Prop) (v : Value) (b : List UInt8) (h : By w G v b) : Calls Tryz.prog 13 #[v] w (GetPost w b) := by
  by_cases hb : b.length ≤ 1000
  · exact get13 w G v b h hb
  · obtain ⟨A, c, rfl, -⟩ := h.open
    exact get13_long w A c b (by omega)
theorem putOps_bad {l : List POp} {x : Int} (h : putOps l = .bad x) : x = 2 ∨ x = 3 := by
  unfold putOps at h
  split at h
  · split at h
    · cases h; exact .inr rfl
    · cases h
  · cases h; exact .inl rfl
theorem getOps_bad {b : List UInt8} {x : Int} (h : getOps b = .bad x) : x = 3 ∨ x = 4 := by
  unfold getOps at h
  split at h
  · cases h; exact .inl rfl
  · split at h
    · cases h
    · cases h; exact .inr rfl
/-- What Put has answered. -/
def PutIs (w : World) (base : Nat) (l : List POp) (A : Option Addr) (n c : Nat) (x : Int) : Prop :=
  (∃ b, putOps l = .ok b ∧ x = 0 ∧ n = b.length ∧ By w (fun i => base ≤ i) (.slice A n c) b) ∨ (putOps l = .bad x ∧ ¬ x = 0 ∧ A = none ∧ n = 0 ∧ c = 0)
theorem PutPost.form {w w' : World} {l : List POp} {e : Ending} (h : PutPost w l e w') : ∃ A n c x, e = .returned (.tuple #[.slice A n c, .int .i64 x]) ∧ Fact (PutIs w' w.heap.size l A n c x) ∧ Fact (Keep All w w') := by
  obtain ⟨h1, h2⟩ := h
  cases hp : putOps l with
  | ok b =>
    rw [hp] at h1
    obtain ⟨A, c, rfl, hb⟩ := h1
    exact ⟨A, _, c, 0, rfl, ⟨.inl ⟨b, hp, rfl, rfl, hb⟩⟩, ⟨h2⟩⟩
  | bad y =>
    rw [hp] at h1
    have := putOps_bad hp
    exact ⟨none, 0, 0, y, h1, ⟨.inr ⟨hp, by omega, rfl, rfl, rfl⟩⟩, ⟨h2⟩⟩
theorem PutIs.keep {w w' : World} {base : Nat} {l : List POp} {A : Option Addr} {n c : Nat} {x : Int} (h : PutIs w base l A n c x) (k : Keep All w w') : PutIs w' base l A n c x := by
  rcases h with ⟨b, h1, h2, h3, h4⟩ | h
  · exact .inl ⟨b, h1, h2, h3, h4.keep k.all⟩
  · exact .inr h
/-- What Get has answered. -/
def GetIs (w : World) (base : Nat) (b : List UInt8) (A : Option Addr) (n c : Nat) (x : Int) : Prop :=
  (∃ l, getOps b = .ok l ∧ x = 0 ∧ n = l.length ∧ OpsR w (fun i => base ≤ i) (.slice A n c) l) ∨ (getOps b = .bad x ∧ ¬ x = 0 ∧ A = none ∧ n = 0 ∧ c = 0)
theorem GetPost.form {w w' : World} {b : List UInt8} {e : Ending} (h : GetPost w b e w') : ∃ A n c x, e = .returned (.tuple #[.slice A n c, .int .i64 x]) ∧ Fact (GetIs w' w.heap.size b A n c x) ∧ Fact (Keep All w w') := by
  obtain ⟨h1, h2⟩ := h
  cases hp : getOps b with
  | ok l =>
    rw [hp] at h1
    obtain ⟨A, c, rfl, hb⟩ := h1
    exact ⟨A, _, c, 0, rfl, ⟨.inl ⟨l, hp, rfl, rfl, hb⟩⟩, ⟨h2⟩⟩
  | bad y =>
    rw [hp] at h1
    have := getOps_bad hp
    exact ⟨none, 0, 0, y, h1, ⟨.inr ⟨hp, by omega, rfl, rfl, rfl⟩⟩, ⟨h2⟩⟩
theorem OpsR.nil (w : World) (G : Nat → Prop) : OpsR w G (.slice none 0 0) [] := ⟨[], Sl.nil w G 4, rfl⟩
/-- What was put: how much room it takes. -/
theorem putOps_size {l : List POp} {b : List UInt8} (h : putOps l = .ok b) : b.length ≤ 1000 := by
  obtain ⟨_, h2, rfl⟩ := putOps_ok.1 h
  exact h2
theorem own_empty (w : World) (e : TypeId) (sz : Nat) : (w.alloc (.cells #[] e)).ownsRow w.heap.size e sz (.slice (some ⟨w.heap.size, 0, none⟩) 0 0) 0 [] :=
  ⟨by simp, .inr ⟨w.heap.size, 0, #[], rfl, Nat.le_refl _, by show (w.heap.push _)[w.heap.size]? = _; simp, Nat.le_refl _, by unfold maxLen; omega, by simp, by simp⟩⟩
theorem putOps_two {l m : List POp} {x y : List UInt8} (h1 : putOps l = .ok x) (h2 : putOps m = .ok y) : putOps (l ++ m) = if x.length + y.length ≤ 1000 then .ok (x ++ y) else .bad 3 := by
  obtain ⟨a1, a2, rfl⟩ := putOps_ok.1 h1
  obtain ⟨b1, b2, rfl⟩ := putOps_ok.1 h2
  unfold putOps
  rw [if_pos (by rw [List.all_append, a1, b1]; rfl), opsBytes_append, List.length_append]
  by_cases h : (opsBytes l).length + (opsBytes m).length ≤ 1000
  · rw [if_pos h, if_neg (by omega)]
  · rw [if_neg h, if_pos (by omega)]
theorem putOps_none {l m : List POp} {x : List UInt8} {e : Int} (h1 : putOps l = .ok x) (h2 : putOps m = .bad e) : ∃ f, putOps (l ++ m) = .bad f := by
  obtain ⟨a1, a2, rfl⟩ := putOps_ok.1 h1
  unfold putOps at *
  by_cases hm : m.all opRight = true
  · rw [if_pos hm] at h2
    by_cases hl : (opsBytes m).length > 1000
    · rw [if_pos (by rw [List.all_append, a1, hm]; rfl), opsBytes_append, List.length_append, if_pos (by omega)]
      exact ⟨_, rfl⟩
    · rw [if_neg hl] at h2
      cases h2
  · rw [if_neg (by rw [List.all_append, a1]; simpa using hm)]
    exact ⟨_, rfl⟩
theorem opsSize_append (l m : List POp) : opsSize (l ++ m) = opsSize l + opsSize m := by simp [opsSize]
theorem ops_own {w : World} {base : Nat} {v : Value} {l m : List POp} {xl xm : List Value} (ho : w.ownsRow base 25 4 v (0 + l.length + m.length) ([] ++ xl ++ xm)) (r1 : Reps (OpRep w All) l xl) (r2 : Reps (OpRep w All) m xm) : OpsR w All v (l ++ m) := by
  rw [Nat.zero_add, ← List.length_append, List.nil_append] at ho
  have hr := Reps.append r1 r2
  exact ⟨xl ++ xm, (Sl.of_own ho (hr.all1 OpRep.one)).mono fun _ _ _ => trivial, hr⟩
theorem by_own {w : World} {base n m : Nat} {v : Value} {x y : List UInt8} (ho : w.ownsRow base 5 1 v (0 + n + m) ([] ++ x.map u8v ++ y.map u8v)) : By w All v (x ++ y) := by
  rw [List.nil_append, ← List.map_append] at ho
  exact (By.of_own ho).mono fun _ _ _ => trivial
theorem opBytes_ge {o : POp} (h : OpRight o) : o.text.length + 1 ≤ (opBytes o).length := by
  unfold opBytes
  have hp := numLen_pos o.kind.toNat
  have hq := numLen_pos o.text.length
  by_cases ht : hasText o.kind = true
  · rw [if_pos ht]
    simp only [List.length_append, numBytes_len]
    omega
  · have : o.text.length = 0 := by
      rcases h.2.2.1 with h0 | h0
      · exact h0
      · exact absurd h0 ht
    rw [if_neg ht]
    simp only [List.length_append, numBytes_len]
    omega
theorem opsBytes_ge : ∀ (l : List POp), l.all opRight = true → l.length ≤ (opsBytes l).length ∧ sumText l ≤ (opsBytes l).length
  | [], _ => ⟨Nat.le_refl _, Nat.le_refl _⟩
  | o :: l, h => by
    simp only [List.all_cons, Bool.and_eq_true] at h
    have h1 := opBytes_ge (by simpa [opRight] using h.1 : OpRight o)
    have h2 := opsBytes_ge l h.2
    simp only [opsBytes, sumText, List.flatMap_cons, List.length_append, List.map_cons, List.sum_cons, List.length_cons] at *
    omega
theorem putOps_room {l : List POp} {b : List UInt8} (h : putOps l = .ok b) : l.length ≤ 1000 ∧ opsSize l ≤ 33000 := by
  obtain ⟨h1, h2, rfl⟩ := putOps_ok.1 h
  have := opsBytes_ge l h1
  rw [opsSize_sum]
  omega
/-- An append behind a guard that says yes. -/
theorem wpList_ap_if {P : Program} {w : World} {ops : Array Oper} {rest : List Oper} {o : Oper} {a : Act} {Q : Exit → Act → World → Prop} (hw : Region.wanted o (yielded ops a.tmps) = true) (s x : Operand) (t e : TypeId) (sz bytes base n m : Nat) {v xv : Value} {xs ys : List Value} {G : Nat → Prop}
    (hown : w.ownsRow base e sz v n xs) (hxs : Sl w G sz xv m ys) (ho : o.op = .call { callee := .builtin .append, args := #[s, x], argTypes := #[t, t] }) (hT : SlTy P t e sz bytes) (hs : a.eval s = v) (hx : a.eval x = xv)
    (hf : Fits n m bytes) (hbase : base ≤ w.heap.size)
    (h : ∀ v' w', w'.ownsRow base e sz v' (n + m) (xs ++ ys) → w.grownBy w' v.ownBlock → (v'.ownBlock = v.ownBlock ∨ v'.ownBlock = some w.heap.size) → wpList P ops Q rest (a.put o.dst v') w') : wpList P ops Q (o :: rest) a w :=
  wpList_step fun K hK => by
    rw [if_pos hw]
    exact wp_ap s x t e sz bytes base n m hown hxs ho hT hs hx hf hbase fun v' w' h2 h3 h4 => hK _ _ (h v' w' h2 h3 h4)
theorem back6 (w : World) (v1 v2 v3 : Value) (l m : List POp) (b : List UInt8) (h1 : OpsR w All v1 l) (h2 : OpsR w All v2 m) (h3 : By w All v3 b)
    (r1 : l.length ≤ 140737488351232) (r2 : m.length ≤ 140737488351232) (r3 : b.length ≤ 140737488351232) (t1 : ∀ k (hk : k < l.length), l[k].text.length ≤ 140737488351232) (t2 : ∀ k (hk : k < m.length), m[k].text.length ≤ 140737488351232) :
    Calls Tryz.prog 6 #[v1, v2, v3] w (Truly w) := by
  obtain ⟨A1, c1, rfl, -, -, -, hat1⟩ := h1.open
  obtain ⟨A2, c2, rfl, -, -, -, hat2⟩ := h2.open
  obtain ⟨A3, c3, rfl, -⟩ := h3.open
  have T1 := Fact.mk t1
  have T2 := Fact.mk t2
  have H1 := Fact.mk h1
  have H2 := Fact.mk h2
  have H3 := Fact.mk h3
  have AT1 := Fact.mk hat1
  have AT2 := Fact.mk hat2
  clear h1 h2 h3 hat1 hat2 t1 t2
  go_enter Tryz.func6, Tryz.ntmps6
  go_upto_block 0 with (go_at_call 8; go_must (refine (awake8 _).mono ?_); rintro e w1 ⟨rfl, hk⟩; have K1 := Fact.mk hk; clear hk)
  go_cut [7] (fun x w' => ∃ s : Nat, x = .int .i64 s ∧ (s ≤ 2000 → s = l.length + m.length + b.length + sumText l) ∧ s ≤ 703687441756160 ∧ w1 = w')
  case first =>
    go_wp2
    go_loopg [7, 8] l.length (fun g x i w' => ∃ k s : Nat, k + g = l.length ∧ i = .int .i64 k ∧ x = .int .i64 s ∧ s = l.length + m.length + b.length + sumText (l.take k) ∧ s ≤ 703687441756160 ∧ w1 = w')
    case atStart => exact ⟨0, l.length + m.length + b.length, by omega, rfl, by simp, by simp [sumText], by omega, rfl⟩
    case round =>
      obtain ⟨k, s, hkg, rfl, rfl, hs, hb, rfl⟩ := hrel
      have HG := Fact.mk hkg
      have HS := Fact.mk hs
      clear hkg hs
      by_cases hk : k < l.length
      · by_cases hle : s ≤ 2000
        · obtain ⟨b1, off, Ax, cx, rfl, -, -, -, -, -, d3⟩ := AT1.out k hk
          have d3 := K1.out.cell trivial d3
          have ht := T1.out k hk
          go_wp2
          go_roundg (gk - 1)
          case measure => have := HG.out; omega
          case rel => exact ⟨k + 1, s + l[k].text.length, by have := HG.out; omega, by go_num, by go_num, by rw [sumText_take hk, HS.out]; omega, by omega, rfl⟩
        · go_wp2
          go_meet
          case rel => exact ⟨s, rfl, fun h => by omega, by omega, rfl⟩
      · have hkl : k = l.length := by have := HG.out; omega
        go_wp2
        go_meet
        case rel => exact ⟨s, rfl, fun _ => by have := HS.out; rwa [hkl, List.take_length] at this, by omega, rfl⟩
  case rest =>
    obtain ⟨s, rfl, hs, hb, rfl⟩ := hcut
    have HS := Fact.mk hs
    clear hs
    go_upto_block 2 with (fail)
    go_cut [7] (fun x w' => ∃ s : Nat, x = .int .i64 s ∧ (s ≤ 2000 → s = l.length + m.length + b.length + sumText l + sumText m) ∧ w1 = w')
    case first =>
      go_wp2
      go_loopg [7, 9] m.length (fun g x i w' => ∃ k s : Nat, k + g = m.length ∧ i = .int .i64 k ∧ x = .int .i64 s ∧ (s ≤ 2000 → s = l.length + m.length + b.length + sumText l + sumText (m.take k)) ∧ s ≤ 844424930131968 ∧ w1 = w')
      case atStart => exact ⟨0, s, by omega, rfl, rfl, fun h => by rw [HS.out h]; simp [sumText], by omega, rfl⟩
      case round =>
        obtain ⟨k, s, hkg, rfl, rfl, hs, hb, rfl⟩ := hrel
        have HG := Fact.mk hkg
        have HS := Fact.mk hs
        clear hkg hs
        by_cases hk : k < m.length
        · by_cases hle : s ≤ 2000
          · obtain ⟨b1, off, Ax, cx, rfl, -, -, -, -, -, d3⟩ := AT2.out k hk
            have d3 := K1.out.cell trivial d3
            have ht := T2.out k hk
            go_wp2
            go_roundg (gk - 1)
            case measure => have := HG.out; omega
            case rel => exact ⟨k + 1, s + m[k].text.length, by have := HG.out; omega, by go_num, by go_num, fun _ => by rw [sumText_take hk]; have := HS.out hle; omega, by omega, rfl⟩
          · go_wp2
            go_meet
            case rel => exact ⟨s, rfl, fun h => by omega, rfl⟩
        · have hkl : k = m.length := by have := HG.out; omega
          go_wp2
          go_meet
          case rel => exact ⟨s, rfl, fun h => by have := HS.out h; rwa [hkl, List.take_length] at this, rfl⟩
    case rest =>
      obtain ⟨s, rfl, hs, rfl⟩ := hcut
      by_cases hle : s ≤ 2000
      · have HSUM := Fact.mk (hs hle)
        have Z1 : Fact (Small (opsSize l + 64)) := ⟨Small.of (by rw [opsSize_sum]; have := HSUM.out; omega)⟩
        have Z2 : Fact (Small (opsSize m + 64)) := ⟨Small.of (by rw [opsSize_sum]; have := HSUM.out; omega)⟩
        have hl1 : l.length ≤ 1048576 := by have := HSUM.out; omega
        have hm1 : m.length ≤ 1048576 := by have := HSUM.out; omega
        clear hs r1 r2 r3
        go_upto_region 15 with (go_at_call 10; go_must (refine (put10 _ All _ l (H1.out.keep K1.out) Z1.out hl1).mono ?_); rintro e w2 hp; obtain ⟨B1, n1, d1, x1, rfl, P1, K2⟩ := hp.form; clear hp)
        go_upto_region 16 with (go_at_call 10; go_must (refine (put10 _ All _ m (H2.out.keep (K1.out.trans K2.out)) Z2.out hm1).mono ?_); rintro e w3 hp; obtain ⟨B2, n2, d2, x2, rfl, P2, K3⟩ := hp.form; clear hp)
        have K13 := Fact.mk ((K1.out.trans K2.out).trans K3.out)
        have P1' := Fact.mk (P1.out.keep K3.out)
        clear P1 K2 K3 K1
        go_upto_if 81 with (fail)
        go_cut [] (fun w' => Keep All w w')
        case first =>
          rcases P1'.out with ⟨x, hx, rfl, rfl, hbx⟩ | ⟨-, hx, rfl, rfl, rfl⟩
          · have HX := Fact.mk hx
            have BX := Fact.mk hbx
            clear hx hbx P1'
            go_upto_region 18 with (go_at_call 13; go_must (refine (get13_any _ _ _ x BX.out).mono ?_); rintro e w4 hp; obtain ⟨B3, n3, d3, x3, rfl, G3, K4⟩ := hp.form; clear hp)
            have hg3 := G3.out
            rcases hg3 with ⟨l3, hl3, rfl, rfl, ho3⟩ | ⟨hl3, -⟩
            case inr => rw [getOps_put HX.out] at hl3; cases hl3
            rw [getOps_put HX.out] at hl3
            cases hl3
            have O3 := Fact.mk ho3
            clear ho3 G3
            have HS1 : Fact (Small (l.length + 1)) := ⟨Z1.out.mono (by rw [opsSize_sum]; omega)⟩
            go_upto_region 20 with (first
              | (go_at_call 12; go_must (refine (ops12 _ All _ l (H1.out.keep (K13.out.trans K4.out)) HS1.out).mono ?_); rintro e w5 ⟨B4, d4, rfl, ho4, hk5⟩; have O4 := Fact.mk ho4; have O3' := Fact.mk (O3.out.keep hk5.all); have K5 := Fact.mk ((K13.out.trans K4.out).trans hk5); have K35 := Fact.mk (K4.out.trans hk5); clear ho4 hk5)
              | (go_at_call 16; go_must (refine (sameOps16 _ _ _ _ _ l O3'.out O4.out HS1.out).mono ?_); rintro e w6 ⟨rfl, q, rfl⟩))
            obtain ⟨wq, hwq⟩ : ∃ X, X = w5.drewN q := ⟨_, rfl⟩
            rw [← hwq]
            have KQ : Fact (Keep All w wq) := ⟨hwq ▸ K5.out.drewN q⟩
            have KQ3 : Fact (Keep All w3 wq) := ⟨hwq ▸ K35.out.drewN q⟩
            clear hwq
            obtain ⟨xl, sl, rl⟩ := H1.out.keep KQ.out.all
            obtain ⟨xm, sm, rm⟩ := H2.out.keep KQ.out.all
            have SL := Fact.mk sl
            have SM := Fact.mk sm
            have RL := Fact.mk rl
            have RM := Fact.mk rm
            have HF1 : Fact (Fits 0 l.length 48) := ⟨Fits.of (Small.of (by omega)) 48 (by decide)⟩
            have HF2 : Fact (Fits (0 + l.length) m.length 48) := ⟨Fits.of (Small.of (by have := HSUM.out; omega)) 48 (by decide)⟩
            have Z3 : Fact (Small (opsSize (l ++ m) + 64)) := ⟨Small.of (by rw [opsSize_append, opsSize_sum, opsSize_sum]; have := HSUM.out; omega)⟩
            have hlm : (l ++ m).length ≤ 1048576 := by rw [List.length_append]; have := HSUM.out; omega
            clear sl sm rl rm
            go_upto_region 21 with (first
              | (at_builtin; refine wpList_ap rfl _ _ 22 25 4 48 wq.heap.size (0 + l.length) m.length HO1.out (SM.out.keep KA1.out.all) rfl T22 rfl rfl HF2.out (by have := KA1.out.size; omega) ?_; intro v' w8 ho hg hb; have HO2 := Fact.mk ho; have KA2 := Fact.mk (KA1.out.grown hg (fun j hj => .inl (HO1.out.lt j hj).1)); clear ho hg hb)
              | (at_builtin; refine wpList_ap rfl _ _ 22 25 4 48 wq.heap.size 0 l.length (own_empty wq 25 4) (SL.out.keep ((Keep.refl _ _).alloc _)) rfl T22 rfl rfl HF1.out (alloc_le (Nat.le_refl _)) ?_; intro v' w7 ho hg hb; have HO1 := Fact.mk ho; have KA1 := Fact.mk (((Keep.refl All wq).alloc _).grown hg (fun j hj => .inl ((own_empty wq 25 4).lt j hj).1)); clear ho hg hb)
              | (go_at_call 10; go_must (refine (put10 _ All _ (l ++ m) (ops_own HO2.out (RL.out.mono fun _ _ _ h => h.keep KA2.out.all) (RM.out.mono fun _ _ _ h => h.keep KA2.out.all)) Z3.out hlm).mono ?_); rintro e w9 hp; obtain ⟨B5, n5, d5, x5, rfl, P5, K9⟩ := hp.form; clear hp))
            have K09 := Fact.mk ((KQ.out.trans KA2.out).trans K9.out)
            have K39 := (KQ3.out.trans KA2.out).trans K9.out
            have BX9 := Fact.mk (BX.out.keep K39.all)
            have P29 := Fact.mk (P2.out.keep K39)
            clear K39 KA2 KA1 HO1 HO2 SL SM RL RM KQ KQ3 K5 K35 O3' O4 O3 K4 K13 P2 K9
            rcases P29.out with ⟨y, hy, rfl, rfl, hby⟩ | ⟨hy, hx2, rfl, rfl, rfl⟩
            · have htwo := putOps_two HX.out hy
              have hxl := putOps_size HX.out
              have hyl := putOps_size hy
              by_cases hsum : x.length + y.length ≤ 1000
              · rw [if_pos hsum] at htwo
                rcases P5.out with ⟨z, hz, rfl, rfl, hbz⟩ | ⟨hz, -⟩
                case inr => rw [htwo] at hz; cases hz
                rw [htwo] at hz
                have HZ : Fact (z = x ++ y) := ⟨by cases hz; rfl⟩
                clear hz
                have BY9 := Fact.mk hby
                have BZ9 := Fact.mk hbz
                have F1 : Fact (Fits 0 x.length 1) := ⟨Fits.of (Small.of (by omega)) 1 (by decide)⟩
                have F2 : Fact (Fits (0 + x.length) y.length 1) := ⟨Fits.of (Small.of (by omega)) 1 (by decide)⟩
                have hq : (z == (x ++ y)) = true := by rw [HZ.out]; simp
                clear hby hbz htwo P5 P29 hy
                go_wp2_with (first
                  | (at_builtin; refine wpList_ap_if ?hw _ _ 23 5 1 1 w9.heap.size (0 + x.length) y.length HO1.out (Sl.keep BY9.out KA1.out.all) rfl T23 rfl rfl F2.out HA1.out ?_; (case hw => rfl); intro v' w11 ho hg hb; have BB := Fact.mk (by_own ho); have KA2 := Fact.mk (KA1.out.grown hg (fun j hj => .inl (HO1.out.lt j hj).1)); clear ho hg hb)
                  | (at_builtin; refine wpList_ap_if ?hw _ _ 23 5 1 1 w9.heap.size 0 x.length (own_empty w9 5 1) (Sl.keep BX9.out ((Keep.refl _ _).alloc _)) rfl T23 rfl rfl F1.out (alloc_le (Nat.le_refl _)) ?_; (case hw => rfl); intro v' w10 ho hg hb; have HO1 := Fact.mk ho; have HA1 := Fact.mk (Nat.le_trans (alloc_le (w := w9) (o := .cells #[] 5) (Nat.le_refl _)) hg.size); have KA1 := Fact.mk (((Keep.refl All w9).alloc _).grown hg (fun j hj => .inl ((own_empty w9 5 1).lt j hj).1)); clear ho hg hb)
                  | (go_at_call 15; go_must (refine (sameBytes15 _ _ _ _ _ z (x ++ y) (BZ9.out.keep KA2.out.all) BB.out).mono ?_); rintro e w12 ⟨rfl, q2, rfl⟩; rw [hq]))
                go_meet
                case rel => exact (K09.out.trans KA2.out).drewN _
              · rw [if_neg hsum] at htwo
                rcases P5.out with ⟨z, hz, -⟩ | ⟨hz, hx5, rfl, rfl, rfl⟩
                · rw [htwo] at hz; cases hz
                have q5 : (x5 == 0) = false := by simpa using hx5
                clear hz htwo
                go_wp2
                go_meet
                case rel => exact K09.out
            · obtain ⟨f, hf⟩ := putOps_none HX.out hy
              rcases P5.out with ⟨z, hz, -⟩ | ⟨hz, hx5, rfl, rfl, rfl⟩
              · rw [hf] at hz; cases hz
              have q5 : (x5 == 0) = false := by simpa using hx5
              have q2 : (x2 == 0) = false := by simpa using hx2
              clear hz hf hy
              go_wp2
              go_meet
              case rel => exact K09.out
          · have hx' : (x1 == 0) = false := by simpa using hx
            go_wp2
            go_meet
            case rel => exact K13.out
        case rest =>
          have K4 := Fact.mk hcut
          clear hcut P1' P2 K13
          go_upto_region 24 with (go_at_call 13; go_must (refine (get13_any _ _ _ b (H3.out.keep K4.out)).mono ?_); rintro e w4 hp; obtain ⟨B3, n3, d3, x3, rfl, G3, K5⟩ := hp.form; clear hp)
          rcases G3.out with ⟨l3, hl3, rfl, rfl, ho3⟩ | ⟨hl3, hx3, rfl, rfl, rfl⟩
          · have O3 := Fact.mk ho3
            have hput := putOps_get hl3
            have HPU := Fact.mk hput
            have hl3b := putOps_room hput
            have Z5 : Fact (Small (opsSize l3 + 64)) := ⟨Small.of (by omega)⟩
            have hl3' : l3.length ≤ 1048576 := by omega
            clear hput ho3 hl3 G3 hl3b
            go_upto_region 25 with (go_at_call 10; go_must (refine (put10 _ _ _ l3 O3.out Z5.out hl3').mono ?_); rintro e w5 hp; obtain ⟨B4, n4, d4, x4, rfl, P4, K6⟩ := hp.form; clear hp)
            rcases P4.out with ⟨z, hz, rfl, rfl, hbz⟩ | ⟨hz, -⟩
            case inr => rw [HPU.out] at hz; cases hz
            rw [HPU.out] at hz
            cases hz
            have BZ := Fact.mk hbz
            have hq : (b == b) = true := by simp
            clear hbz P4
            go_wp2_with (go_at_call 15; go_must (refine (sameBytes15 _ _ _ _ _ b b BZ.out (H3.out.keep ((K4.out.trans K5.out).trans K6.out))).mono ?_); rintro e w12 ⟨rfl, q2, rfl⟩; rw [hq])
            go_ret
            exact ⟨rfl, ((K4.out.trans K5.out).trans K6.out).drewN _⟩
          · have q3 : (x3 != 0) = true := by simpa using hx3
            clear hl3 G3
            go_upto_region 25 with (go_at_call 10; go_must (refine (put10 _ All _ [] (OpsR.nil _ _) (Small.of (by decide)) (by decide)).mono ?_); rintro e w5 hp; obtain ⟨B4, n4, d4, x4, rfl, P4, K6⟩ := hp.form; clear hp)
            go_wp2
            go_ret
            exact ⟨rfl, (K4.out.trans K5.out).trans K6.out⟩
      · go_wp2
        go_ret
        exact ⟨rfl, K1.out⟩
end Go.Proofs.YtddmbdigdnmfgaaGreatDoor
