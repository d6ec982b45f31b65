/- From how an argument reads as data to what the walks ask of it: trees, paths, inputs. -/
import Derived.Test.YtddmbdigdnmfgaaGreatDoorQOpen
import Derived.Test.YtddmbdigdnmfgaaGreatDoorQGHad
namespace Go.Proofs.YtddmbdigdnmfgaaGreatDoor
open Go.ChangeShapes Go.WideShapes Go.ChangeAt Go.RowKit Go.Deep
set_option maxRecDepth 100000

section
variable {H : Type} {enc : TypeId × Value → H} {w : World} {base : Nat} {sp : Nat → Bool} {held : Bool}
theorem cells71 : Tryz.prog.cellsOf 71 = 4 := by kernel_rfl
theorem cells66 : Tryz.prog.cellsOf 66 = 25 := by kernel_rfl
theorem bytes66 : Tryz.prog.bytesOf 66 = 112 := by kernel_rfl
theorem cells58 : Tryz.prog.cellsOf 58 = 3 := by kernel_rfl
theorem cells55 : Tryz.prog.cellsOf 55 = 1 := by kernel_rfl
theorem cells56 : Tryz.prog.cellsOf 56 = 1 := by kernel_rfl
theorem cells23 : Tryz.prog.cellsOf 23 = 1 := by kernel_rfl
theorem cells9 : Tryz.prog.cellsOf 9 = 1 := by kernel_rfl
theorem cells50 : Tryz.prog.cellsOf 50 = 21 := by kernel_rfl
theorem cells48 : Tryz.prog.cellsOf 48 = 20 := by kernel_rfl
theorem within_string {s : List UInt8} (h : Within (H := H) 9 (.lit (.string s))) : s.length ≤ 140737488351232 := h s.length (show s.length ∈ [s.length] from List.mem_singleton.2 rfl)
theorem size_toList (s : ByteArray) : s.data.toList.length = s.size := by rw [Array.length_toList]; rfl
/-- Kids out of their cells, one by one. -/
theorem repK_of (css : List (List Value)) (ds : List (DataW H)) (hd : ds.length = css.length) (hone : ∀ i (hi : i < css.length), ∃ (s : ByteArray) (n : PNode) (A : Option Addr) (ca : Nat) (B : Option Addr) (d : Nat), css[i] = [.string s, .int .i64 n.kind, .slice A n.bytes.length ca, .slice B n.kids.length d] ∧ RepN w All n (.slice A n.bytes.length ca) (.slice B n.kids.length d) ∧ (Within 71 (ds[i]'(by omega)) → s.size ≤ big ∧ LessN big n)) :
    ∃ l : PKids, l.length = css.length ∧ RepK w All l css.flatten ∧ ((∀ d ∈ ds, Within 71 d) → LessK big l) ∧ ∀ c ∈ css, c.length = 4 ∧ ∀ u ∈ c, u.oneCell' = true := by
  induction css generalizing ds with
  | nil => exact ⟨[], rfl, by simp [RepK], fun _ => by simp [LessK], by simp⟩
  | cons c r ih =>
    match ds, hd with
    | d0 :: ds', hd =>
      obtain ⟨s, n, A, ca, B, d, hc, hr, hw⟩ := hone 0 (by simp)
      obtain ⟨l, h1, h2, h3, h4⟩ := ih ds' (by simpa using hd) fun i hi => by
        have := hone (i + 1) (by simpa using hi)
        simpa using this
      simp only [List.getElem_cons_zero] at hc hw
      subst hc
      refine ⟨(s, n) :: l, by simp [h1], ?_, fun hall => ?_, ?_⟩
      · rw [RepK]
        exact ⟨_, _, _, rfl, hr, h2⟩
      · rw [LessK]
        have := hw (hall d0 List.mem_cons_self)
        exact ⟨this.1, this.2, h3 fun d hd => hall d (List.mem_cons_of_mem _ hd)⟩
      · intro c hc
        rcases List.mem_cons.1 hc with rfl | hc
        · refine ⟨rfl, fun u hu => ?_⟩
          simp only [List.mem_cons, List.not_mem_nil, or_false] at hu
          rcases hu with rfl | rfl | rfl | rfl <;> rfl
        · exact h4 c hc
/-- A tree. -/
theorem node_of_trod : ∀ (z : Nat) {fuel : Nat} {c : List Value} {x : DataW H × List MemPlace}, SizeOf.sizeOf x.1 ≤ z → c.length = 3 → DataW.trod enc Tryz.prog w base sp held fuel 58 c = some x →
    ∃ (n : PNode) (A : Option Addr) (ca : Nat) (B : Option Addr) (d : Nat), c = [.int .i64 n.kind, .slice A n.bytes.length ca, .slice B n.kids.length d] ∧ RepN w All n (.slice A n.bytes.length ca) (.slice B n.kids.length d) ∧ (Within 58 x.1 → LessN big n)
  | 0, fuel, c, x, hz, _, _ => by
    exfalso
    cases hx : x.1 <;> rw [hx] at hz <;> simp at hz <;> omega
  | z + 1, fuel, c, x, hz, hl3, ht => by
    obtain ⟨ys, m, rfl, hy, -, hyl, hf⟩ := DataW.trod_struct Tryz.underlying58 ht
    match c, hl3 with
    | [c0, c1, c2], _ =>
      match ys, hyl with
      | [y0, y1, y2], _ =>
        have f0 : DataW.trod enc Tryz.prog w base sp held m 55 (List.take (Tryz.prog.cellsOf 55) [c0, c1, c2]) = some y0 := hf 0 _ rfl
        have f1 : DataW.trod enc Tryz.prog w base sp held m 23 (List.take (Tryz.prog.cellsOf 23) [c1, c2]) = some y1 := hf 1 _ rfl
        have f2 : DataW.trod enc Tryz.prog w base sp held m 56 (List.take (Tryz.prog.cellsOf 56) [c2]) = some y2 := hf 2 _ rfl
        rw [cells55] at f0
        rw [cells23] at f1
        rw [cells56] at f2
        obtain ⟨k0, e0, -⟩ := DataW.trod_int Tryz.underlying55 f0
        obtain ⟨l, hl, hlw⟩ := by_of_trod (v := c1) f1
        obtain ⟨A, ca, e1, -⟩ := id hl.open
        simp at e0
        subst e0 e1
        rw [Prod.ext_iff] at hy
        dsimp only at hy
        have hz2 : SizeOf.sizeOf y2.1 ≤ z := by
          have h1 := hy.1
          rw [h1] at hz
          simp only [List.map_cons, List.map_nil, DataW.agg.sizeOf_spec, List.cons.sizeOf_spec, List.nil.sizeOf_spec] at hz
          omega
        have hw1 : Within 58 x.1 → Within 23 y1.1 ∧ Within 56 y2.1 := fun hw => by
          rw [hy.1] at hw
          exact ⟨hw.part Tryz.underlying58 (j := 1) rfl rfl, hw.part Tryz.underlying58 (j := 2) rfl rfl⟩
        rcases open_rows Tryz.underlying56 cells71 (by decide) f2 with ⟨hv, hx⟩ | ⟨a, len, cap, n, css, ds, spd, hv, hlc, hm, hn, hd, hx, hlen, hel, hat⟩
        · cases hv
          refine ⟨.mk k0 l [], A, ca, none, 0, rfl, ?_, fun hw => ?_⟩
          · rw [RepN]
            exact ⟨hl, [], Sl.nil _ _ _, by simp [RepK]⟩
          · rw [LessN]
            exact ⟨hlw (hw1 hw).1, by simp [LessK]⟩
        · cases hv
          have hone : ∀ i (hi : i < css.length), ∃ (s : ByteArray) (n : PNode) (A : Option Addr) (ca : Nat) (B : Option Addr) (d : Nat), css[i] = [.string s, .int .i64 n.kind, .slice A n.bytes.length ca, .slice B n.kids.length d] ∧ RepN w All n (.slice A n.bytes.length ca) (.slice B n.kids.length d) ∧ (Within 71 (ds[i]'(by omega)) → s.size ≤ big ∧ LessN big n) := by
            intro i hi
            obtain ⟨p, ht⟩ := hel i css[i] ds[i] (List.getElem?_eq_getElem hi) (List.getElem?_eq_getElem (by omega))
            have hl4 := hlen _ (List.getElem_mem hi)
            have hsz : SizeOf.sizeOf (ds[i]'(by omega)) ≤ z := by
              have h1 : SizeOf.sizeOf (ds[i]'(by omega)) < SizeOf.sizeOf ds := List.sizeOf_lt_of_mem (List.getElem_mem _)
              rw [hx] at hz2
              simp only [DataW.slice.sizeOf_spec] at hz2
              omega
            generalize ds[i] = dd at ht hsz ⊢
            obtain ⟨zs, m2, rfl, hzs, -, hzl, hg⟩ := DataW.trod_struct Tryz.underlying71 ht
            generalize css[i] = cc at *
            match cc, hl4 with
            | [b0, b1, b2, b3], _ =>
              match zs, hzl with
              | [z0, z1], _ =>
                have g0 : DataW.trod enc Tryz.prog w base sp held m2 9 (List.take (Tryz.prog.cellsOf 9) [b0, b1, b2, b3]) = some z0 := hg 0 _ rfl
                have g1 : DataW.trod enc Tryz.prog w base sp held m2 58 (List.take (Tryz.prog.cellsOf 58) [b1, b2, b3]) = some z1 := hg 1 _ rfl
                rw [cells9] at g0
                rw [cells58] at g1
                obtain ⟨s, es, es2, -⟩ := DataW.trod_string Tryz.underlying9 g0
                simp at es
                subst es
                simp only [Prod.mk.injEq] at hzs
                have hsz1 : SizeOf.sizeOf z1.1 ≤ z := by
                  have h1 := hzs.1
                  rw [h1] at hsz
                  simp only [List.map_cons, List.map_nil, DataW.agg.sizeOf_spec, List.cons.sizeOf_spec, List.nil.sizeOf_spec] at hsz
                  omega
                obtain ⟨nd, A', ca', B', d', hc', hr', hw'⟩ := node_of_trod z hsz1 rfl g1
                simp only [List.take_succ_cons, List.take_nil] at hc'
                refine ⟨s, nd, A', ca', B', d', by rw [← hc'], hr', fun hw => ?_⟩
                rw [hzs.1] at hw
                have i0 : Within 9 z0.1 := hw.part Tryz.underlying71 (j := 0) rfl rfl
                rw [es2] at i0
                refine ⟨?_, hw' (hw.part Tryz.underlying71 (j := 1) rfl rfl)⟩
                have := within_string i0
                rw [size_toList] at this
                exact this
          obtain ⟨kids, k1, k2, k3, k4⟩ := repK_of css ds (by omega) hone
          have hsl := sl_of_rows hlc hm hn hlen (fun c hc => (k4 c hc).2) hat
          have e : len = kids.length := by omega
          subst e
          refine ⟨.mk k0 l kids, A, ca, some a, cap, rfl, ?_, fun hw => ?_⟩
          · rw [RepN]
            exact ⟨hl, _, hsl, k2⟩
          · rw [LessN]
            refine ⟨hlw (hw1 hw).1, k3 ?_⟩
            have := (hw1 hw).2
            rw [hx] at this
            exact (Within.elem Tryz.underlying56 this).1
/-- A path's cells. -/
theorem path_of_trod {fuel : Nat} {c : List Value} {x : DataW H × List MemPlace} (hl : c.length = 21) (ht : DataW.trod enc Tryz.prog w base sp held fuel 50 c = some x) : ∃ (bs : List UInt8) (nm : ByteArray), bs.length = 20 ∧ c = pathCells bs nm := by
  obtain ⟨ys, m, rfl, hy, -, hyl, hf⟩ := DataW.trod_struct Tryz.underlying50 ht
  match ys, hyl with
  | [y0, y1], _ =>
    have f0 : DataW.trod enc Tryz.prog w base sp held m 48 (List.take (Tryz.prog.cellsOf 48) (c.drop 0)) = some y0 := hf 0 _ rfl
    have f1 : DataW.trod enc Tryz.prog w base sp held m 9 (List.take (Tryz.prog.cellsOf 9) (c.drop 20)) = some y1 := hf 1 _ rfl
    rw [cells48, List.drop_zero] at f0
    rw [cells9] at f1
    obtain ⟨nm, en, -⟩ := DataW.trod_string Tryz.underlying9 f1
    obtain ⟨zs, m2, rfl, hz, -, hzl, hg⟩ := DataW.trod_array Tryz.underlying48 f0
    have hone : ∀ i, i < 20 → ∃ u : UInt8, c[i]? = some (u8v u) := by
      intro i hi
      have h := hg i hi
      rw [cells5, Nat.mul_one] at h
      have hzi : zs[i]? = some (zs[i]'(by omega)) := List.getElem?_eq_getElem (by omega)
      rw [hzi] at h
      obtain ⟨k, e1, e2, hk⟩ := DataW.trod_int Tryz.underlying5 h
      have hb := bounds_u8 hk
      refine ⟨UInt8.ofNat k.toNat, ?_⟩
      have h0 : (List.take 1 (List.drop i (List.take 20 c)))[0]? = some (.int .u8 k) := by rw [e1]; rfl
      rw [List.getElem?_take_of_lt (by omega), List.getElem?_drop, Nat.add_zero, List.getElem?_take_of_lt hi] at h0
      rw [h0]
      simp only [u8v, UInt8.toNat_ofNat']
      rw [Nat.mod_eq_of_lt (by omega), Int.toNat_of_nonneg hb.1]
    obtain ⟨f, hf'⟩ := choose_lt (n := 20) (p := fun i u => c[i]? = some (u8v u)) hone
    refine ⟨(List.range 20).map f, nm, by simp, ?_⟩
    unfold pathCells
    apply List.ext_getElem?
    intro i
    by_cases hi : i < 20
    · rw [hf' i hi, List.getElem?_append_left (by simpa using hi)]
      simp [hi]
    · rw [List.getElem?_append_right (by simp; omega)]
      by_cases h20 : i = 20
      · subst h20
        have h0 : (List.take 1 (List.drop 20 c))[0]? = some (.string nm) := by rw [en]; rfl
        rw [List.getElem?_take_of_lt (by omega), List.getElem?_drop, Nat.add_zero] at h0
        rw [h0]
        simp
      · rw [List.getElem?_eq_none (by omega), List.getElem?_eq_none (by simp; omega)]
/-- Inputs out of their cells, one by one. -/
theorem repI_of (css : List (List Value)) (ds : List (DataW H)) (hd : ds.length = css.length) (hone : ∀ i (hi : i < css.length), ∃ (p : PInN) (A : Option Addr) (ca : Nat) (B : Option Addr) (d : Nat), css[i] = inCells p.name p.bs p.nm p.x.kind (.slice A p.x.bytes.length ca) (.slice B p.x.kids.length d) ∧ p.bs.length = 20 ∧ RepN w All p.x (.slice A p.x.bytes.length ca) (.slice B p.x.kids.length d) ∧ (Within 66 (ds[i]'(by omega)) → p.name.size ≤ big ∧ LessN big p.x)) :
    ∃ l : List PInN, l.length = css.length ∧ RepI w All l css.flatten ∧ ((∀ d ∈ ds, Within 66 d) → ∀ k (hk : k < l.length), l[k].name.size ≤ big ∧ LessN big l[k].x) ∧ ∀ c ∈ css, ∀ u ∈ c, u.oneCell' = true := by
  induction css generalizing ds with
  | nil => exact ⟨[], rfl, by simp [RepI], fun _ k hk => absurd hk (by simp), by simp⟩
  | cons c r ih =>
    match ds, hd with
    | d0 :: ds', hd =>
      obtain ⟨p, A, ca, B, d, hc, hb, hr, hw⟩ := hone 0 (by simp)
      obtain ⟨l, h1, h2, h3, h4⟩ := ih ds' (by simpa using hd) fun i hi => by
        have := hone (i + 1) (by simpa using hi)
        simpa using this
      simp only [List.getElem_cons_zero] at hc hw
      subst hc
      refine ⟨p :: l, by simp [h1], ⟨A, ca, B, d, _, rfl, hb, hr, h2⟩, fun hall k hk => ?_, ?_⟩
      · cases k with
        | zero => exact hw (hall d0 List.mem_cons_self)
        | succ k => exact h3 (fun d hd => hall d (List.mem_cons_of_mem _ hd)) k (by simpa using hk)
      · intro c hc
        rcases List.mem_cons.1 hc with rfl | hc
        · intro u hu
          simp only [inCells, pathCells, List.mem_cons, List.mem_append, List.not_mem_nil, or_false] at hu
          rcases hu with rfl | (hu | rfl) | rfl | rfl | rfl
          · rfl
          · exact u8v_one _ u hu
          · rfl
          · rfl
          · rfl
          · rfl
        · exact h4 c hc
/-- The inputs. -/
theorem ins_of_trod {fuel : Nat} {v : Value} {x : DataW H × List MemPlace} (h : DataW.trod enc Tryz.prog w base sp held fuel 52 [v] = some x) : ∃ l : List PInN, InsV w All l v ∧ (Within 52 x.1 → l.length * 112 ≤ 140737488351232 ∧ ∀ k (hk : k < l.length), l[k].name.size ≤ big ∧ LessN big l[k].x) := by
  rcases open_rows Tryz.underlying52 cells66 (by decide) h with ⟨hv, hx⟩ | ⟨a, len, cap, n, css, ds, spd, hv, hl, hm, hn, hd, hx, hlen, hel, hat⟩
  · cases hv
    exact ⟨[], ⟨[], Sl.nil _ _ _, rfl⟩, fun _ => ⟨by simp, fun k hk => absurd hk (by simp)⟩⟩
  · cases hv
    have hone : ∀ i (hi : i < css.length), ∃ (p : PInN) (A : Option Addr) (ca : Nat) (B : Option Addr) (d : Nat), css[i] = inCells p.name p.bs p.nm p.x.kind (.slice A p.x.bytes.length ca) (.slice B p.x.kids.length d) ∧ p.bs.length = 20 ∧ RepN w All p.x (.slice A p.x.bytes.length ca) (.slice B p.x.kids.length d) ∧ (Within 66 (ds[i]'(by omega)) → p.name.size ≤ big ∧ LessN big p.x) := by
      intro i hi
      obtain ⟨p, ht⟩ := hel i css[i] ds[i] (List.getElem?_eq_getElem hi) (List.getElem?_eq_getElem (by omega))
      have hl25 := hlen _ (List.getElem_mem hi)
      generalize ds[i] = dd at ht ⊢
      obtain ⟨ys, m, rfl, hy, -, hyl, hf⟩ := DataW.trod_struct Tryz.underlying66 ht
      generalize css[i] = c at *
      match ys, hyl with
      | [y0, y1, y2], _ =>
        have f0 : DataW.trod enc Tryz.prog w base sp held m 9 (List.take (Tryz.prog.cellsOf 9) (c.drop 0)) = some y0 := hf 0 _ rfl
        have f1 : DataW.trod enc Tryz.prog w base sp held m 50 (List.take (Tryz.prog.cellsOf 50) (c.drop 1)) = some y1 := hf 1 _ rfl
        have f2 : DataW.trod enc Tryz.prog w base sp held m 58 (List.take (Tryz.prog.cellsOf 58) (c.drop 22)) = some y2 := hf 2 _ rfl
        rw [cells9, List.drop_zero] at f0
        rw [cells50] at f1
        rw [cells58] at f2
        obtain ⟨s, es, es2, -⟩ := DataW.trod_string Tryz.underlying9 f0
        obtain ⟨bs, nm, hbs, hp⟩ := path_of_trod (by rw [List.length_take, List.length_drop]; omega) f1
        obtain ⟨nd, A, ca, B, d, hnd, hr, hw⟩ := node_of_trod _ (Nat.le_refl _) (by rw [List.length_take, List.length_drop]; omega) f2
        have hc : c = c.take 1 ++ ((c.drop 1).take 21 ++ (c.drop 22).take 3) := by
          have h1 : (c.drop 22).take 3 = c.drop 22 := List.take_of_length_le (by rw [List.length_drop]; omega)
          have h2 : (c.drop 1).take 21 ++ c.drop 22 = c.drop 1 := by
            have := List.take_append_drop 21 (c.drop 1)
            rw [List.drop_drop] at this
            exact this
          rw [h1, h2, List.take_append_drop]
        simp only [Prod.mk.injEq] at hy
        refine ⟨⟨s, bs, nm, nd⟩, A, ca, B, d, ?_, hbs, hr, fun hw' => ?_⟩
        · rw [hc, es, hp, hnd]
          rfl
        · rw [hy.1] at hw'
          have i0 : Within 9 y0.1 := hw'.part Tryz.underlying66 (j := 0) rfl rfl
          rw [es2] at i0
          refine ⟨?_, hw (hw'.part Tryz.underlying66 (j := 2) rfl rfl)⟩
          have := within_string i0
          rw [size_toList] at this
          exact this
    obtain ⟨l, l1, l2, l3, l4⟩ := repI_of css ds (by omega) hone
    have hsl := sl_of_rows hl hm hn hlen (fun c hc => l4 c hc) hat
    have e : len = l.length := by omega
    subst e
    refine ⟨l, ⟨_, hsl, l2⟩, fun hw => ?_⟩
    rw [hx] at hw
    have hw2 := Within.elem Tryz.underlying52 hw
    exact ⟨by have := hw2.2; rw [bytes66] at this; omega, l3 hw2.1⟩
end
end Go.Proofs.YtddmbdigdnmfgaaGreatDoor
