/- The reference's maker: what it holds, its steps. -/
import Derived.Test.YtddmbdigdnmfgaaGreatDoorWords
import Derived.IntWalk
import Derived.Deep.RegionLaw
namespace Go.Proofs.YtddmbdigdnmfgaaGreatDoor
open Go.RowKit
set_option maxHeartbeats 400000
set_option maxRecDepth 100000

/-- The maker at block b: its row v holds l. -/
def RMk (w : World) (b : Nat) (v : Value) (l : List UInt8) (bad : Bool) : Prop := Blk w b [v, .bool bad] 86 ∧ w.ownsRow (b + 1) 5 1 v l.length (l.map u8v)
/-- What a maker's call leaves. -/
def RMade (w : World) (b : Nat) (v : Value) (l : List UInt8) (bad : Bool) (w' : World) : Prop := ∃ v', RMk w' b v' l bad ∧ Keep (Mine b v) w w' ∧ Moved w v v'
theorem RMade.refl {w : World} {b : Nat} {v : Value} {l : List UInt8} {bad : Bool} (h : RMk w b v l bad) : RMade w b v l bad w := ⟨v, h, Keep.refl _ _, Moved.refl _ _⟩
theorem RMade.then_ {w w1 w2 : World} {b : Nat} {v v1 : Value} {l : List UInt8} {bad : Bool} (k : Keep (Mine b v) w w1) (hm : Moved w v v1) (h2 : RMade w1 b v1 l bad w2) : RMade w b v l bad w2 := by
  obtain ⟨v2, h, k2, m2⟩ := h2
  exact ⟨v2, h, k.mine k2 hm, hm.trans m2 k.size⟩
theorem RMk.alloc {w : World} {b : Nat} {v : Value} {l : List UInt8} {bad : Bool} (h : RMk w b v l bad) (o : Obj) : RMk (w.alloc o) b v l bad := ⟨h.1.alloc o, h.2.alloc o⟩
/-- The row's value after an append: stored. -/
theorem RMk.stored {w w1 : World} {b : Nat} {v v1 : Value} {l l1 : List UInt8} {bad : Bool} (h : RMk w b v l bad) (ho : w1.ownsRow (b + 1) 5 1 v1 l1.length (l1.map u8v)) (hg : w.grownBy w1 v.ownBlock) :
    RMk (w1.setCell ⟨b, 0, none⟩ v1) b v1 l1 bad := by
  have hb : v.ownBlock ≠ some b := fun e => by have := (h.2.lt b e).1; omega
  exact ⟨(h.1.grown hg hb).set 0 v1, ownsRow_setCell_below ho (by simp) _⟩
theorem RMk.form {w : World} {b : Nat} {v : Value} {l : List UInt8} {bad : Bool} (h : RMk w b v l bad) : ∃ A c, v = .slice A l.length c := by
  rcases h.2.2 with ⟨rfl, h0⟩ | ⟨g, cap, cur, rfl, _⟩
  · exact ⟨none, 0, by rw [h0]⟩
  · exact ⟨_, cap, rfl⟩

/-- Behind an append onto the maker's row, ahead of its store. -/
def RPushed (w w1 : World) (b : Nat) (v v' : Value) (l : List UInt8) (bad : Bool) : Prop :=
  Blk w1 b [v, .bool bad] 86 ∧ (∃ A c q, v' = .slice A q c) ∧ RMk (w1.setCell ⟨b, 0, none⟩ v') b v' l bad ∧ Keep (Mine b v) w (w1.setCell ⟨b, 0, none⟩ v') ∧ Moved w v v'
theorem RPushed.form {w w1 : World} {b : Nat} {v v' : Value} {l : List UInt8} {bad : Bool} (h : RPushed w w1 b v v' l bad) : ∃ A c q, v' = .slice A q c ∧ True := by
  obtain ⟨A, c, q, e⟩ := h.2.1
  exact ⟨A, c, q, e, trivial⟩
theorem RMk.pushed {w w1 : World} {b m : Nat} {v v' : Value} {l ys : List UInt8} {bad : Bool} (h : RMk w b v l bad) (ho : w1.ownsRow (b + 1) 5 1 v' (l.length + m) (l.map u8v ++ ys.map u8v)) (hg : w.grownBy w1 v.ownBlock)
    (hv : v'.ownBlock = v.ownBlock ∨ v'.ownBlock = some w.heap.size) :
    RPushed w w1 b v v' (l ++ ys) bad := by
  have hb : v.ownBlock ≠ some b := fun e => by have := (h.2.lt b e).1; omega
  have hm : ys.length = m := by have := ho.1; simp at this; omega
  subst hm
  refine ⟨h.1.grown hg hb, (by obtain ⟨A, c, e⟩ := own_form ho; exact ⟨A, c, _, e⟩), RMk.stored h (by rw [List.length_append, List.map_append]; exact ho) hg, (((Keep.refl _ _).grown hg fun k hk => .inr fun hM => hM.2 hk).setCell (.inr (by simp [Mine])) _), fun g hg' => ?_⟩
  rcases hv with hv | hv
  · exact .inl (hv ▸ hg')
  · rw [hv] at hg'; cases hg'; exact .inr (Nat.le_refl _)
/-- Its row's length under a name of its own: the walk would take a sum apart. -/
theorem RMk.form' {w : World} {b : Nat} {v : Value} {l : List UInt8} {bad : Bool} (h : RMk w b v l bad) : ∃ A c q, v = .slice A q c ∧ Fact (q = l.length) := by
  obtain ⟨A, c, rfl⟩ := h.form
  exact ⟨A, c, _, rfl, ⟨rfl⟩⟩

theorem RMk.mine_new {w : World} {b i : Nat} {v : Value} {l : List UInt8} {bad : Bool} (h : RMk w b v l bad) (hi : w.heap.size ≤ i) : Mine b v i := by
  have h1 := h.1.lt
  exact ⟨by omega, fun e => by have := (h.2.lt i e).2; omega⟩

/-- What a kind has: 0 nothing, 1 a text, 2 a number, 3 two. -/
def hasOf (k : Int) : Nat := if hasText k = true then 1 else if numbersOf k = 1 then 2 else if numbersOf k = 2 then 3 else 0
theorem has41 (w : World) (k : Int) : Calls Tryz.prog 41 #[.int .i64 k] w fun e w' => e = .returned (.int .i64 (hasOf k)) ∧ w = w' := by
  by_cases hk : 0 ≤ k ∧ k ≤ 20
  · obtain ⟨n, rfl⟩ := Int.eq_ofNat_of_zero_le hk.1
    have : n = 0 ∨ n = 1 ∨ n = 2 ∨ n = 3 ∨ n = 4 ∨ n = 5 ∨ n = 6 ∨ n = 7 ∨ n = 8 ∨ n = 9 ∨ n = 10 ∨ n = 11 ∨ n = 12 ∨ n = 13 ∨ n = 14 ∨ n = 15 ∨ n = 16 ∨ n = 17 ∨ n = 18 ∨ n = 19 ∨ n = 20 := by omega
    clear hk
    go_enter Tryz.func41, Tryz.ntmps41
    rcases this with rfl | rfl | rfl | rfl | rfl | rfl | rfl | rfl | rfl | rfl | rfl | rfl | rfl | rfl | rfl | rfl | rfl | rfl | rfl | rfl | rfl
    all_goals (go_wp2; go_ret; exact ⟨ret_int (by decide), rfl⟩)
  · have h0 : Fact (hasOf k = 0) := ⟨by
      have h1 : hasText k = false := by simp only [hasText, Bool.or_eq_false_iff, beq_eq_false_iff_ne]; omega
      have h2 : numbersOf k = 0 := by unfold numbersOf; rw [if_neg (by omega), if_neg (by omega)]
      unfold hasOf
      rw [h1, h2]
      rfl⟩
    have a1 : (k == 1) = false := by simp; omega
    have a3 : (k == 3) = false := by simp; omega
    have a5 : (k == 5) = false := by simp; omega
    have a6 : (k == 6) = false := by simp; omega
    have a7 : (k == 7) = false := by simp; omega
    have a8 : (k == 8) = false := by simp; omega
    have a9 : (k == 9) = false := by simp; omega
    have b1 : (k == 12) = false := by simp; omega
    have b2 : (k == 17) = false := by simp; omega
    have b3 : (k == 18) = false := by simp; omega
    have b4 : (k == 20) = false := by simp; omega
    clear hk
    go_enter Tryz.func41, Tryz.ntmps41
    go_wp2
    go_ret
    exact ⟨by rw [h0.out]; rfl, rfl⟩

/-- A number's bytes, in memory of their own. -/
theorem number73 (w : World) (n : Nat) (hn : Six n) : Calls Tryz.prog 73 #[.int .i64 n] w (ClonedO w (numBytes n)) := by
  have H6 := Fact.mk (numLen_six hn)
  have hn' := hn.lt
  clear hn
  go_enter Tryz.func73, Tryz.ntmps73
  go_upto_block 0 with (fail)
  go_cut [0, 3] (fun x v w' => ∃ k : Nat, k < 128 ∧ x = .int .i64 k ∧ ∃ d A q c, v = .slice A q c ∧ numBytes n = d ++ numBytes k ∧ w'.ownsRow w.heap.size 5 1 v d.length (d.map u8v) ∧ Keep All w w')
  case first =>
    go_wp2
    go_loopg [0, 3] n (fun g x v w' => ∃ k : Nat, k = g ∧ k ≤ n ∧ x = .int .i64 k ∧ ∃ d A q c, v = .slice A q c ∧ numBytes n = d ++ numBytes k ∧ w'.ownsRow w.heap.size 5 1 v d.length (d.map u8v) ∧ Keep All w w')
    case atStart => exact ⟨n, rfl, Nat.le_refl _, rfl, [], none, 0, 0, rfl, rfl, World.ownsRow_nil _ _ _ _, Keep.refl _ _⟩
    case round =>
      obtain ⟨k, rfl, hkn, rfl, d, A, q, c, rfl, hd, ho, hkp⟩ := hrel
      have HD := Fact.mk hd
      have HO := Fact.mk ho
      have HK := Fact.mk hkp
      have hdl : Small (d.length + 1) := by
        have := congrArg List.length hd
        rw [List.length_append, numBytes_len, numBytes_len] at this
        have h1 := numLen_pos k
        have h6 := H6.out
        exact Small.of (by omega)
      clear hd ho hkp
      by_cases hk : k < 128
      · go_wp2
        go_meet
        case rel => exact ⟨k, hk, rfl, d, A, q, c, rfl, HD.out, HO.out, HK.out⟩
      · have HN := Fact.mk (numBytes_big hk)
        have HF := Fact.mk (Fits.of (n := d.length) (m := 1) hdl 1 (by decide))
        have hwr : IntKind.u8.wrap ((k : Int) % 128 + 128) = (k : Int) % 128 + 128 := by rw [IntKind.wrap_u8]; omega
        go_wp2_with (at_builtin; go_must (refine wpList_ap rfl _ _ 23 5 1 1 w.heap.size d.length 1 (HO.out.alloc _) (Sl.new wr 5 1 1 [_] rfl (by decide) (by simp [Value.oneCell'])) rfl T23 rfl rfl HF.out (alloc_le HK.out.size) ?_); intro v' w1 ho hg hb; obtain ⟨A', c', rfl⟩ := own_form ho; have HO2 := Fact.mk ho; have HK2 := Fact.mk ((HK.out.alloc _).grown hg fun j hj => .inl (HO.out.lt j hj).1); clear ho hg hb)
        go_roundg (k / 128)
        case measure => omega
        case rel => exact ⟨k / 128, rfl, by omega, by go_num, d ++ [UInt8.ofNat (k % 128 + 128)], _, _, _, rfl, by rw [HD.out, HN.out]; simp, by rw [List.length_append, List.map_append, List.map_cons, u8v_ofNat (show k % 128 + 128 < 256 by omega)]; simpa using HO2.out, HK2.out⟩
  case rest =>
    obtain ⟨k, hk, rfl, d, A, q, c, rfl, hd, ho, hkp⟩ := hcut
    have HD := Fact.mk hd
    have HO := Fact.mk ho
    have HK := Fact.mk hkp
    have hdl : Small (d.length + 1) := by
      have := congrArg List.length hd
      rw [List.length_append, numBytes_len, numBytes_len] at this
      have h1 := numLen_pos k
      have h6 := H6.out
      exact Small.of (by omega)
    clear hd ho hkp
    have HN := Fact.mk (numBytes_small hk)
    have HF := Fact.mk (Fits.of (n := d.length) (m := 1) hdl 1 (by decide))
    have hwr : IntKind.u8.wrap (k : Int) = (k : Int) := by rw [IntKind.wrap_u8]; omega
    go_wp2_with (at_builtin; go_must (refine wpList_ap rfl _ _ 23 5 1 1 w.heap.size d.length 1 (HO.out.alloc _) (Sl.new wc 5 1 1 [_] rfl (by decide) (by simp [Value.oneCell'])) rfl T23 rfl rfl HF.out (alloc_le HK.out.size) ?_); intro v' w1 ho hg hb; obtain ⟨A', c', rfl⟩ := own_form ho; have HO2 := Fact.mk ho; have HK2 := Fact.mk ((HK.out.alloc _).grown hg fun j hj => .inl (HO.out.lt j hj).1); clear ho hg hb)
    go_ret
    refine ClonedO.of (n := d.length + 1) ?_ HK2.out
    rw [HD.out, HN.out, List.map_append, List.map_cons, List.map_nil, u8v_ofNat (show k < 256 by omega)]
    exact HO2.out
end Go.Proofs.YtddmbdigdnmfgaaGreatDoor

/- The reference's maker: Num, Raw, Text, Done; right. -/
namespace Go.Proofs.YtddmbdigdnmfgaaGreatDoor
open Go.RowKit
set_option maxHeartbeats 400000
set_option maxRecDepth 100000

theorem own_push {w : World} {base n m : Nat} {v : Value} {l ys : List UInt8} (h : w.ownsRow base 5 1 v (n + m) (l.map u8v ++ ys.map u8v)) : w.ownsRow base 5 1 v (n + m) ((l ++ ys).map u8v) := by
  rw [List.map_append]; exact h
theorem rnum40 (w : World) (b : Nat) (v : Value) (l : List UInt8) (bad : Bool) (n : Nat) (h : RMk w b v l bad) (hn : n ≤ 1099511627776) (hl : Small (l.length + 8)) :
    Calls Tryz.prog 40 #[.pointer (some ⟨b, 0, none⟩), .int .i64 n] w fun e w' => e = .returned (.tuple #[]) ∧ RMade w b v (l ++ numBytes n) bad w' := by
  obtain ⟨A, c, q, rfl, hq⟩ := h.form'
  have H := Fact.mk h
  have H6 := Fact.mk (show Six n by show n < _; omega)
  have g0 := h.1.cell 0 _ rfl
  have f0 := h.1.free 0
  have hn0 : (0 : Int) ≤ n := by omega
  have hn1 : (n : Int) ≤ 1099511627776 := by omega
  have HF : Fact (Fits l.length (numBytes n).length 1) := ⟨Fits.of (hl.mono (by rw [numBytes_len]; have := numLen_six H6.out; omega)) 1 (by decide)⟩
  have hb := h.1.lt
  clear h hn
  go_enter Tryz.func40, Tryz.ntmps40
  go_wp2_with fail
  go_region_law (first
    | (rw [if_pos (show Region.wanted _ _ = true by simp [Region.wanted])]; refine wp_ap _ _ 23 5 1 1 (b + 1) l.length (numBytes n).length H1.out.2 HB1.out rfl T23 rfl rfl HF.out H1.out.1.lt ?_; intro v' w2 ho hg hbb; have HP := Fact.mk (RMk.pushed H1.out (ys := numBytes n) ho hg hbb); clear ho hg hbb; obtain ⟨A', c', q', rfl, hq'⟩ := HP.out.form; have g1 := HP.out.1.cell 0 _ rfl; have f1 := HP.out.1.free 0)
    | (go_simp; go_at_call 73; refine (number73 _ n H6.out).mono ?_; rintro e w1 ⟨A1, c1, rfl, ho1, hk1⟩; have HB1 := Fact.mk (By.of_own ho1); have h1 : RMk w1 b (.slice A q c) l bad := ⟨H.out.1.drew.keep hk1 trivial, own_keep H.out.2.drew hk1 fun _ _ => trivial⟩; have H1 := Fact.mk h1; have KK := Fact.mk ((Keep.refl All w).drew.trans hk1); have g01 := h1.1.cell 0 _ rfl; have f01 := h1.1.free 0; clear ho1 hk1 h1))
  all_goals
    obtain ⟨hB, _, hmk', hk', hm'⟩ := HP.out
    go_wp2
    go_end0
    exact ⟨rfl, _, hmk', KK.out.all.trans hk', (Moved.refl w _).trans hm' KK.out.size⟩
theorem rraw74 (w : World) (b : Nat) (v : Value) (l t : List UInt8) (x : Value) (bad : Bool) (h : RMk w b v l bad) (hs : By w (Mine b v) x t) (hl : Small (l.length + t.length)) :
    Calls Tryz.prog 74 #[.pointer (some ⟨b, 0, none⟩), x] w fun e w' => e = .returned (.tuple #[]) ∧ RMade w b v (l ++ t) bad w' := by
  obtain ⟨A, c, q, rfl, hq⟩ := h.form'
  have H := Fact.mk h
  have HS := Fact.mk hs
  have g0 := h.1.cell 0 _ rfl
  have f0 := h.1.free 0
  have HF := Fact.mk (Fits.of hl 1 (by decide))
  clear h hs
  go_enter Tryz.func74, Tryz.ntmps74
  go_wp2_with (at_builtin; go_must (refine wpList_ap rfl _ _ 23 5 1 1 (b + 1) l.length t.length H.out.2 HS.out rfl T23 rfl rfl HF.out H.out.1.lt ?_); intro v' w1 ho hg hb; have HP := Fact.mk (RMk.pushed H.out (ys := t) ho hg hb); clear ho hg hb; obtain ⟨A', c', q', rfl, hq'⟩ := HP.out.form; have g1 := HP.out.1.cell 0 _ rfl; have f1 := HP.out.1.free 0)
  obtain ⟨hB, _, hmk', hk', hm'⟩ := HP.out
  go_end0
  exact ⟨rfl, _, hmk', hk', hm'⟩
theorem rtext42 (w : World) (b : Nat) (v : Value) (l t : List UInt8) (x : Value) (bad : Bool) (h : RMk w b v l bad) (hs : By w (Mine b v) x t) (hl : Small (l.length + t.length + 16)) :
    Calls Tryz.prog 42 #[.pointer (some ⟨b, 0, none⟩), x] w fun e w' => e = .returned (.tuple #[]) ∧ RMade w b v (l ++ (numBytes t.length ++ t)) bad w' := by
  obtain ⟨Ax, cx, rfl, -⟩ := hs.open
  have H := Fact.mk h
  have HS := Fact.mk hs
  have hle := hl.le
  have hn1 : (t.length : Int) ≤ 1048576 := by omega
  have HT : Fact (t.length ≤ 1099511627776) := ⟨by omega⟩
  have HL1 : Small (l.length + 8) := hl.mono (by omega)
  have HL2 : Fact (Small ((l ++ numBytes t.length).length + t.length)) := ⟨hl.mono (by
    have := numLen_six (show Six t.length by show t.length < _; omega)
    rw [List.length_append, numBytes_len]; omega)⟩
  have HE : Fact (l ++ numBytes t.length ++ t = l ++ (numBytes t.length ++ t)) := ⟨by simp⟩
  clear h hs hle
  go_enter Tryz.func42, Tryz.ntmps42
  go_wp2_with (first
    | (go_at_call 40; go_must (refine (rnum40 _ _ _ _ _ t.length H.out HT.out HL1).mono ?_); rintro e w2 ⟨rfl, v2, hmk2, hkp2, hmv2⟩; have HMK2 := Fact.mk hmk2; have HX2 := Fact.mk (HS.out.made hkp2 hmv2); have KP := Fact.mk hkp2; have MV := Fact.mk hmv2; clear hmk2 hkp2 hmv2)
    | (go_at_call 74; go_must (refine (rraw74 _ _ _ _ _ _ _ HMK2.out HX2.out ?_).mono ?_); exact HL2.out; rintro e w3 ⟨rfl, hm3⟩; have HM3 := Fact.mk hm3; clear hm3))
  go_end0
  exact ⟨rfl, by rw [← HE.out]; exact RMade.then_ KP.out MV.out HM3.out⟩
theorem rdone43 (w : World) (b : Nat) (v : Value) (l : List UInt8) (h : RMk w b v l false) (hl : Small l.length) :
    Calls Tryz.prog 43 #[.pointer (some ⟨b, 0, none⟩)] w fun e w' => ∃ A c, e = .returned (.tuple #[.slice A l.length c, .int .i64 0]) ∧ w'.ownsRow w.heap.size 5 1 (.slice A l.length c) l.length (l.map u8v) ∧ Keep All w w' := by
  obtain ⟨A, c, q, rfl, hq⟩ := h.form'
  have g0 := h.1.cell 0 _ rfl
  have g1 := h.1.cell 1 _ rfl
  have HB := Fact.mk (By.of_own h.2)
  have HF : Fact (Fits 0 l.length 1) := ⟨Fits.of (by simpa using hl) 1 (by decide)⟩
  have g0a := ((Keep.refl All w).alloc (.cells #[] 5)).cell trivial g0
  clear h
  go_enter Tryz.func43, Tryz.ntmps43
  go_wp2_with (at_builtin; go_must (refine wpList_ap rfl _ _ 23 5 1 1 w.heap.size 0 l.length (own_empty w 5 1) (Sl.keep HB.out ((Keep.refl _ _).alloc _)) rfl T23 rfl rfl HF.out (alloc_le (Nat.le_refl _)) ?_); intro v' w1 ho hg hb; obtain ⟨A', c', rfl⟩ := own_form ho; have HO := Fact.mk ho; have HK := Fact.mk (((Keep.refl All w).alloc _).grown hg fun j hj => .inl ((own_empty w 5 1).lt j hj).1); clear ho hg hb)
  go_ret2
  exact ⟨A', c', rfl, by simpa using HO.out, HK.out⟩
theorem hasOf_one (k : Int) : (hasOf k = 1 ↔ hasText k = true) ∧ (2 ≤ hasOf k ↔ 0 < numbersOf k) ∧ (hasOf k = 3 ↔ 1 < numbersOf k) := by
  unfold hasOf
  have hn := numbersOf_le k
  by_cases ht : hasText k = true
  · have h0 : numbersOf k = 0 := by
      simp only [hasText, Bool.or_eq_true, beq_iff_eq] at ht
      unfold numbersOf
      rw [if_neg (by omega), if_neg (by omega)]
    rw [if_pos ht, h0]
    simp [ht]
  · rw [if_neg ht]
    rcases hn with h | h | h <;> rw [h] <;> simp [ht]
theorem rright39 (w : World) (o : POp) (A : Option Addr) (c : Nat) :
    Calls Tryz.prog 39 #[.agg #[.int .i64 o.kind, .int .i64 o.n, .int .i64 o.m, .slice A o.text.length c]] w (RightPost w (opRight o)) := by
  obtain ⟨k, n, m, t⟩ := o
  have HR0 : opRight ⟨k, n, m, t⟩ = true ↔ OpRight ⟨k, n, m, t⟩ := by rw [opRight, decide_eq_true_eq]
  show Calls Tryz.prog 39 #[.agg #[.int .i64 k, .int .i64 n, .int .i64 m, .slice A t.length c]] w _
  obtain ⟨h1, h2, h3⟩ := hasOf_one k
  obtain ⟨q, hq⟩ : ∃ q, q = hasOf k := ⟨_, rfl⟩
  obtain ⟨r, hr⟩ : ∃ r, r = opRight ⟨k, n, m, t⟩ := ⟨_, rfl⟩
  rw [← hq] at h1 h2 h3
  rw [← hr] at HR0 ⊢
  have HQ := Fact.mk hq
  have HR : Fact (r = true ↔ 1 ≤ k ∧ k ≤ 20 ∧ (q = 1 ∨ t.length = 0) ∧ t.length ≤ 1000 ∧ 0 ≤ n ∧ 0 ≤ m ∧ n ≤ 4096 ∧ m ≤ 4096 ∧ (2 ≤ q ∨ n = 0) ∧ (q = 3 ∨ m = 0)) := ⟨by
    rw [HR0, h1, h2, h3]
    unfold OpRight
    simp only
    constructor <;> (rintro ⟨a1, a2, a3, a4, a5, a6, a7, a8, a9, a10⟩; exact ⟨a1, a2, a3.symm, a4, a5, a6, a7, a8, a9, a10⟩)⟩
  generalize t.length = tl at *
  clear h1 h2 h3 HR0 hq hr
  go_enter Tryz.func39, Tryz.ntmps39
  go_wp2_with (go_at_call 41; go_must (refine (has41 _ k).mono ?_); rintro e w' ⟨rfl, rfl⟩; rw [← HQ.out])
  all_goals (go_ret; refine RightPost.of ?_; rw [Bool.eq_iff_iff, HR.out]; (try simp only [Bool.false_eq_true, false_iff, true_iff, Bool.or_eq_true, Bool.and_eq_true, decide_eq_true_eq, beq_iff_eq]); omega)
end Go.Proofs.YtddmbdigdnmfgaaGreatDoor
