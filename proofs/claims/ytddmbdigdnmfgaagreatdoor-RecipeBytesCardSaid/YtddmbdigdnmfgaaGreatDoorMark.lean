/- The kit's marks: a byte for a number. -/
import Derived.Test.YtddmbdigdnmfgaaGreatDoorRGet
import Derived.Laws.MakeOwn
import Derived.BigQuiet
namespace Go.Proofs.YtddmbdigdnmfgaaGreatDoor
open Go.RowKit
set_option maxHeartbeats 400000
set_option maxRecDepth 100000

theorem mark68 (w : World) (k i : Nat) (hk : k ≤ 4) (hi : i ≤ 4000) : Calls Tryz.prog 68 #[.int .i64 k, .int .i64 i] w fun e w' => e = .returned (.int .i64 ((1000003 * (k + 7) + i : Nat) : Int)) ∧ w = w' := by
  go_enter Tryz.func68, Tryz.ntmps68
  go_wp2
  go_ret
  exact ⟨ret_int (by omega), rfl⟩
/-- The byte that the kit writes for a number. -/
def mkByte (k i : Nat) : UInt8 := UInt8.ofNat (IntKind.u64.wrap (((1000003 * (k + 7) + i : Nat) : Int) * 11400714819323198485) / 72057594037927936 % 256).toNat
theorem ofNat_mod (x : Int) : ((UInt8.ofNat (x % 256).toNat).toNat : Int) = x % 256 := by
  rw [UInt8.toNat_ofNat']
  omega
theorem markByte32 (w : World) (k i : Nat) (hk : k ≤ 4) (hi : i ≤ 4000) : Calls Tryz.prog 32 #[.int .i64 k, .int .i64 i] w fun e w' => e = .returned (u8v (mkByte k i)) ∧ w = w' := by
  go_enter Tryz.func32, Tryz.ntmps32
  go_wp2_with (go_at_call 68; go_must (refine (mark68 _ k i hk hi).mono ?_); rintro e w' ⟨rfl, rfl⟩)
  go_ret
  refine ⟨ret_int ?_, rfl⟩
  rw [mkByte, ofNat_mod]
  rfl
attribute [irreducible] mkByte
/-- A row of marks. -/
def marks (k n : Nat) : List UInt8 := (List.range n).map (mkByte k)
@[simp] theorem marks_len (k n : Nat) : (marks k n).length = n := by simp [marks]
theorem marks_succ (k n : Nat) : marks k (n + 1) = marks k n ++ [mkByte k n] := by simp [marks, List.range_succ]
/-- Bytes lent: twelve marks lie behind. -/
def Lent (w : World) (G : Nat → Prop) (v : Value) (b : List UInt8) : Prop := ∃ A c, v = .slice A b.length c ∧ By w G (.slice A (b.length + 12) c) (b ++ marks 1 12)
theorem Lent.keep {G : Nat → Prop} {w w' : World} {v : Value} {b : List UInt8} (h : Lent w G v b) (k : Keep G w w') : Lent w' G v b := by
  obtain ⟨A, c, h1, h2⟩ := h
  exact ⟨A, c, h1, h2.keep k⟩
theorem Lent.mono {G H : Nat → Prop} {w : World} {v : Value} {b : List UInt8} (h : Lent w G v b) (hi : ∀ i, i < w.heap.size → G i → H i) : Lent w H v b := by
  obtain ⟨A, c, h1, h2⟩ := h
  exact ⟨A, c, h1, h2.mono hi⟩
theorem Lent.by {G : Nat → Prop} {w : World} {v : Value} {b : List UInt8} (h : Lent w G v b) : By w G v b := by
  obtain ⟨A, c, rfl, h2⟩ := h
  have := By.take (k := b.length) (l := b ++ marks 1 12) (by simpa using h2) (by simp)
  simpa using this
theorem lent9 (w : World) (G : Nat → Prop) (v : Value) (b : List UInt8) (h : By w G v b) (hl : Small (b.length + 16)) :
    Calls Tryz.prog 9 #[v] w fun e w' => ∃ r, e = .returned r ∧ Lent w' (fun i => w.heap.size ≤ i) r b ∧ Keep All w w' := by
  obtain ⟨A, c, rfl, -⟩ := h.open
  have H := Fact.mk h
  have hl' := hl.le
  have hl'' : (b.length : Int) + 16 ≤ 1048576 := by omega
  have hmk := run_make (P := Tryz.prog) (w := w) 23 5 _ (.int .u8 0) Tryz.underlying23 rfl rfl .i64 .i64 0 ((b.length : Int) + 12) (Int.le_refl _) (by omega) (by show (1 : Int) * _ ≤ _; omega) (by omega)
  clear h
  go_enter Tryz.func9, Tryz.ntmps9
  go_upto_region 2 with (fail)
  obtain ⟨W, hW⟩ : ∃ X, X = w.alloc (Obj.cells (madeCells #[Value.int IntKind.u8 0] ((b.length + 12) * Tryz.prog.types[5].size)) 5) := ⟨_, rfl⟩
  rw [← hW]
  have HO : Fact (W.ownsRow w.heap.size 5 1 (.slice (some ⟨w.heap.size, 0, none⟩) 0 (b.length + 12)) 0 []) := ⟨hW ▸ World.ownsRow_made w _ (b.length + 12) (Nat.le_refl _) (by unfold maxLen; omega) (size_madeCells _ _)⟩
  have HK : Fact (Keep All w W) := ⟨hW ▸ (Keep.refl _ _).alloc _⟩
  have HF : Fact (Fits 0 b.length 1) := ⟨Fits.of (Small.of (by omega)) 1 (by decide)⟩
  have HS := Fact.mk hl
  clear hW hmk hl
  go_upto_region 3 with (at_builtin; go_must (refine wpList_ap rfl _ _ 23 5 1 1 w.heap.size 0 b.length HO.out (Sl.keep H.out HK.out.all) rfl T23 rfl rfl HF.out HK.out.size ?_); intro v' w1 ho hg hb; have K1 := Fact.mk (HK.out.grown hg fun j hj => .inl (HO.out.lt j hj).1); have HO1 := Fact.mk ho; obtain ⟨A1, c1, rfl⟩ := own_form ho; clear ho hg hb)
  go_upto_block 0 with (fail)
  go_cut [3] (fun x w' => ∃ A c, x = .slice A (b.length + 12) c ∧ w'.ownsRow w.heap.size 5 1 x (b.length + 12) ((b ++ marks 1 12).map u8v) ∧ Keep All w w')
  case first =>
    go_wp2
    go_loopg [3, 4] 12 (fun g x y w' => ∃ k : Nat, k + g = 12 ∧ y = .int .i64 k ∧ (∃ A c, x = .slice A (b.length + k) c) ∧ w'.ownsRow w.heap.size 5 1 x (b.length + k) ((b ++ marks 1 k).map u8v) ∧ Keep All w w')
    case atStart => exact ⟨0, rfl, rfl, ⟨A1, c1, by simp⟩, by simpa [marks] using HO1.out, K1.out⟩
    case round =>
      obtain ⟨k, hk, rfl, ⟨A2, c2, rfl⟩, ho, hkp⟩ := hrel
      have HO2 := Fact.mk ho
      have HK2 := Fact.mk hkp
      clear ho hkp
      by_cases hlt : (k : Int) < 12
      · have HF2 : Fact (Fits (b.length + k) 1 1) := ⟨Fits.of (Small.of (by omega)) 1 (by decide)⟩
        have HI : Fact (k ≤ 4000) := ⟨by omega⟩
        have HM : Fact (∀ w, Calls Tryz.prog 32 #[.int .i64 1, .int .i64 k] w fun e w' => e = .returned (.int .u8 ((mkByte 1 k).toNat : Int)) ∧ w = w') := ⟨fun w => markByte32 w 1 k (by decide) HI.out⟩
        obtain ⟨x, hx⟩ : ∃ x, x = ((mkByte 1 k).toNat : Int) := ⟨_, rfl⟩
        rw [← hx] at HM
        have HX := Fact.mk hx
        clear hx
        go_wp2_with (first
          | (go_at_call 32; go_must (refine (HM.out _).mono ?_); rintro e w' ⟨rfl, rfl⟩)
          | (at_builtin; go_must (refine wpList_ap rfl _ _ 23 5 1 1 w.heap.size (b.length + k) 1 (HO2.out.alloc _) (Sl.new _ 5 1 1 [.int .u8 x] rfl (by decide) (by simp [Value.oneCell'])) rfl T23 rfl rfl HF2.out (alloc_le HK2.out.size) ?_); intro v' w3 ho hg hb; have K3 := Fact.mk ((HK2.out.alloc _).grown hg fun j hj => .inl (HO2.out.lt j hj).1); have HO3 := Fact.mk ho; obtain ⟨A3, c3, rfl⟩ := own_form ho; clear ho hg hb))
        go_roundg (gk - 1)
        case measure => omega
        case rel => exact ⟨k + 1, by omega, rfl, ⟨A3, c3, by simp [Nat.add_assoc]⟩, by have := HO3.out; rw [HX.out] at this; simpa [marks_succ, Nat.add_assoc, u8v] using this, K3.out⟩
      · have hke : k = 12 := by omega
        subst hke
        go_wp2
        go_meet
        case rel => exact ⟨A2, c2, rfl, HO2.out, HK2.out⟩
  case rest =>
    obtain ⟨A2, c2, rfl, ho, hkp⟩ := hcut
    have HO2 := Fact.mk ho
    have HK2 := Fact.mk hkp
    have hby := By.of_own (l := b ++ marks 1 12) (n := b.length + 12) (by simpa using ho)
    have HB := Fact.mk hby
    have hc3 : b.length + 12 ≤ c2 := by
      obtain ⟨A3, c3, e3, h3, -⟩ := hby.open
      simp only [Value.slice.injEq] at e3
      rw [e3.2.2]
      simpa using h3
    clear ho hkp hby
    go_wp2
    go_ret
    exact ⟨_, rfl, ⟨A2, c2, rfl, by simpa using HB.out⟩, HK2.out⟩
end Go.Proofs.YtddmbdigdnmfgaaGreatDoor

/- Bytes lent are kept; bytes told are written over. -/
namespace Go.Proofs.YtddmbdigdnmfgaaGreatDoor
open Go.RowKit
set_option maxHeartbeats 400000
set_option maxRecDepth 100000

theorem marks_get {k n j : Nat} (h : j < n) : (marks k n)[j]?.getD 0 = mkByte k j := by
  simp [marks, List.getElem?_map, List.getElem?_range h]
theorem mark32 (w : World) (k i a n : Nat) (hk : k ≤ 2) (hi : i ≤ 4000) : Calls Tryz.prog 32 #[.int .i64 k, .int .i64 i] (w.drewN (a + n)) fun e w'' => e = .returned (.int .u8 ((mkByte k i).toNat : Int)) ∧ ∃ m, w'' = w.drewN (a + m) :=
  (markByte32 _ k i (by omega) hi).mono fun _ _ ⟨h1, h2⟩ => ⟨h1, n, h2.symm⟩
/-- .. whatever byte. -/
theorem markAny68 (w : World) (k i : Nat) (hk : k ≤ 2) (hi : i ≤ 1048600) : Calls Tryz.prog 68 #[.int .i64 k, .int .i64 i] w fun e w' => ∃ x : Nat, x ≤ 100000000 ∧ e = .returned (.int .i64 x) ∧ w = w' := by
  go_enter Tryz.func68, Tryz.ntmps68
  go_wp2
  go_ret
  exact ⟨1000003 * (k + 7) + i, by omega, ret_int (by omega), rfl⟩
theorem markByteAny (w : World) (k i : Nat) (hk : k ≤ 2) (hi : i ≤ 1048600) : Calls Tryz.prog 32 #[.int .i64 k, .int .i64 i] w fun e w' => ∃ x : Int, e = .returned (.int .u8 x) ∧ w = w' := by
  go_enter Tryz.func32, Tryz.ntmps32
  go_wp2_with (go_at_call 68; go_must (refine (markAny68 _ k i hk hi).mono ?_); rintro e w' ⟨x, hx, rfl, rfl⟩)
  go_ret
  exact ⟨_, rfl, rfl⟩
theorem kept19 (w : World) (G1 G2 : Nat → Prop) (v1 v2 : Value) (b : List UInt8) (h1 : Lent w G1 v1 b) (h2 : By w G2 v2 b) (hl : Small (b.length + 16)) :
    Calls Tryz.prog 19 #[v1, v2] w (Quiet w (.bool true)) := by
  obtain ⟨A, c, rfl, hb1⟩ := h1
  obtain ⟨A2, c2, rfl, hn2, hc2, hA2, hx2⟩ := h2.open
  obtain ⟨A3, c3, e3, hn1, hc1, hA1, hx1⟩ := hb1.open
  have hln : (b ++ marks 1 12).length = b.length + 12 := by simp
  rw [hln] at hn1 hx1 e3
  simp only [Value.slice.injEq] at e3
  obtain ⟨rfl, -, rfl⟩ := e3
  obtain ⟨bb, off, rfl, -, hcell⟩ := hx1 (by omega)
  have HL := hl.le
  have X1 := Fact.mk hcell
  have X2 := Fact.mk hx2
  clear hcell hx2 hx1 h2 hb1 hA1 hA2 hl
  go_enter Tryz.func19, Tryz.ntmps19
  go_wp2
  go_loopw [6] (fun i wr => ∃ k q : Nat, k ≤ b.length + 12 ∧ i = .int .i64 k ∧ wr = w.drewN q) (fun i _ => b.length + 12 - (intOf i).toNat)
  case atStart => exact ⟨0, 0, Nat.zero_le _, rfl, rfl⟩
  case round =>
    obtain ⟨k, q, hk, rfl, rfl⟩ := hrel
    by_cases hlt : (k : Int) < b.length
    · have h1 := X1.out k (by omega)
      obtain ⟨b2, o2, rfl, -, hc⟩ := X2.out (by omega)
      have h2 := hc k (by omega)
      have e1 : ((b ++ marks 1 12)[k]?.getD 0) = b[k]?.getD 0 := by rw [List.getElem?_append_left (by omega)]
      rw [e1] at h1
      have hlt2 : (k : Int) < b.length + 12 := by omega
      have hge : ¬ b.length ≤ k := by omega
      clear hc e1
      go_wp2
      go_quiet (fail)
      go_wp2
      go_roundw
      case rel => exact ⟨k + 1, q + nq, by omega, by go_num, rfl⟩
      case measure => simp [intOf]; omega
    · by_cases hlt2 : (k : Int) < b.length + 12
      · have h1 := X1.out k (by omega)
        obtain ⟨j, hj⟩ : ∃ j, k = b.length + j := ⟨k - b.length, by omega⟩
        have hge : b.length ≤ k := by omega
        have hltn : ¬ k < b.length := by omega
        have e1 : ((b ++ marks 1 12)[k]?.getD 0) = mkByte 1 j := by rw [hj, List.getElem?_append_right (by omega), Nat.add_sub_cancel_left]; exact marks_get (by omega)
        rw [e1] at h1
        have e2 : (k : Int) - b.length = j := by omega
        have hj4 : Fact (j ≤ 4000) := ⟨by omega⟩
        clear hj
        clear e1
        go_wp2
        go_quiet ((go_at_call 32; exact mark32 _ 1 j _ _ (by decide) hj4.out))
        go_wp2
        go_roundw
        case rel => exact ⟨k + 1, q + nq, by omega, by go_num, rfl⟩
        case measure => simp [intOf]; omega
      · go_wp2
        go_ret
        exact ⟨rfl, _, rfl⟩
/-- Cells of G's blocks have been written, nothing else. -/
structure Wrote (G : Nat → Prop) (w w' : World) : Prop where
  keep : Keep (fun i => ¬ G i) w w'
  cells : ∀ p, (w'.cell? p).isSome = (w.cell? p).isSome
  frozen : ∀ p, w'.frozen? p = w.frozen? p
theorem Wrote.refl (G : Nat → Prop) (w : World) : Wrote G w w := ⟨Keep.refl _ _, fun _ => rfl, fun _ => rfl⟩
theorem Wrote.trans {G : Nat → Prop} {a b c : World} (h : Wrote G a b) (k : Wrote G b c) : Wrote G a c :=
  ⟨h.keep.trans k.keep, fun p => (k.cells p).trans (h.cells p), fun p => (k.frozen p).trans (h.frozen p)⟩
theorem Wrote.mono {G H : Nat → Prop} {a b : World} (h : Wrote G a b) (hi : ∀ i, G i → H i) : Wrote H a b :=
  ⟨h.keep.mono fun i hn hg => hn (hi i hg), h.cells, h.frozen⟩
theorem Wrote.set {G : Nat → Prop} {w : World} {p : Addr} (hp : G p.block) (h : (w.cell? p).isSome = true) (v : Value) : Wrote G w (w.setCell p v) := by
  refine ⟨(Keep.refl _ _).setCell (.inr fun h => h hp) v, fun q => ?_, fun q => World.frozen?_setCell _ _ _ _⟩
  by_cases hq : p = q
  · subst hq
    rw [World.cell?_setCell_same' _ _ _ h, h]
    rfl
  · rw [World.cell?_setCell_other _ _ _ _ hq]
theorem Wrote.room {G H : Nat → Prop} {w w' : World} {v : Value} (h : Room w G v) (k : Wrote H w w') : Room w' G v := by
  obtain ⟨A, n, c, e, hn, hc, hx⟩ := h
  refine ⟨A, n, c, e, hn, hc, fun hp => ?_⟩
  obtain ⟨b, off, ea, hg, ha⟩ := hx hp
  exact ⟨b, off, ea, hg, fun j hj => ⟨(k.cells _).trans (ha j hj).1, (k.frozen _).trans (ha j hj).2⟩⟩
theorem over17 (w : World) (G : Nat → Prop) (v : Value) (h : Room w G v) (hs : ∀ A n c, v = .slice A n c → n ≤ 1048576) :
    Calls Tryz.prog 17 #[v] w fun e w' => e = .returned (.tuple #[]) ∧ Wrote G w w' := by
  obtain ⟨A, n, c, rfl, hn, hc, hx⟩ := h
  have hn4 := hs A n c rfl
  have HX := Fact.mk hx
  have HC := Fact.mk hc
  clear hx hs hc
  have hmx : c ≤ 9223372036854775807 := by have := HC.out; unfold maxLen at this; omega
  go_enter Tryz.func17, Tryz.ntmps17
  go_upto_region 0 with (fail)
  go_cut [2] (fun x w' => ∃ m, x = .slice A m c ∧ m ≤ c ∧ m ≤ 1048600 ∧ w = w')
  case first =>
    by_cases hm : (c : Int) ≤ n + 12
    · go_wp2
      go_meet
      case rel => exact ⟨c, rfl, Nat.le_refl _, by omega, rfl⟩
    · have hm2 : n + 12 ≤ c := by omega
      go_wp2
      go_meet
      case rel => exact ⟨n + 12, rfl, hm2, by omega, rfl⟩
  case rest =>
    obtain ⟨m, rfl, hm, hm2, rfl⟩ := hcut
    go_wp2
    go_loopg [3] m (fun g i w' => ∃ k : Nat, k + g = m ∧ i = .int .i64 k ∧ Wrote G w w')
    case atStart => exact ⟨0, by omega, rfl, Wrote.refl _ _⟩
    case round =>
      obtain ⟨k, hk, rfl, hw⟩ := hrel
      have HW := Fact.mk hw
      have HK := Fact.mk hk
      clear hw
      by_cases hlt : (k : Int) < m
      · have hkm : k < m := by omega
        obtain ⟨b, off, rfl, hg, hc⟩ := HX.out (by omega)
        have h1 := (HW.out.cells ⟨b, off + k, none⟩).trans (hc k (by omega)).1
        have h2 := (HW.out.frozen ⟨b, off + k, none⟩).trans (hc k (by omega)).2
        have HG := Fact.mk hg
        have HI := Fact.mk h1
        obtain ⟨u, hu⟩ := Option.isSome_iff_exists.1 h1
        have HJ : Fact (k ≤ 1048600) := ⟨by omega⟩
        clear hg hc h1 hk
        go_wp2_with (go_at_call 32; go_must (refine (markByteAny _ 2 k (by decide) HJ.out).mono ?_); rintro e w' ⟨x, rfl, rfl⟩)
        go_roundg (gk - 1)
        case measure => have := HK.out; omega
        case rel => exact ⟨k + 1, by have := HK.out; omega, by go_num, HW.out.trans (Wrote.set HG.out HI.out _)⟩
      · go_wp2
        go_end0
        exact ⟨rfl, HW.out⟩
end Go.Proofs.YtddmbdigdnmfgaaGreatDoor
