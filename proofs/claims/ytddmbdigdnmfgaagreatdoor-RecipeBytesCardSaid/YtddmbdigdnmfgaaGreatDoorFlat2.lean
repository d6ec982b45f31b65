/- The kit's flatBytes, at two rows that have no block in common: it says yes. -/
import Derived.Test.YtddmbdigdnmfgaaGreatDoorTwin
import Derived.StillTailTactics
namespace Go.Proofs.YtddmbdigdnmfgaaGreatDoor
open Go.RowKit
set_option maxHeartbeats 800000
set_option maxRecDepth 100000

theorem take_set_succ (l : List UInt8) (q : Nat) (x : UInt8) (h : q < l.length) : (l.set q x).take (q + 1) = l.take q ++ [x] := by
  rw [List.take_succ_eq_append_getElem (by simpa using h), List.take_set_of_le (Nat.le_refl _)]
  simp
theorem markS (w : World) (k i : Nat) (hk : k ≤ 4) (hi : i ≤ 4000) : Calls Tryz.prog 32 #[.int .i64 k, .int .i64 i] w fun e w'' => e = .returned (.int .u8 ((mkByte k i).toNat : Int)) ∧ w'' = w :=
  (markByte32 _ k i hk hi).mono fun _ _ ⟨h1, h2⟩ => ⟨h1, h2.symm⟩
theorem markQ (w : World) (k i m : Nat) (hk : k ≤ 4) (hi : i ≤ 4000) : Calls Tryz.prog 32 #[.int .i64 k, .int .i64 i] (w.drewN m) fun e w'' => e = .returned (.int .u8 ((mkByte k i).toNat : Int)) ∧ ∃ m, w'' = w.drewN m :=
  (markByte32 _ k i hk hi).mono fun _ _ ⟨h1, h2⟩ => ⟨h1, m, h2.symm⟩
/-- A byte of a row that begins with marks. -/
theorem Row.markp {w : World} {v : Value} {l : List UInt8} {k n j : Nat} {A : Option Addr} {c m : Nat} (h : Row w v l) (hp : marks k n <+: l) (hv : v = .slice A m c) (hj : j < n) : ∃ g, A = some ⟨g, 0, none⟩ ∧ w.cell? ⟨g, j, none⟩ = some (.int .u8 ((mkByte k j).toNat : Int)) := by
  obtain ⟨t, rfl⟩ := hp
  obtain ⟨A', c', e', -, -, hx⟩ := h.open
  rw [hv] at e'
  simp only [Value.slice.injEq] at e'
  obtain ⟨rfl, -, rfl⟩ := e'
  obtain ⟨g, e, h1, -⟩ := hx j (by simp; omega)
  rw [List.getElem?_append_left (by simpa using hj), marks_get hj] at h1
  exact ⟨g, e, h1⟩
theorem Row.mark {w : World} {v : Value} {k n j : Nat} {A : Option Addr} {c m : Nat} (h : Row w v (marks k n)) (hv : v = .slice A m c) (hj : j < n) : ∃ g, A = some ⟨g, 0, none⟩ ∧ w.cell? ⟨g, j, none⟩ = some (.int .u8 ((mkByte k j).toNat : Int)) :=
  h.markp (List.prefix_refl _) hv hj
theorem marks_prefix (k : Nat) {a b : Nat} (h : a ≤ b) : marks k a <+: marks k b := by
  obtain ⟨d, rfl⟩ := Nat.exists_eq_add_of_le h
  induction d with
  | zero => exact List.prefix_refl _
  | succ d ih => exact (ih (by omega)).trans (by rw [← Nat.add_assoc, marks_succ]; exact List.prefix_append _ _)
/-- Sixty-four new bytes. -/
theorem row64 (w : World) : ∃ w', (Instr.makeSlice 23 (.int .i64 64) (.int .i64 64)).run Tryz.prog w = .ok (.slice (some ⟨w.heap.size, 0, none⟩) 64 64) w' ∧ Row w' (.slice (some ⟨w.heap.size, 0, none⟩) 64 64) (List.replicate 64 0) ∧ Keep All w w' := by
  obtain ⟨w', h1, h2, h3⟩ := run_make_full (P := Tryz.prog) w 0 23 5 _ (.int .u8 0) 1 Tryz.underlying23 rfl rfl rfl .i64 .i64 64 (by decide) (by decide) (Nat.zero_le _)
  refine ⟨w', h1, ?_, (Keep.refl _ _).grown h3 fun k hk => by cases hk⟩
  have e : (madeCells (Value.int .u8 0).cells (64 * 1)).toList = (List.replicate 64 (0 : UInt8)).map u8v := by
    rw [show (Value.int .u8 0).cells = #[.int .u8 0] from rfl, toList_madeCells_one, List.map_replicate]
    rfl
  rw [e] at h2
  simpa [Row] using h2
theorem flat86 (w : World) (L lo lc : Nat) (v : Nat → Value) (xs : Nat → List UInt8) (h : St w w v xs v xs (fun _ => False)) (hL : ∀ r, r < 2 → w.cell? ⟨L, lo + r, none⟩ = some (v r)) (hf : Free v L) (hn : ∀ r, r < 2 → (xs r).length ≤ 1000) :
    Calls Tryz.prog 86 #[.slice (some ⟨L, lo, none⟩) 2 lc] w fun e w' => e = .returned (.bool true) ∧ Keep (Free v) w w' := by
  obtain ⟨n, hxn⟩ : ∃ n : Nat → Nat, ∀ r, (xs r).length = n r := ⟨fun r => (xs r).length, fun _ => rfl⟩
  have H := Fact.mk h
  have HL : Fact (∀ w', Keep (Free v) w w' → ∀ r, r < 2 → w'.cell? ⟨L, lo + r, none⟩ = some (v r)) := ⟨fun w' k r hr => k.cell (p := ⟨L, lo + r, none⟩) hf (hL r hr)⟩
  have HF := Fact.mk hf
  have HN : Fact (∀ r, r < 2 → n r ≤ 1000) := ⟨fun r hr => hxn r ▸ hn r hr⟩
  have HX := Fact.mk hxn
  clear h hL hf hn hxn
  go_enter Tryz.func86, Tryz.ntmps86
  go_upto_block 0 with (fail)
  go_cut [] (fun w' => St w w' v (fun r => marks r (n r)) v (fun r => marks r (n r)) (fun _ => False))
  case first =>
    go_wp2
    go_loopg [3] 2 (fun g i w' => ∃ k ys, k + g = 2 ∧ i = .int .i64 k ∧ St w w' v ys v ys (fun _ => False) ∧ (∀ r, r < 2 → (ys r).length = n r) ∧ ∀ r, r < k → ys r = marks r (n r))
    case atStart => exact ⟨0, xs, rfl, rfl, H.out, fun r _ => HX.out r, fun r h => absurd h (by omega)⟩
    case round =>
      obtain ⟨k, ys, hk, rfl, hst, hlen, hdone⟩ := hrel
      by_cases hlt : (k : Int) < 2
      · have hk2 : k < 2 := by omega
        obtain ⟨A, c, hv, hnc, hcm, -⟩ := (hst.twin k hk2).1.open
        rw [hlen k hk2] at hv
        have HV := Fact.mk hv
        have HST := Fact.mk hst
        have HLEN := Fact.mk hlen
        have HD := Fact.mk hdone
        have HNK := HN.out k hk2
        clear hst hlen hdone hv hcm
        go_wp2
        go_loopg [4] (n k) (fun g j w' => ∃ q zs, q + g = n k ∧ j = .int .i64 q ∧ St w w' v zs v zs (fun _ => False) ∧ (∀ r, r < 2 → (zs r).length = n r) ∧ (∀ r, r < k → zs r = marks r (n r)) ∧ (zs k).take q = marks k q)
        case atStart => exact ⟨0, ys, by omega, rfl, HST.out, HLEN.out, HD.out, by simp [marks]⟩
        case round =>
          obtain ⟨q, zs, hq, rfl, hst, hlen, hdone, htake⟩ := hrel
          have c0 := HL.out _ hst.keep k hk2
          rw [HV.out] at c0
          have HST2 := Fact.mk hst
          have HLEN2 := Fact.mk hlen
          have HD2 := Fact.mk hdone
          have HT2 := Fact.mk htake
          have HQ := Fact.mk hq
          have hrow := (hst.twin k hk2).1.open
          clear hst hlen hdone htake hq
          by_cases hqn : (q : Int) < n k
          · obtain ⟨A', c', e', -, -, hj⟩ := hrow
            rw [HV.out] at e'
            simp only [Value.slice.injEq] at e'
            obtain ⟨rfl, -, rfl⟩ := e'
            obtain ⟨b, rfl, c1, c2⟩ := hj q (by rw [HLEN2.out k hk2]; omega)
            go_wp2
            refine wp_region_still_tail 9 (by kernel_rfl) (by kernel_rfl) ?_
            simp only [List.take_succ_cons, List.take_zero, List.drop_succ_cons, List.drop_zero]
            repeat (first | still_step | still_call (markS _ k q (by omega) (by omega)))
            refine wpStill_nil ?_
            change wpList _ _ _ _ _ (World.drew _)
            go_wp2
            go_roundg (gk - 1)
            case measure => have := HQ.out; omega
            case rel =>
              have h1 := (HST2.out.all ((Keep.refl All _).drew)).set hk2 HV.out q (mkByte k q)
              refine ⟨q + 1, _, by have := HQ.out; omega, by go_num, h1, fun r hr => ?_, fun r hr => ?_, ?_⟩
              · by_cases hrk : r = k
                · subst hrk; rw [upd_same, List.length_set]; exact HLEN2.out r hr
                · rw [upd_ne _ _ hrk]; exact HLEN2.out r hr
              · rw [upd_ne _ _ (by omega)]; exact HD2.out r hr
              · rw [upd_same, take_set_succ _ _ _ (by rw [HLEN2.out k hk2]; omega), HT2.out, marks_succ]
          · have hqe : q = n k := by have := HQ.out; omega
            subst hqe
            go_wp2
            go_roundg (2 - (k + 1))
            case measure => omega
            case rel =>
              refine ⟨k + 1, zs, by omega, by go_num, HST2.out, HLEN2.out, fun r hr => ?_⟩
              by_cases hrk : r = k
              · subst hrk
                have := HT2.out
                rwa [List.take_of_length_le (by rw [HLEN2.out r hk2]; exact Nat.le_refl _)] at this
              · exact HD2.out r (by omega)
      · have hk2 : k = 2 := by omega
        subst hk2
        have HST := Fact.mk hst
        have HD := Fact.mk hdone
        go_wp2
        go_meet
        case rel => exact HST.out.like HD.out
  case rest =>
    have HS1 := Fact.mk hcut
    clear hcut
    have hmk : ∀ w, (Instr.makeSlice 42 (.int .i64 2) (.int .i64 2)).run Tryz.prog w = .ok (.slice (some ⟨w.heap.size, 0, none⟩) 2 2) (w.alloc (.cells #[.slice none 0 0, .slice none 0 0] 23)) := fun w => by kernel_rfl
    go_upto_block 4 with (fail)
    clear hmk
    obtain ⟨bg, hbg⟩ : ∃ n, n = wc.heap.size := ⟨_, rfl⟩
    obtain ⟨W, hW⟩ : ∃ X, X = wc.alloc (.cells #[.slice none 0 0, .slice none 0 0] 23) := ⟨_, rfl⟩
    rw [← hW, ← hbg]
    have HS2 : Fact (St w W v (fun r => marks r (n r)) v (fun r => marks r (n r)) (fun b => b = bg)) := ⟨by rw [hW, hbg]; exact HS1.out.beside _⟩
    have HB2 : Fact (Blk W bg (two fun _ => .slice none 0 0) 23) := ⟨by rw [hW, hbg]; exact Blk.new wc [_, _] 23⟩
    clear hW hbg HS1
    go_cut [] (fun w' => ∃ g, St w w' v (fun r => marks r (n r)) g (fun r => marks r (n r + 64)) (fun b => b = bg) ∧ Blk w' bg (two g) 23)
    case first =>
      go_wp2
      go_loopg [6] 2 (fun g0 i w' => ∃ k g ys cs, k + g0 = 2 ∧ i = .int .i64 k ∧ St w w' v (fun r => marks r (n r)) g ys (fun b => b = bg) ∧ Blk w' bg (two cs) 23 ∧ (∀ r, r < k → ys r = marks r (n r + 64) ∧ cs r = g r) ∧ ∀ r, k ≤ r → r < 2 → g r = v r ∧ ys r = marks r (n r))
      case atStart => exact ⟨0, v, _, _, rfl, rfl, HS2.out, HB2.out, fun r h => absurd h (by omega), fun _ _ _ => ⟨rfl, rfl⟩⟩
      case round =>
        obtain ⟨k, g, ys, cs, hk, rfl, hst, hblk, hdone, hleft⟩ := hrel
        have HST := Fact.mk hst
        have HB := Fact.mk hblk
        have HD := Fact.mk hdone
        have HLF := Fact.mk hleft
        have HK := Fact.mk hk
        clear hst hblk hdone hleft hk
        by_cases hlt : (k : Int) < 2
        · have hk2 : k < 2 := by omega
          obtain ⟨A, c, hv, hnc, hcm, -⟩ := (HST.out.twin k hk2).1.open
          simp only [marks_len] at hv hnc
          have HV := Fact.mk hv
          have HNK := HN.out k hk2
          have c0 := HL.out _ HST.out.keep k hk2
          rw [hv] at c0
          clear hv hcm
          go_wp2
          go_loopg [7, 8] 64 (fun g0 x j w' => ∃ q g' ys', q + g0 = 64 ∧ j = .int .i64 q ∧ x = g' k ∧ St w w' v (fun r => marks r (n r)) g' ys' (fun b => b = bg) ∧ ys' k = marks k (n k + q) ∧ Blk w' bg (two cs) 23 ∧ (∀ r, r < k → ys' r = marks r (n r + 64) ∧ cs r = g' r) ∧ ∀ r, k < r → r < 2 → g' r = v r ∧ ys' r = marks r (n r))
          case atStart => exact ⟨0, g, ys, rfl, rfl, by rw [(HLF.out k (Nat.le_refl _) hk2).1, HV.out], HST.out, (HLF.out k (Nat.le_refl _) hk2).2, HB.out, HD.out, fun r h1 h2 => HLF.out r (Nat.le_of_lt h1) h2⟩
          case round =>
            obtain ⟨q, g', ys', hq, rfl, rfl, hst, hyk, hblk, hdone, hleft⟩ := hrel
            have hrow := (hst.twin k hk2).2.1
            rw [hyk] at hrow
            obtain ⟨A', c', hx, -⟩ := hrow.open
            simp only [marks_len] at hx
            have HO : Fact (wr.ownsRow 0 5 1 (.slice A' (n k + q) c') (n k + q) ((marks k (n k + q)).map u8v)) := ⟨by
              have := hrow
              rw [hx] at this
              simpa [Row] using this⟩
            have HX2 := Fact.mk hx
            have c1 := HL.out _ hst.keep k hk2
            rw [HV.out] at c1
            have HST3 := Fact.mk hst
            have HYK := Fact.mk hyk
            have HB3 := Fact.mk hblk
            have HD3 := Fact.mk hdone
            have HLF3 := Fact.mk hleft
            have HQ := Fact.mk hq
            rw [hx]
            clear hst hyk hblk hdone hleft hrow hx hq
            by_cases hq64 : (q : Int) < 64
            · obtain ⟨x, hx⟩ : ∃ x, x = ((mkByte k (n k + q)).toNat : Int) := ⟨_, rfl⟩
              have HM : Fact (∀ w, Calls Tryz.prog 32 #[.int .i64 k, .int .i64 ((n k : Int) + q)] w fun e w' => e = .returned (.int .u8 x) ∧ w = w') := ⟨fun w => by
                have := markByte32 w k (n k + q) (by omega) (by omega)
                rw [Int.natCast_add] at this
                rw [hx]
                exact this⟩
              have HXX := Fact.mk hx
              have HF : Fact (Fits (n k + q) 1 1) := ⟨Fits.of (Small.of (by omega)) 1 (by decide)⟩
              clear hx
              go_wp2_with (first
                | (go_at_call 32; go_must (refine (HM.out _).mono ?_); rintro e w' ⟨rfl, rfl⟩)
                | (at_builtin; go_must (refine wpList_lain rfl _ _ 23 5 1 1 0 (n k + q) 1 (HO.out.alloc _) (Sl.new wr 5 1 1 [.int .u8 x] rfl (by decide) (by simp [Value.oneCell'])) rfl T23 rfl rfl (by decide) HF.out (Nat.zero_le _) ?_); intro v' w1 ho hg hl; have HO1 := Fact.mk ho; have HG1 := Fact.mk hg; have HL1 := Fact.mk hl; obtain ⟨A1, c1', rfl⟩ := own_form ho; clear ho hg hl))
              obtain ⟨h1, hkz⟩ := (HST3.out.all ((Keep.refl All _).alloc (.cells #[.int .u8 x] 5))).grow hk2 (g' := .slice A1 (n k + q + 1) c1') (news := [mkByte k (n k + q)])
                (by rw [HYK.out]; have := HO1.out; rw [HXX.out] at this; simpa [u8v] using this) (by rw [HX2.out]; exact HG1.out) (by rw [HX2.out, HYK.out, marks_len]; exact HL1.out)
              have H1 := Fact.mk h1
              have HKZ := Fact.mk hkz
              clear h1 hkz
              go_roundg (gk - 1)
              case measure => have := HQ.out; omega
              case rel =>
                refine ⟨q + 1, _, _, by have := HQ.out; omega, by go_num, (upd_same _ _ _).symm, H1.out, ?_, (HB3.out.alloc _).keep HKZ.out rfl, fun r hr => ?_, fun r hr hr2 => ?_⟩
                · rw [upd_same, HYK.out]; exact (marks_succ _ _).symm
                · rw [upd_ne _ _ (by omega), upd_ne _ _ (by omega)]; exact HD3.out r hr
                · rw [upd_ne _ _ (by omega), upd_ne _ _ (by omega)]; exact HLF3.out r hr hr2
            · have hqe : q = 64 := by have := HQ.out; omega
              subst hqe
              have y1 : wr.cell? ⟨bg, k, none⟩ = some (cs k) := HB3.out.cell k _ (two_get cs hk2)
              have y2 := HB3.out.free k
              go_wp2
              go_roundg (2 - (k + 1))
              case measure => have := HK.out; omega
              case rel =>
                refine ⟨k + 1, g', ys', upd cs k (g' k), by have := HK.out; omega, by go_num, HST3.out.aside ((Keep.refl _ _).setCell (.inr (by simp)) _), ?_, fun r hr => ?_, fun r hr hr2 => HLF3.out r (by omega) hr2⟩
                · have := HB3.out.set k (g' k)
                  rw [two_set _ hk2, HX2.out] at this
                  rw [HX2.out]
                  exact this
                · by_cases hrk : r = k
                  · subst hrk
                    exact ⟨HYK.out, upd_same _ _ _⟩
                  · rw [upd_ne _ _ hrk]
                    exact HD3.out r (by omega)
        · have hke : k = 2 := by have := HK.out; omega
          subst hke
          go_wp2
          go_meet
          case rel => exact ⟨g, HST.out.like2 fun r hr => (HD.out r hr).1, by rw [← two_like fun r hr => (HD.out r hr).2]; exact HB.out⟩
    case rest =>
      obtain ⟨g, hst, hblk⟩ := hcut
      have HS3 := Fact.mk hst
      have HB3 := Fact.mk hblk
      clear hst hblk HS2 HB2
      go_upto_block 8 with (fail)
      go_cut [] (fun w' => Keep All wc w')
      case first =>
        go_wp2
        go_loopg [9] 2 (fun g0 i w' => ∃ k, k + g0 = 2 ∧ i = .int .i64 k ∧ Keep All wc w')
        case atStart => exact ⟨0, rfl, rfl, Keep.refl _ _⟩
        case round =>
          obtain ⟨k, hk, rfl, hkp⟩ := hrel
          have HK := Fact.mk hk
          have HKP := Fact.mk hkp
          clear hk hkp
          by_cases hlt : (k : Int) < 2
          · have hk2 : k < 2 := by omega
            obtain ⟨A, c, hv, hnc, hcm, -⟩ := (HS3.out.twin k hk2).1.open
            obtain ⟨A', c', hg, hnc', hcm', -⟩ := (HS3.out.twin k hk2).2.1.open
            simp only [marks_len] at hv hnc hg hnc'
            have HV := Fact.mk hv
            have HG := Fact.mk hg
            have HNK := HN.out k hk2
            clear hv hg hcm hcm'
            go_wp2
            go_loopg [10] (n k + 64) (fun g0 j w' => ∃ q, q + g0 = n k + 64 ∧ j = .int .i64 q ∧ Keep All wc w')
            case atStart => exact ⟨0, by omega, rfl, HKP.out⟩
            case round =>
              obtain ⟨q, hq, rfl, hkp⟩ := hrel
              have HQ := Fact.mk hq
              have HKP2 := Fact.mk hkp
              have c0 := HL.out _ (HS3.out.all hkp).keep k hk2
              rw [HV.out] at c0
              have c1 := (HB3.out.keep hkp trivial).cell k _ (two_get g hk2)
              rw [HG.out] at c1
              have r1 := ((HS3.out.all hkp).twin k hk2).2.1
              have R2 := Fact.mk ((HS3.out.all hkp).twin k hk2).1
              clear hq hkp
              by_cases hqn : (q : Int) < n k + 64
              · obtain ⟨b', rfl, d1⟩ := r1.mark HG.out (j := q) (by omega)
                by_cases hqv : q < n k
                · obtain ⟨b, rfl, d2⟩ := R2.out.mark HV.out hqv
                  clear r1
                  go_wp2
                  go_quiet ((go_at_call 32; exact markQ _ k q _ (by omega) (by omega)))
                  go_wp2
                  go_roundg (gk - 1)
                  case measure => have := HQ.out; omega
                  case rel => exact ⟨q + 1, by have := HQ.out; omega, by go_num, HKP2.out.trans ((Keep.refl _ _).drewN _)⟩
                · clear r1
                  go_wp2
                  go_quiet ((go_at_call 32; exact markQ _ k q _ (by omega) (by omega)))
                  go_wp2
                  go_roundg (gk - 1)
                  case measure => have := HQ.out; omega
                  case rel => exact ⟨q + 1, by have := HQ.out; omega, by go_num, HKP2.out.trans ((Keep.refl _ _).drewN _)⟩
              · have hqe : q = n k + 64 := by have := HQ.out; omega
                subst hqe
                go_wp2
                go_roundg (2 - (k + 1))
                case measure => have := HK.out; omega
                case rel => exact ⟨k + 1, by have := HK.out; omega, by go_num, HKP2.out⟩
          · have hke : k = 2 := by have := HK.out; omega
            subst hke
            go_wp2
            go_meet
            case rel => exact HKP.out
      case rest =>
        have HS4 := Fact.mk (HS3.out.all hcut)
        have HB4 := Fact.mk (HB3.out.keep hcut trivial)
        clear hcut HS3 HB3
        go_upto_block 12 with (fail)
        go_cut [] (fun w' => ∃ g ys, St w w' v (fun r => marks r (n r)) g ys (fun b => b = bg) ∧ Blk w' bg (two g) 23 ∧ ∀ r, r < 2 → marks r (n r) <+: ys r)
        case first =>
          go_wp2
          go_loopg [11] 2 (fun g0 i w' => ∃ k g ys, k + g0 = 2 ∧ i = .int .i64 k ∧ St w w' v (fun r => marks r (n r)) g ys (fun b => b = bg) ∧ Blk w' bg (two g) 23 ∧ ∀ r, r < 2 → marks r (n r) <+: ys r)
          case atStart => exact ⟨0, g, _, rfl, rfl, HS4.out, HB4.out, fun r _ => marks_prefix r (by omega)⟩
          case round =>
            obtain ⟨k, g, ys, hk, rfl, hst, hblk, hpre⟩ := hrel
            have HK := Fact.mk hk
            have HST := Fact.mk hst
            have HB := Fact.mk hblk
            have HP := Fact.mk hpre
            clear hk hst hblk hpre
            by_cases hlt : (k : Int) < 2
            · have hk2 : k < 2 := by omega
              obtain ⟨A, c, hv, hnc, hcm, -⟩ := (HST.out.twin k hk2).1.open
              simp only [marks_len] at hv hnc
              have HV := Fact.mk hv
              have HNK := HN.out k hk2
              obtain ⟨wN, hmk, hrN, hkN⟩ := row64 wr
              have HRN := Fact.mk hrN
              have HKN := Fact.mk hkN
              clear hv hcm hrN hkN
              go_wp2
              clear hmk
              go_loopg [13] 64 (fun g0 j w' => ∃ q l, q + g0 = 64 ∧ j = .int .i64 q ∧ Keep All wr w' ∧ Row w' (.slice (some ⟨wr.heap.size, 0, none⟩) 64 64) l ∧ l.length = 64)
              case atStart => exact ⟨0, _, rfl, rfl, HKN.out, HRN.out, by simp⟩
              case round =>
                obtain ⟨q, l, hq, rfl, hkp, hrow, hl⟩ := hrel
                have HQ := Fact.mk hq
                have HKP := Fact.mk hkp
                have HRW := Fact.mk hrow
                have HLL := Fact.mk hl
                clear hq hkp hrow hl
                by_cases hq64 : (q : Int) < 64
                · obtain ⟨A1, c1, e1, -, -, hx⟩ := HRW.out.open
                  obtain ⟨b1, rfl, y1, y2⟩ := hx q (by rw [HLL.out]; omega)
                  simp only [Value.slice.injEq, Option.some.injEq, Addr.mk.injEq, and_true] at e1
                  obtain ⟨rfl, -, rfl⟩ := e1
                  obtain ⟨x, hx⟩ : ∃ x, x = ((mkByte (k + 2) q).toNat : Int) := ⟨_, rfl⟩
                  have HM : Fact (∀ w, Calls Tryz.prog 32 #[.int .i64 ((k : Int) + 2), .int .i64 q] w fun e w' => e = .returned (.int .u8 x) ∧ w = w') := ⟨fun w => by
                    have := markByte32 w (k + 2) q (by omega) (by omega)
                    rw [Int.natCast_add] at this
                    rw [hx]
                    exact this⟩
                  have HXX := Fact.mk hx
                  clear hx
                  go_wp2_with (go_at_call 32; go_must (refine (HM.out _).mono ?_); rintro e w' ⟨rfl, rfl⟩)
                  go_roundg (gk - 1)
                  case measure => have := HQ.out; omega
                  case rel =>
                    refine ⟨q + 1, l.set q (mkByte (k + 2) q), by have := HQ.out; omega, by go_num, HKP.out.setCell (.inl (Nat.le_refl _)) _, ?_, by rw [List.length_set]; exact HLL.out⟩
                    rw [HXX.out]
                    exact HRW.out.set q _
                · have hqe : q = 64 := by have := HQ.out; omega
                  subst hqe
                  have hst := (HST.out.all HKP.out).reset k
                  have HST2 := Fact.mk hst
                  have c0 := HL.out _ hst.keep k hk2
                  rw [HV.out] at c0
                  have HB2 := Fact.mk (HB.out.keep HKP.out trivial)
                  have y1 : wr.cell? ⟨bg, k, none⟩ = some (g k) := HB2.out.cell k _ (two_get g hk2)
                  have y2 := HB2.out.free k
                  have HO : Fact (wr.ownsRow 0 5 1 (.slice A (n k) c) (n k) ((marks k (n k)).map u8v)) := ⟨by
                    have := (hst.twin k hk2).1
                    rw [HV.out] at this
                    simpa [Row] using this⟩
                  obtain ⟨N, hN⟩ : ∃ N, N = (some (⟨wr.heap.size, 0, none⟩ : Addr)) := ⟨_, rfl⟩
                  have HSL := Fact.mk (By.of_own (n := l.length) (l := l) (base := 0) (e := 5) (by rw [HLL.out]; have := HRW.out; rw [Row, HLL.out] at this; exact this))
                  have HF : Fact (Fits (n k) 64 1) := ⟨Fits.of (Small.of (by omega)) 1 (by decide)⟩
                  clear hst hN
                  go_wp2_with (at_builtin; go_must (refine wpList_lain rfl _ _ 23 5 1 1 0 (n k) 64 HO.out (by have := HSL.out; rw [By, HLL.out] at this; exact this) rfl T23 rfl rfl (by decide) HF.out (Nat.zero_le _) ?_); intro v' w1 ho hg hl; obtain ⟨A1, c1', rfl⟩ := own_form ho; obtain ⟨h1, hkz⟩ := HST2.out.grow hk2 (news := l) (by rw [upd_same, marks_len, HLL.out]; exact ho) (by rw [upd_same, HV.out]; exact hg) (by rw [upd_same, upd_same, HV.out, marks_len, HLL.out]; exact hl); have H1 := Fact.mk h1; have HB5 := Fact.mk (HB2.out.keep hkz rfl); have z1 := HB5.out.cell k _ (two_get g hk2); have z2 := HB5.out.free k; clear ho hg hl h1 hkz)
                  go_roundg (2 - (k + 1))
                  case measure => have := HK.out; omega
                  case rel =>
                    refine ⟨k + 1, _, _, by have := HK.out; omega, by go_num, H1.out.aside ((Keep.refl _ _).setCell (.inr (by simp)) _), ?_, fun r hr => ?_⟩
                    · have := HB5.out.set k (.slice A1 (n k + 64) c1')
                      rw [two_set _ hk2] at this
                      rw [← two_like (c := upd g k (.slice A1 (n k + 64) c1')) fun r hr => ?_]
                      · exact this
                      · by_cases hrk : r = k
                        · subst hrk; rw [upd_same, upd_same]
                        · rw [upd_ne _ _ hrk, upd_ne _ _ hrk, upd_ne _ _ hrk]
                    · by_cases hrk : r = k
                      · subst hrk; rw [upd_same, upd_same]; exact List.prefix_append _ _
                      · rw [upd_ne _ _ hrk, upd_ne _ _ hrk]; exact HP.out r hr
            · have hke : k = 2 := by have := HK.out; omega
              subst hke
              go_wp2
              go_meet
              case rel => exact ⟨g, ys, HST.out, HB.out, HP.out⟩
        case rest =>
          obtain ⟨g, ys, hst, hblk, hpre⟩ := hcut
          have HS5 := Fact.mk hst
          have HB5 := Fact.mk hblk
          have HP5 := Fact.mk hpre
          clear hst hblk hpre HS4 HB4
          go_upto_block 16 with (fail)
          go_cut [] (fun w' => Keep All wc w')
          case first =>
            go_wp2
            go_loopg [14] 2 (fun g0 i w' => ∃ k, k + g0 = 2 ∧ i = .int .i64 k ∧ Keep All wc w')
            case atStart => exact ⟨0, rfl, rfl, Keep.refl _ _⟩
            case round =>
              obtain ⟨k, hk, rfl, hkp⟩ := hrel
              have HK := Fact.mk hk
              have HKP := Fact.mk hkp
              clear hk hkp
              by_cases hlt : (k : Int) < 2
              · have hk2 : k < 2 := by omega
                obtain ⟨A, c, hv, hnc, hcm, -⟩ := (HS5.out.twin k hk2).1.open
                obtain ⟨A', c', hg, hnc', hcm', -⟩ := (HS5.out.twin k hk2).2.1.open
                have hly : n k ≤ (ys k).length := by have := (HP5.out k hk2).length_le; simpa using this
                simp only [marks_len] at hv hnc
                obtain ⟨m, hm⟩ : ∃ m, m = (ys k).length := ⟨_, rfl⟩
                rw [← hm] at hg hnc' hly
                have HV := Fact.mk hv
                have HG := Fact.mk hg
                have HNK := HN.out k hk2
                clear hv hg hcm hm
                have hcm := hcm'
                unfold maxLen at hcm
                clear hcm'
                go_wp2
                go_loopg [15] (n k) (fun g0 j w' => ∃ q, q + g0 = n k ∧ j = .int .i64 q ∧ Keep All wc w')
                case atStart => exact ⟨0, by omega, rfl, HKP.out⟩
                case round =>
                  obtain ⟨q, hq, rfl, hkp⟩ := hrel
                  have HQ := Fact.mk hq
                  have HKP2 := Fact.mk hkp
                  have c0 := HL.out _ (HS5.out.all hkp).keep k hk2
                  rw [HV.out] at c0
                  have c1 := (HB5.out.keep hkp trivial).cell k _ (two_get g hk2)
                  rw [HG.out] at c1
                  have R1 := Fact.mk ((HS5.out.all hkp).twin k hk2).2.1
                  have R2 := Fact.mk ((HS5.out.all hkp).twin k hk2).1
                  clear hq hkp
                  by_cases hqn : (q : Int) < n k
                  · obtain ⟨b', rfl, d1⟩ := R1.out.markp (HP5.out k hk2) HG.out (j := q) (by omega)
                    obtain ⟨b, rfl, d2⟩ := R2.out.mark HV.out (j := q) (by omega)
                    have hqm : (q : Int) < m := by omega
                    go_wp2
                    go_quiet ((go_at_call 32; exact markQ _ k q _ (by omega) (by omega)))
                    go_wp2
                    go_roundg (gk - 1)
                    case measure => have := HQ.out; omega
                    case rel => exact ⟨q + 1, by have := HQ.out; omega, by go_num, HKP2.out.trans ((Keep.refl _ _).drewN _)⟩
                  · have hqe : q = n k := by have := HQ.out; omega
                    subst hqe
                    go_wp2
                    go_roundg (2 - (k + 1))
                    case measure => have := HK.out; omega
                    case rel => exact ⟨k + 1, by have := HK.out; omega, by go_num, HKP2.out⟩
              · have hke : k = 2 := by have := HK.out; omega
                subst hke
                go_wp2
                go_meet
                case rel => exact HKP.out
          case rest =>
            have HEND := Fact.mk (HS5.out.keep.trans (hcut.all (G := Free v)))
            go_wp2
            go_ret
            exact ⟨rfl, HEND.out⟩
end Go.Proofs.YtddmbdigdnmfgaaGreatDoor
