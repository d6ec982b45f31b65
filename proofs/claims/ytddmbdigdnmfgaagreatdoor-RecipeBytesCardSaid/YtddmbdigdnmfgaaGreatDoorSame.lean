/- The law's own small functions: SameBytes, ops, sameOps. -/
import Derived.Test.YtddmbdigdnmfgaaGreatDoorPlain
namespace Go.Proofs.YtddmbdigdnmfgaaGreatDoor
open Go.RowKit
set_option maxHeartbeats 400000
set_option maxRecDepth 100000

theorem take_succ_eq {l1 l2 : List UInt8} {k : Nat} (h : l1.take k = l2.take k) (hx : l1[k]?.getD 0 = l2[k]?.getD 0) (h1 : k < l1.length) (h2 : k < l2.length) : l1.take (k + 1) = l2.take (k + 1) := by
  rw [List.take_succ_eq_append_getElem h1, List.take_succ_eq_append_getElem h2, h]
  simp [List.getElem?_eq_getElem h1, List.getElem?_eq_getElem h2] at hx
  rw [hx]

theorem sameBytes_ne (w : World) (A1 A2 : Option Addr) (n1 n2 c1 c2 : Nat) (h : ((n1 : Int) != (n2 : Int)) = true) :
    Calls Tryz.prog 15 #[.slice A1 n1 c1, .slice A2 n2 c2] w (Quiet w (.bool false)) := by
  go_enter Tryz.func15, Tryz.ntmps15
  go_wp2
  go_ret
  exact ⟨rfl, 0, rfl⟩

theorem sameBytes_nil (w : World) (A1 A2 : Option Addr) (c1 c2 : Nat) :
    Calls Tryz.prog 15 #[.slice A1 0 c1, .slice A2 0 c2] w (Quiet w (.bool true)) := by
  go_enter Tryz.func15, Tryz.ntmps15
  go_wp2
  refine wp_loop_rounds 1 ?_
  rw [rounds_succ]
  go_wp2
  go_ret
  exact ⟨rfl, 0, rfl⟩

theorem sameBytes_eq (w : World) (b1 o1 b2 o2 n c1 c2 : Nat) (l1 l2 : List UInt8) (hn : l1.length = n) (hn2 : l2.length = n) (hm : n ≤ 9223372036854775807)
    (h1 : ∀ j, j < n → w.cell? ⟨b1, o1 + j, none⟩ = some (.int .u8 (l1[j]?.getD 0).toNat)) (h2 : ∀ j, j < n → w.cell? ⟨b2, o2 + j, none⟩ = some (.int .u8 (l2[j]?.getD 0).toNat)) :
    Calls Tryz.prog 15 #[.slice (some ⟨b1, o1, none⟩) n c1, .slice (some ⟨b2, o2, none⟩) n c2] w (Quiet w (.bool (l1 == l2))) := by
  have Hn := Fact.mk hn
  have Hn2 := Fact.mk hn2
  have H1 := Fact.mk h1
  have H2 := Fact.mk h2
  clear hn hn2 h1 h2
  go_enter Tryz.func15, Tryz.ntmps15
  go_wp2
  go_loopw [5] (fun i wr => ∃ k q : Nat, k ≤ n ∧ i = .int .i64 k ∧ l1.take k = l2.take k ∧ wr = w.drewN q) (fun i _ => n - (intOf i).toNat)
  case atStart => exact ⟨0, 0, Nat.zero_le _, rfl, rfl, rfl⟩
  case round =>
    obtain ⟨k, q, hk, rfl, he, rfl⟩ := hrel
    have He := Fact.mk he
    clear he
    by_cases hlt : k < n
    · have h1 := H1.out k hlt
      have h2 := H2.out k hlt
      go_wp2
      go_quiet (fail)
      by_cases hx : l1[k]?.getD 0 = l2[k]?.getD 0
      · have hx1 : (((l1[k]?.getD 0).toNat : Int) != ((l2[k]?.getD 0).toNat : Int)) = false := by rw [hx]; simp
        go_wp2
        go_roundw
        case rel => exact ⟨k + 1, q + nq, by omega, by go_num, take_succ_eq He.out hx (by rw [Hn.out]; omega) (by rw [Hn2.out]; omega), rfl⟩
        case measure => simp [intOf]; omega
      · have hx1 : (((l1[k]?.getD 0).toNat : Int) != ((l2[k]?.getD 0).toNat : Int)) = true := by
          simp only [bne_iff_ne, ne_eq]; intro e; exact hx (UInt8.toNat_inj.1 (by exact_mod_cast e))
        go_wp2
        go_ret
        exact ⟨ret_bool (by symm; rw [beq_eq_false_iff_ne]; rintro rfl; exact hx rfl), drewN2 _ _ _⟩
    · have : k = n := by omega
      subst this
      go_wp2
      go_ret
      refine ⟨ret_bool ?_, _, rfl⟩
      have := He.out
      rw [List.take_of_length_le (by rw [Hn.out]; omega), List.take_of_length_le (by rw [Hn2.out]; omega)] at this
      simp [this]
theorem sameBytes15 (w : World) (G1 G2 : Nat → Prop) (v1 v2 : Value) (l1 l2 : List UInt8) (h1 : By w G1 v1 l1) (h2 : By w G2 v2 l2) :
    Calls Tryz.prog 15 #[v1, v2] w (Quiet w (.bool (l1 == l2))) := by
  obtain ⟨A1, c1, rfl, hn1, hc1, hA1, hx1⟩ := h1.open
  obtain ⟨A2, c2, rfl, hn2, hc2, hA2, hx2⟩ := h2.open
  by_cases hl : l1.length = l2.length
  · by_cases h0 : l1.length = 0
    · have e1 : l1 = [] := List.eq_nil_of_length_eq_zero h0
      have e2 : l2 = [] := List.eq_nil_of_length_eq_zero (by omega)
      subst e1 e2
      exact sameBytes_nil w A1 A2 c1 c2
    · obtain ⟨b1, o1, rfl, -, hk1⟩ := hx1 (by omega)
      obtain ⟨b2, o2, rfl, -, hk2⟩ := hx2 (by omega)
      rw [← hl]
      rw [← hl] at hk2
      exact sameBytes_eq w b1 o1 b2 o2 _ c1 c2 l1 l2 rfl hl.symm (by unfold maxLen at hc1; omega) hk1 hk2
  · have : (l1 == l2) = false := by rw [beq_eq_false_iff_ne]; rintro rfl; exact hl rfl
    rw [this]
    exact sameBytes_ne w A1 A2 _ _ c1 c2 (by simp only [bne_iff_ne, ne_eq]; omega)

theorem T32 : SlTy Tryz.prog 32 88 4 48 := by
  obtain ⟨i, hi, h0, h1, h2⟩ := info_parts (P := Tryz.prog) (e := 88) (z := .agg #[.int .i64 0, .int .i64 0, .int .i64 0, .slice none 0 0]) (size := 4) (bytes := 48) (by kernel_rfl)
  exact ⟨Tryz.underlying32, by decide, i, _, hi, h0, h1, h2, rfl⟩
theorem quiet_add {P : Program} {f : FuncId} {args : Array Value} {w : World} {a n : Nat} {v : Value}
    (h : Calls P f args (w.drewN (a + n)) fun e w' => e = .returned v ∧ ∃ m, w' = (w.drewN (a + n)).drewN m) :
    Calls P f args (w.drewN (a + n)) fun e w'' => e = .returned v ∧ ∃ m, w'' = w.drewN (a + m) :=
  h.mono fun _ _ ⟨he, m, hm⟩ => ⟨he, n + m, by rw [hm, World.drewN_drewN, Nat.add_assoc]⟩
def OpsPost (w : World) (G : Nat → Prop) (l : List POp) (e : Ending) (w' : World) : Prop :=
  ∃ A c, e = .returned (.slice A l.length c) ∧ OpsR w' (fun i => w.heap.size ≤ i ∨ G i) (.slice A l.length c) l ∧ Keep All w w'
theorem ops12 (w : World) (G : Nat → Prop) (v : Value) (l : List POp) (h : OpsR w G v l) (hl : Small (l.length + 1)) :
    Calls Tryz.prog 12 #[v] w (OpsPost w G l) := by
  obtain ⟨A, c, rfl, -, -, -, hat⟩ := h.open
  have HAT := Fact.mk hat
  have HL := Fact.mk hl
  have hlb := hl.le
  clear h hat hl
  go_enter Tryz.func12, Tryz.ntmps12
  go_wp2
  go_loopg [3, 4] l.length (fun g x i w' => ∃ k : Nat, k + g = l.length ∧ i = .int .i64 k ∧ ∃ A1 c1 xs, x = .slice A1 k c1 ∧ w'.ownsRow w.heap.size 88 4 (.slice A1 k c1) k xs ∧ Reps (OpRep w' (fun i => i < w.heap.size ∧ G i)) (l.take k) xs ∧ Keep All w w')
  case atStart => exact ⟨0, by omega, rfl, none, 0, [], rfl, World.ownsRow_nil _ _ _ _, by simp [Reps], Keep.refl _ _⟩
  case round =>
    obtain ⟨k, hkg, rfl, A1, c1, xs, rfl, hown, hreps, hkp⟩ := hrel
    have HG := Fact.mk hkg
    have HO := Fact.mk hown
    have HR := Fact.mk hreps
    have HK := Fact.mk hkp
    clear hkg hown hreps hkp
    by_cases hk : k < l.length
    · obtain ⟨b1, off, Ax, cx, rfl, hb1, hbt, c0, c1', c2, c3⟩ := HAT.out k hk
      have d0 := HK.out.cell trivial c0
      have d1 := HK.out.cell trivial c1'
      have d2 := HK.out.cell trivial c2
      have d3 := HK.out.cell trivial c3
      have hb1w := World.block_lt_of_cell? w _ c0
      simp only at hb1w
      have HBT : Fact (By wr (fun i => i < w.heap.size ∧ G i) (.slice Ax l[k].text.length cx) l[k].text) := ⟨(hbt.mono fun i hi hg => ⟨hi, hg⟩).keep HK.out.all⟩
      have HFI : Fact (Fits k 1 48) := ⟨Fits.of (HL.out.mono (by omega)) 48 (by decide)⟩
      clear c0 c1' c2 c3 hbt hb1
      go_wp2_with fail
      go_region_held3 (fun w' => w'.cell? ⟨b1, off + k * 4, none⟩ = some (.int .i64 l[k].kind) ∧ w'.cell? ⟨b1, off + k * 4 + 1, none⟩ = some (.int .i64 l[k].n) ∧ w'.cell? ⟨b1, off + k * 4 + 2, none⟩ = some (.int .i64 l[k].m) ∧ w'.cell? ⟨b1, off + k * 4 + 3, none⟩ = some (.slice Ax l[k].text.length cx)) (go_keep)
        (first
          | (rw [if_pos (show Region.wanted _ _ = true by simp [Region.wanted])]; go_loud (refine wp_ap (.tmp 11) (.tmp 33) 32 88 4 48 w.heap.size k 1 (HO.out.alloc _).drew ((Sl.new wr 88 4 1 [.int .i64 l[k].kind, .int .i64 l[k].n, .int .i64 l[k].m, .slice Ax l[k].text.length cx] rfl (by decide) (by simp [Value.oneCell'])).keep (Keep.refl _ _).drew) rfl T32 rfl rfl HFI.out (alloc_le HK.out.size) ?_); intro v' w1 ho hg hb; obtain ⟨A2, c2, rfl⟩ := own_form ho; have KT := ((Keep.refl (fun i => i < w.heap.size) wr).alloc _).drew.grown hg (fun j hj => .inr (by have := (HO.out.lt j hj).1; omega)); have KT2 := Fact.mk KT; have KA := Fact.mk ((HK.out.alloc _).drew.grown hg (fun j hj => .inl (HO.out.lt j hj).1)); have HO2 := Fact.mk ho; have y0 := KT.cell hb1w d0; have y1 := KT.cell hb1w d1; have y2 := KT.cell hb1w d2; have y3 := KT.cell hb1w d3; clear ho hg hb KT))
      all_goals
        go_wp2
        go_roundg (gk - 1)
        case measure => have := HG.out; omega
        case rel =>
          refine ⟨k + 1, by have := HG.out; omega, by go_num, A2, c2, xs ++ [.int .i64 l[k].kind, .int .i64 l[k].n, .int .i64 l[k].m, .slice Ax l[k].text.length cx], rfl, HO2.out, ?_, KA.out⟩
          rw [List.take_succ_eq_append_getElem hk]
          refine Reps.append (HR.out.mono fun x c _ h => h.keep (KT2.out.mono fun i h => h.1)) (Reps.one ⟨_, rfl, HBT.out.keep (KT2.out.mono fun i h => h.1)⟩)
    · go_wp2
      go_ret
      have hkl : k = l.length := by have := HG.out; omega
      subst hkl
      refine ⟨A1, c1, rfl, ⟨xs, ?_, ?_⟩, HK.out⟩
      · exact (Sl.of_own HO.out (HR.out.all1 OpRep.one)).mono fun i _ h => .inl h
      · have := HR.out
        rw [List.take_length] at this
        exact this.mono fun x c _ h => h.mono fun i _ hi => .inr hi.2
theorem sameOps16 (w : World) (G1 G2 : Nat → Prop) (v1 v2 : Value) (l : List POp) (h1 : OpsR w G1 v1 l) (h2 : OpsR w G2 v2 l) (hl : Small (l.length + 1)) :
    Calls Tryz.prog 16 #[v1, v2] w (Quiet w (.bool true)) := by
  obtain ⟨A1, c1, rfl, -, -, -, hat1⟩ := h1.open
  obtain ⟨A2, c2, rfl, -, -, -, hat2⟩ := h2.open
  have H1 := Fact.mk hat1
  have H2 := Fact.mk hat2
  have hlb := hl.le
  clear h1 h2 hat1 hat2 hl
  go_enter Tryz.func16, Tryz.ntmps16
  go_wp2
  go_loopw [5] (fun i wr => ∃ k q : Nat, k ≤ l.length ∧ i = .int .i64 k ∧ wr = w.drewN q) (fun i _ => l.length - (intOf i).toNat)
  case atStart => exact ⟨0, 0, Nat.zero_le _, rfl, rfl⟩
  case round =>
    obtain ⟨k, q, hk, rfl, rfl⟩ := hrel
    by_cases hlt : k < l.length
    · obtain ⟨b1, o1, Ax, cx, rfl, -, hb1, c0, c1', c2', c3⟩ := H1.out k hlt
      obtain ⟨b2, o2, Ay, cy, rfl, -, hb2, e0, e1, e2, e3⟩ := H2.out k hlt
      have HB1 := Fact.mk hb1
      have HB2 := Fact.mk hb2
      have q0 : (l[k].kind != l[k].kind) = false := by simp
      have q1 : (l[k].n != l[k].n) = false := by simp
      have q2 : (l[k].m != l[k].m) = false := by simp
      clear hb1 hb2
      go_wp2_with fail
      go_quiet ((go_at_call 15; exact quiet_add ((sameBytes15 _ G1 G2 _ _ _ _ (HB1.out.keep ((Keep.refl _ _).drewN _)) (HB2.out.keep ((Keep.refl _ _).drewN _))).mono fun _ _ h => h)))
      go_wp2
      go_roundw
      case rel => exact ⟨k + 1, q + nq, by omega, by go_num, rfl⟩
      case measure => simp [intOf]; omega
    · go_wp2
      go_ret
      exact ⟨rfl, _, rfl⟩
end Go.Proofs.YtddmbdigdnmfgaaGreatDoor
