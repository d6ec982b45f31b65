/- bytes.Repeat, times. -/
import Derived.Lib.MakeNoZero
import Derived.Test.YtddmbdigdnmfgaaGreatDoorQShelf2
import Derived.Test.YtddmbdigdnmfgaaGreatDoorQBWords
namespace Go.Proofs.YtddmbdigdnmfgaaGreatDoor
open Go.RowKit
set_option maxHeartbeats 1000000
set_option maxRecDepth 100000

theorem mul205 (x y : Nat) (h : x * y < 18446744073709551616) (hx : x < 18446744073709551616) (hy : y < 18446744073709551616) (w : World) :
    Calls Tryz.prog 205 #[.int .u64 x, .int .u64 y] w fun e w' => e = .returned (.tuple #[.int .u64 0, .int .u64 ((x * y : Nat) : Int)]) ∧ w' = w := by
  have hm := Any.bits_Mul { Tryz.lays105 with } x y hx hy w
  rw [Nat.div_eq_of_lt h, Nat.mod_eq_of_lt h] at hm
  exact hm
def repP (b : List UInt8) (N : Nat) : List UInt8 := (List.range N).map fun k => b.getD (k % b.length) 0
def timesP (b : List UInt8) (n : Nat) : List UInt8 := if b.length = 0 then [] else repP b (b.length * min n (2048 / b.length + 1))
/-- Bytes in a new slice. -/
def NewBy (w : World) (l : List UInt8) (e : Ending) (w' : World) : Prop := ∃ A c, e = .returned (.slice A l.length c) ∧ By w' (fun i => w.heap.size ≤ i) (.slice A l.length c) l ∧ Keep All w w'
theorem repP_len (b : List UInt8) (N : Nat) : (repP b N).length = N := by simp [repP]
theorem make226 (w : World) (n : Nat) (hn : n ≤ 281474976710656) : ∃ cs : List Value, (callFunc 226 #[.int .i64 n]).run Tryz.prog w = .ok (.value (.slice (some ⟨w.heap.size, 0, none⟩) n cs.length)) (w.drew.drew.alloc (.cells cs.toArray 5)) ∧ n ≤ cs.length ∧ (n ≤ maxLen → cs.length ≤ maxLen) := by
  obtain ⟨cs, hr, h1, h2⟩ := Lib.run_makeNoZero (P := Tryz.prog) w #[3] 23 5 Tryz.underlying23 n hn
  refine ⟨cs.toList, ?_, by simpa using h1, by simpa using h2⟩
  rw [run_callFunc_extern Tryz.func226 (by kernel_rfl) (by kernel_rfl) (by kernel_rfl) (e := Extern.BytealgMakeNoZero.makeNoZero #[3] #[23]) (by kernel_rfl), hr]
  simp
/-- The begin of a row is the bytes again and again. -/
def Pat (b : List UInt8) (cur : List Value) (bp : Nat) : Prop := ∀ k, k < bp → cur[k]? = some (u8v (b.getD (k % b.length) 0))
theorem Pat.step {b : List UInt8} {cur : List Value} {bp K : Nat} (h : Pat b cur bp) (hd : b.length ∣ bp) (hK : K ≤ bp) (hl : bp + K ≤ cur.length) : Pat b (cur.take bp ++ cur.take K ++ cur.drop (bp + K)) (bp + K) := by
  intro k hk
  rw [List.append_assoc]
  by_cases h1 : k < bp
  · rw [List.getElem?_append_left (by rw [List.length_take]; omega), List.getElem?_take, if_pos h1]
    exact h k h1
  · rw [List.getElem?_append_right (by rw [List.length_take]; omega), List.length_take, Nat.min_eq_left (by omega), List.getElem?_append_left (by rw [List.length_take]; omega), List.getElem?_take, if_pos (by omega), h _ (by omega)]
    obtain ⟨q, hq⟩ := hd
    rw [show k % b.length = (k - bp) % b.length by
      rw [show k = (k - bp) + b.length * q by omega, Nat.add_mul_mod_self_left]
      congr 1
      omega]
theorem Pat.start {b : List UInt8} {cur : List Value} : Pat b (cur.take 0 ++ b.map u8v ++ cur.drop (0 + (b.map u8v).length)) b.length := by
  intro k hk
  rw [List.take_zero, List.nil_append, List.getElem?_append_left (by simpa using hk), List.getElem?_map, List.getElem?_eq_getElem hk, Nat.mod_eq_of_lt hk]
  simp [List.getD_eq_getElem?_getD, List.getElem?_eq_getElem hk]
theorem rep203 (w : World) (G : Nat → Prop) (A : Option Addr) (c count : Nat) (b : List UInt8) (h : By w G (.slice A b.length c) b) (hb : 0 < b.length) (hN : b.length * count ≤ 8192) :
    Calls Tryz.prog 203 #[.slice A b.length c, .int .i64 count] w (NewBy w (repP b (b.length * count))) := by
  rcases Nat.eq_zero_or_pos count with rfl | hcp
  · clear h
    go_enter Tryz.func203, Tryz.ntmps203
    go_wp2
    go_ret
    refine ⟨some ⟨w.heap.size, 0, none⟩, 0, by rw [repP_len]; rfl, ?_, (Keep.refl _ _).alloc _⟩
    have : repP b (b.length * 0) = [] := by simp [repP]
    rw [this]
    exact Sl.of_own (World.ownsRow_made w #[] 0 (Nat.le_refl _) (Nat.zero_le _) rfl) (by simp)
  · have hbl : b.length ≤ 8192 := Nat.le_trans (Nat.le_mul_of_pos_right _ hcp) hN
    have hcl : count ≤ 8192 := Nat.le_trans (Nat.le_mul_of_pos_left _ hb) hN
    have hlN : b.length ≤ b.length * count := Nat.le_mul_of_pos_right _ hcp
    have C205 := Fact.mk (mul205 b.length count (by omega) (by omega) (by omega))
    have HDV : Fact (b.length ∣ b.length * count) := ⟨Nat.dvd_mul_right _ _⟩
    obtain ⟨N, hNe⟩ : ∃ N, N = b.length * count := ⟨_, rfl⟩
    rw [← hNe] at C205 hN hlN HDV ⊢
    obtain ⟨cs, hmk, hcs1, hcs2⟩ := make226 w N (by omega)
    have HC1 := Fact.mk (hcs2 (by unfold maxLen; omega))
    obtain ⟨W, hW⟩ : ∃ X, X = w.drew.drew.alloc (.cells cs.toArray 5) := ⟨_, rfl⟩
    have KW : Fact (Keep All w W) := ⟨hW ▸ ((Keep.refl _ w).drew.drew.alloc _)⟩
    have BW : Fact (Blk W w.heap.size cs 5) := ⟨hW ▸ Blk.new w.drew.drew cs 5⟩
    rw [← hW] at hmk
    obtain ⟨A', c', he, hn, hcm, hA, hat⟩ := h.open
    simp only [Value.slice.injEq, true_and] at he
    obtain ⟨rfl, rfl⟩ := he
    obtain ⟨ab, ao, rfl, hg, hcell⟩ := hat hb
    have hcp1 : ∀ ty, (Builtin.copy_ #[23, 23] ty #[.slice (some ⟨w.heap.size, 0, none⟩) N N, .slice (some ⟨ab, ao, none⟩) b.length c]).run Tryz.prog W = .ok (goInt b.length) (W.setRow w.heap.size (cs.take 0 ++ b.map u8v ++ cs.drop (0 + (b.map u8v).length)).toArray) := fun ty => by
      have := run_copyR (P := Tryz.prog) (w := W) 23 23 ty 5 1 1 0 N N b.length c ⟨ab, ao, none⟩ (b.map u8v) T23 BW.out (by rw [List.length_map, show Nat.min b.length N = b.length from Nat.min_eq_left hlN, Nat.mul_one]) (fun j v hj => by
        rw [add_at]
        have hjl : j < b.length := by have := (List.getElem?_eq_some_iff.1 hj).1; simpa using this
        have e := KW.out.cell (p := ⟨ab, ao + j, none⟩) trivial (hcell j hjl)
        rw [List.getElem?_map, List.getElem?_eq_getElem hjl] at hj
        simp only [Option.map_some, Option.some.injEq] at hj
        rw [← hj]
        simpa [u8v, List.getElem?_eq_getElem hjl] using e) (u8v_one b) (by simp only [List.length_map]; omega)
      rwa [show Nat.min b.length N = b.length from Nat.min_eq_left hlN] at this
    obtain ⟨cur0, hcur0⟩ : ∃ q, q = cs.take 0 ++ b.map u8v ++ cs.drop (0 + (b.map u8v).length) := ⟨_, rfl⟩
    rw [← hcur0] at hcp1
    obtain ⟨W2, hW2⟩ : ∃ X, X = W.setRow w.heap.size cur0.toArray := ⟨_, rfl⟩
    have BW2 : Fact (Blk W2 w.heap.size cur0 5) := ⟨hW2 ▸ BW.out.setRow cur0⟩
    have KW2 : Fact (Keep All w W2) := ⟨hW2 ▸ KW.out.setRow (.inl (Nat.le_refl _)) _⟩
    rw [← hW2] at hcp1
    have PW2 : Fact (Pat b cur0 b.length) := ⟨hcur0 ▸ Pat.start⟩
    have LW2 : Fact (cur0.length = cs.length) := ⟨by
      rw [hcur0]
      simp only [List.length_append, List.length_take, List.length_drop, List.length_map]
      omega⟩
    have n1 : ¬ (count : Int) = 0 := by omega
    have n2 : ¬ (count : Int) < 0 := by omega
    have n3 : ¬ (b.length : Int) = 0 := by omega
    have n3b : ((b.length : Int) == 0) = false := by simpa using n3
    have n4 : ¬ (8192 : Int) < N := by omega
    have n4b : decide ((8192 : Int) < N) = false := by simpa using n4
    have n5b : decide ((9223372036854775807 : Int) < N) = false := by simp; omega
    have n5 : ¬ (9223372036854775807 : Int) < N := by omega
    have n6 : (N : Int) ≤ cs.length := by omega
    have n7 : (b.length : Int) ≤ 8192 := by omega
    have n8 : (count : Int) ≤ 8192 := by omega
    have n9 : b.length ≤ 9223372036854775807 := by omega
    clear h hW hW2 hat hcell hg hA hcur0 hcs2 hNe
    go_enter Tryz.func203, Tryz.ntmps203
    go_wp2_with (go_at_call 205; go_must (refine (C205.out _).mono ?_); rintro e v ⟨rfl, hv⟩; rw [hv]; clear hv)
    go_loopg [10] N (fun g vj wr => ∃ (bp : Nat) (cur : List Value), N ≤ bp + g ∧ bp ≤ N ∧ vj = .int .i64 bp ∧ Fact (Blk wr w.heap.size cur 5) ∧ Fact (cur.length = cs.length) ∧ Fact (Pat b cur bp) ∧ Fact (b.length ∣ bp) ∧ 0 < bp ∧ Fact (Keep All w wr))
    case atStart => exact ⟨b.length, cur0, by omega, hlN, rfl, BW2, LW2, PW2, ⟨Nat.dvd_refl _⟩, hb, KW2⟩
    case round =>
      obtain ⟨bp, cur, hg, hbp, rfl, hblk, hcl, hpat, hdv, hp0, hkp⟩ := hrel
      have HG := Fact.mk hg
      clear hg
      by_cases hlt : bp < N
      · have hlti : (bp : Int) < N := by omega
        have hmin : min (bp : Int) (N : Int) = (bp : Int) := by omega
        have b0 : (0 : Int) ≤ bp := by omega
        have b1 : (bp : Int) ≤ N := by omega
        have b2 : ¬ N = bp := by omega
        have b3 : ¬ (N : Int) = bp := by omega
        go_upto_region 20 with (fail)
        refine wp_region_T 9 (fun _ => True) (by kernel_rfl) trivial (fun hHeld => ?_)
        refine takeA (i := 0) (v := ?_) rfl (by kernel_rfl) (by kernel_rfl) (by kernel_rfl) (fun _ => trivial) (fun _ _ _ h => h) rfl ?_ ?_
        rotate_left
        · (intro w hSw; (try dsimp only at hSw); go_simp; try with_reducible rfl)
        try simp only [Act.put, List.setIfInBounds_toArray, List.set_cons_zero, List.set_cons_succ]
        refine takeA (i := 1) (v := ?_) rfl (by kernel_rfl) (by kernel_rfl) (by kernel_rfl) (fun _ => trivial) (fun _ _ _ h => h) rfl ?_ ?_
        rotate_left
        · (intro w hSw; (try dsimp only at hSw); go_simp; try with_reducible rfl)
        try simp only [Act.put, List.setIfInBounds_toArray, List.set_cons_zero, List.set_cons_succ]
        refine takeA (i := 2) (v := ?_) rfl (by kernel_rfl) (by kernel_rfl) (by kernel_rfl) (fun _ => trivial) (fun _ _ _ h => h) rfl ?_ ?_
        rotate_left
        · (intro w hSw; (try dsimp only at hSw); go_simp; try with_reducible rfl)
        try simp only [Act.put, List.setIfInBounds_toArray, List.set_cons_zero, List.set_cons_succ]
        refine takeA (i := 3) (v := ?_) rfl (by kernel_rfl) (by kernel_rfl) (by kernel_rfl) (fun _ => trivial) (fun _ _ _ h => h) rfl ?_ ?_
        rotate_left
        · (intro w hSw; (try dsimp only at hSw); go_simp; try with_reducible rfl)
        try simp only [Act.put, List.setIfInBounds_toArray, List.set_cons_zero, List.set_cons_succ]
        refine takeA (i := 4) (v := ?_) rfl (by kernel_rfl) (by kernel_rfl) (by kernel_rfl) (fun _ => trivial) (fun _ _ _ h => h) rfl ?_ ?_
        rotate_left
        · (intro w hSw; (try dsimp only at hSw); go_simp; try with_reducible rfl)
        try simp only [Act.put, List.setIfInBounds_toArray, List.set_cons_zero, List.set_cons_succ]
        refine takeA (i := 5) (v := ?_) rfl (by kernel_rfl) (by kernel_rfl) (by kernel_rfl) (fun _ => trivial) (fun _ _ _ h => h) rfl ?_ ?_
        rotate_left
        · (intro w hSw; (try dsimp only at hSw); go_simp; try with_reducible rfl)
        try simp only [Act.put, List.setIfInBounds_toArray, List.set_cons_zero, List.set_cons_succ]
        refine takeA (i := 6) (v := ?_) rfl (by kernel_rfl) (by kernel_rfl) (by kernel_rfl) (fun _ => trivial) (fun _ _ _ h => h) rfl ?_ ?_
        rotate_left
        · (intro w hSw; (try dsimp only at hSw); go_simp; try with_reducible rfl)
        try simp only [Act.put, List.setIfInBounds_toArray, List.set_cons_zero, List.set_cons_succ]
        refine nextT (i := 7) (by kernel_rfl) rfl (fun K hK => ?_)
        rw [if_pos (show Region.wanted _ _ = true by simp [Region.wanted])]
        obtain ⟨k, hk⟩ : ∃ k, k = Nat.min bp (N - bp) := ⟨_, rfl⟩
        have hk1 : k ≤ bp := hk ▸ Nat.min_le_left _ _
        have hk2 : k ≤ N - bp := hk ▸ Nat.min_le_right _ _
        have hk3 : 0 < k := by rw [hk]; exact Nat.lt_min.2 ⟨hp0, by omega⟩
        have hkd : b.length ∣ bp + k := by
          rcases Nat.le_total bp (N - bp) with h | h
          · rw [hk, show Nat.min bp (N - bp) = bp from Nat.min_eq_left h]
            exact Nat.dvd_add hdv.out hdv.out
          · rw [hk, show Nat.min bp (N - bp) = N - bp from Nat.min_eq_right h, show bp + (N - bp) = N by omega]
            exact HDV.out
        have hcl1 := hcl.out
        have htl : (cur.take k).length = k := by rw [List.length_take]; omega
        refine wp_copyR (.tmp 70) (.tmp 73) 23 23 5 1 1 bp (N - bp) (N - bp) bp N ⟨w.heap.size, 0, none⟩ (cur.take k) T23 rfl rfl rfl hblk.out.drew (by rw [htl, hk, Nat.mul_one]) (fun j v hj => hblk.out.drew.cut 0 k j v hj) (fun u hu => ?_) (by rw [htl]; omega) ?_
        · obtain ⟨j, hj, rfl⟩ := List.getElem_of_mem hu
          rw [htl] at hj
          rw [List.getElem_take]
          have := hpat.out j (by omega)
          rw [List.getElem?_eq_getElem (by omega)] at this
          simp only [Option.some.injEq] at this
          rw [this]
          rfl
        rw [htl, ← hk]
        obtain ⟨cur', hcur'⟩ : ∃ q, q = cur.take bp ++ cur.take k ++ cur.drop (bp + k) := ⟨_, rfl⟩
        rw [← hcur']
        obtain ⟨W', hW'⟩ : ∃ X, X = wr.drew.setRow w.heap.size cur'.toArray := ⟨_, rfl⟩
        have B' : Fact (Blk W' w.heap.size cur' 5) := ⟨hW' ▸ hblk.out.drew.setRow cur'⟩
        have K' : Fact (Keep All w W') := ⟨hW' ▸ hkp.out.drew.setRow (.inl (Nat.le_refl _)) _⟩
        have P' : Fact (Pat b cur' (bp + k)) := ⟨hcur' ▸ hpat.out.step hdv.out hk1 (by omega)⟩
        have L' : Fact (cur'.length = cs.length) := ⟨by
          rw [hcur']
          simp only [List.length_append, List.length_take, List.length_drop]
          omega⟩
        have HKD := Fact.mk hkd
        have hk9 : (bp : Int) + k ≤ 9223372036854775807 := by omega
        have hwr : IntKind.i64.wrap ((bp : Int) + k) = (bp : Int) + k := by rw [IntKind.wrap_i64]; omega
        rw [← hW']
        clear hW' hcur' htl hcl1 hk hkd
        refine hK.out _ _ (trivial) (fun hHeld => ?_)
        clear hK K
        try simp only [Act.put, List.setIfInBounds_toArray, List.set_cons_zero, List.set_cons_succ]
        refine nextT (i := 8) (by kernel_rfl) rfl (fun K hK => ?_)
        go_simp
        refine hK.out _ _ (trivial) (fun hHeld => ?_)
        clear hK K
        try simp only [Act.put, List.setIfInBounds_toArray, List.set_cons_zero, List.set_cons_succ]
        refine lastT (by kernel_rfl) (by kernel_rfl) rfl (fun K hK => ?_)
        go_simp
        refine hK.out _ _ ?_
        clear hK K
        try simp only [Act.put, List.setIfInBounds_toArray, List.set_cons_zero, List.set_cons_succ]
        go_wp2
        go_roundg (gk - 1)
        case measure => have := HG.out; omega
        case rel => exact ⟨bp + k, cur', by have := HG.out; omega, by omega, by go_num, B', L', P', HKD, by omega, K'⟩
      · obtain rfl : bp = N := by omega
        go_wp2
        go_ret
        have hcl1 := hcl.out
        refine ⟨some ⟨w.heap.size, 0, none⟩, bp, by rw [repP_len]; rfl, ?_, hkp.out⟩
        have hml : bp ≤ maxLen := by unfold maxLen; omega
        refine ⟨u8v_one _, some ⟨w.heap.size, 0, none⟩, bp, rfl, by simp, by rw [repP_len]; exact Nat.le_refl _, hml, (fun e => by cases e), fun _ => ⟨w.heap.size, 0, rfl, Nat.le_refl _, fun j hj => ?_⟩⟩
        have hj2 : j < bp := by simpa [repP] using hj
        have := hpat.out j hj2
        rw [hblk.out.cell (0 + j) _ (by rw [Nat.zero_add]; exact this)]
        simp [repP, List.getD_eq_getElem?_getD, hj2]
theorem times169 (w : World) (G : Nat → Prop) (A : Option Addr) (c n : Nat) (b : List UInt8) (h : By w G (.slice A b.length c) b) (hb : b.length ≤ 2048) :
    Calls Tryz.prog 169 #[.slice A b.length c, .int .i64 n] w (NewBy w (timesP b n)) := by
  rcases Nat.eq_zero_or_pos b.length with h0 | h0
  · have HF : Fact (timesP b n = []) := ⟨by rw [timesP, if_pos h0]⟩
    rw [h0]
    go_enter Tryz.func169, Tryz.ntmps169
    go_wp2
    go_ret
    rw [HF.out]
    exact ⟨none, 0, rfl, By.nil _ _, Keep.refl _ _⟩
  · obtain ⟨k, hk⟩ : ∃ k, k = min n (2048 / b.length + 1) := ⟨_, rfl⟩
    have HF : Fact (timesP b n = repP b (b.length * k)) := ⟨by rw [timesP, if_neg (by omega), ← hk]⟩
    have hkl : b.length * k ≤ 8192 := by
      have h1 : b.length * (2048 / b.length) ≤ 2048 := Nat.mul_div_le _ _
      have h2 : b.length * k ≤ b.length * (2048 / b.length + 1) := Nat.mul_le_mul_left _ (by omega)
      rw [Nat.mul_add] at h2
      omega
    obtain ⟨q, hq⟩ : ∃ q : Nat, q = 2048 / b.length := ⟨_, rfl⟩
    have hqi : (2048 : Int) / (b.length : Int) = (q : Int) := by rw [hq]; simp
    have hq9 : q ≤ 2048 := hq ▸ Nat.div_le_self _ _
    have hmin : min (n : Int) ((q : Int) + 1) = (k : Int) := by
      have hk' : k = min n (q + 1) := by rw [hk, hq]
      clear hk hq hqi hkl HF
      omega
    have hb0 : ((b.length : Int) == 0) = false := by rw [beq_eq_false_iff_ne]; omega
    have hb1 : ¬ (b.length : Int) = 0 := by omega
    have hb9 : (b.length : Int) ≤ 2048 := by omega
    have CR := Fact.mk (fun w' (hk : Keep All w w') => rep203 w' G A c k b (h.keep hk.all) h0 hkl)
    clear h hk hq
    go_enter Tryz.func169, Tryz.ntmps169
    go_wp2_with (go_at_call 203; go_must (refine (CR.out _ (Keep.refl _ _)).mono ?_); rintro e w1 ⟨A1, c1, rfl, hby, hk⟩; have HY := Fact.mk hby; have K1 := Fact.mk hk; clear hby hk)
    go_ret
    rw [HF.out]
    exact ⟨A1, c1, rfl, HY.out, K1.out⟩
section
variable (w : World) (p base used fuel at_ : Nat) (ov pv : Value) (rest : List Value)
theorem word12 (pile : List PNode) (n m : Nat) (tA : Option Addr) (tn tc : Nat) (OA : Option Addr) (nops oc : Nat) (h : BSt w p base used fuel at_ (.slice OA nops oc) rest pile pv) : Calls Tryz.prog 114 #[.pointer (some ⟨p, 0, none⟩), .agg #[.int .i64 12, .int .i64 (n : Int), .int .i64 (m : Int), .slice tA tn tc]] w (OpOut (Kb base p) w p base used fuel (.slice OA nops oc) rest (wordR (fun r x => putR r [.mk 1 (timesP x.bytes n) []] at_) pile)) := by
  have H := Fact.mk h
  have KB : Fact (Keep All w (w.alloc (.cells #[.int .i64 12, .int .i64 (n : Int), .int .i64 (m : Int), .slice tA tn tc] 25))) := ⟨(Keep.refl _ w).alloc _⟩
  have HOB : Fact (Blk (w.alloc (.cells #[.int .i64 12, .int .i64 (n : Int), .int .i64 (m : Int), .slice tA tn tc] 25)) w.heap.size [.int .i64 12, .int .i64 (n : Int), .int .i64 (m : Int), .slice tA tn tc] 25) := ⟨Blk.new w _ 25⟩
  have hwp : w.heap.size ≠ p := by have := h.pb; have := h.size; omega
  obtain ⟨RR, hRR⟩ : ∃ q, q = wordR (fun r x => putR r [.mk 1 (timesP x.bytes n) []] at_) pile := ⟨_, rfl⟩
  rw [← hRR]
  have HRR := Fact.mk hRR
  have KFb : ∀ i, Kb base p i → i ≠ p := fun i hi => hi.2
  clear h hRR
  rcases pile_cases pile with rfl | ⟨xs, x, rfl⟩
  · have HF : Fact (RR = none) := ⟨by rw [HRR.out]; simp [wordR]⟩
    go_enter Tryz.func114, Tryz.ntmps114
    go_wp2_with (go_at_call 167; go_must (refine (text167_nil _ p base used fuel at_ (.slice OA nops oc) pv rest (H.out.keep KB.out)).mono ?_); rintro e v hb; have HB := Fact.mk hb; obtain ⟨he, -⟩ := hb; unfold errFail at he; subst he)
    refine ⟨rfl, ?_⟩
    rw [HF.out]
    exact (HB.out.opout (K := Kb base p) KFb).from_ KB.out.all fun _ h => h
  · by_cases hx1 : x.kind = 1
    rotate_left
    · have HF : Fact (RR = none) := ⟨by rw [HRR.out]; simp [wordR, hx1]⟩
      go_enter Tryz.func114, Tryz.ntmps114
      go_wp2_with (go_at_call 167; go_must (refine (text167_not _ p base used fuel at_ (.slice OA nops oc) pv rest xs x (H.out.keep KB.out) hx1).mono ?_); rintro e v hb; have HB := Fact.mk hb; obtain ⟨he, -⟩ := hb; unfold errFail at he; subst he)
      refine ⟨rfl, ?_⟩
      rw [HF.out]
      exact (HB.out.opout (K := Kb base p) KFb).from_ KB.out.all fun _ h => h
    have HX1 := Fact.mk hx1
    have hxb : x.bytes.length ≤ 2048 := by
      have := rightP_small H.out.rightTop
      obtain ⟨k, b, kk⟩ := x
      rw [SmallN] at this
      exact this.1
    have HXB := Fact.mk hxb
    obtain ⟨tb, htb⟩ : ∃ q, q = timesP x.bytes n := ⟨_, rfl⟩
    have HF : Fact (RR = putR xs [.mk 1 tb []] at_) := ⟨by rw [HRR.out, htb]; simp [wordR, hx1]⟩
    have HTB := Fact.mk htb
    have htl : tb.length ≤ 8192 := by
      rw [htb, timesP]
      split
      · simp
      · rw [repP_len]
        have h1 : x.bytes.length * (2048 / x.bytes.length) ≤ 2048 := Nat.mul_div_le _ _
        have h2 : x.bytes.length * min n (2048 / x.bytes.length + 1) ≤ x.bytes.length * (2048 / x.bytes.length + 1) := Nat.mul_le_mul_left _ (by omega)
        rw [Nat.mul_add] at h2
        omega
    clear htb
    go_enter Tryz.func114, Tryz.ntmps114
    go_upto_region 8 with (go_at_call 167; go_must (refine (text167g _ p base used fuel at_ (.slice OA nops oc) pv rest xs x (H.out.keep KB.out) hx1).mono ?_); rintro e w1 ⟨xs', x', hpe, A, c, pv1, he, hb, hpv1, hby, hk⟩; obtain ⟨hxe, hx'⟩ := List.append_inj' hpe rfl; simp only [List.cons.injEq, and_true] at hx'; subst hxe hx' he; have HB1 := Fact.mk hb; have HBY := Fact.mk hby; have K1 := Fact.mk (KB.out.all.trans hk); have bo := HOB.out.keep hk hwp; have HO1 := Fact.mk bo; have o0 := bo.cell 0 _ rfl; have o1 := bo.cell 1 _ rfl; have o2 := bo.cell 2 _ rfl; have ol := bo.lt; have HPV := Fact.mk hpv1; clear hb hby hk hpe bo hpv1)
    have HBW := Fact.mk (HB1.out.keep (Keep.refl _ w1).drew)
    have KF : Fact (Keep (Kb base p) w w1.drew) := ⟨(K1.out.mono fun i hi => hi.2).drew⟩
    have HXG : Gp p pv1 w.heap.size := ⟨hwp, fun e => by have h2 := HB1.out.row_lt e; rw [HPV.out] at e; have h3 := (H.out.row_lt e).2; omega⟩
    refine wp_region_T 99 (fun w' => w'.cell? ⟨w.heap.size, 1, none⟩ = some (.int .i64 n)) (by kernel_rfl) (by go_keep) (fun hHeld => ?_)
    refine takeH (i := 0) (v := ?_) rfl (by kernel_rfl) (by kernel_rfl) (by kernel_rfl) rfl (fun _ _ _ h => h) rfl ?_ (by assumption) ?_
    rotate_left
    · (intro w hSw; (try dsimp only at hSw); go_simp; try with_reducible rfl)
    try simp only [Act.put, List.setIfInBounds_toArray, List.set_cons_zero, List.set_cons_succ]
    refine takeH (i := 1) (v := ?_) rfl (by kernel_rfl) (by kernel_rfl) (by kernel_rfl) rfl (fun _ _ _ h => h) rfl ?_ (by assumption) ?_
    rotate_left
    · (intro w hSw; (try dsimp only at hSw); go_simp; try with_reducible rfl)
    try simp only [Act.put, List.setIfInBounds_toArray, List.set_cons_zero, List.set_cons_succ]
    refine takeH (i := 2) (v := ?_) rfl (by kernel_rfl) (by kernel_rfl) (by kernel_rfl) rfl (fun _ _ _ h => h) rfl ?_ (by assumption) ?_
    rotate_left
    · (intro w hSw; (try dsimp only at hSw); go_simp; try with_reducible rfl)
    try simp only [Act.put, List.setIfInBounds_toArray, List.set_cons_zero, List.set_cons_succ]
    refine takeH (i := 3) (v := ?_) rfl (by kernel_rfl) (by kernel_rfl) (by kernel_rfl) rfl (fun _ _ _ h => h) rfl ?_ (by assumption) ?_
    rotate_left
    · (intro w hSw; (try dsimp only at hSw); go_simp; try with_reducible rfl)
    try simp only [Act.put, List.setIfInBounds_toArray, List.set_cons_zero, List.set_cons_succ]
    refine takeH (i := 4) (v := ?_) rfl (by kernel_rfl) (by kernel_rfl) (by kernel_rfl) rfl (fun _ _ _ h => h) rfl ?_ (by assumption) ?_
    rotate_left
    · (intro w hSw; (try dsimp only at hSw); go_simp; try with_reducible rfl)
    try simp only [Act.put, List.setIfInBounds_toArray, List.set_cons_zero, List.set_cons_succ]
    refine takeH (i := 5) (v := ?_) rfl (by kernel_rfl) (by kernel_rfl) (by kernel_rfl) rfl (fun _ _ _ h => h) rfl ?_ (by assumption) ?_
    rotate_left
    · (intro w hSw; (try dsimp only at hSw); go_simp; try with_reducible rfl)
    try simp only [Act.put, List.setIfInBounds_toArray, List.set_cons_zero, List.set_cons_succ]
    refine nextT (i := 6) (by kernel_rfl) rfl (fun K hK => ?_)
    go_simp
    refine (times169 w1.drew (Gp p pv1) A c n x.bytes (HBY.out.keep (Keep.refl _ w1).drew) HXB.out).mono ?_
    rintro e w2 ⟨A2, c2, rfl, hby2, hk2⟩
    rw [← HTB.out] at hby2
    have HY2 := Fact.mk hby2
    have K2 := Fact.mk hk2
    have o1' := hk2.cell (p := ⟨w.heap.size, 1, none⟩) trivial o1
    rw [← HTB.out]
    clear hby2 hk2 hHeld
    refine hK.out _ _ (o1') (fun hHeld => ?_)
    clear hK K
    try simp only [Act.put, List.setIfInBounds_toArray, List.set_cons_zero, List.set_cons_succ]
    refine nextT (i := 7) (by kernel_rfl) rfl (fun K hK => ?_)
    go_simp
    have KF2 : Fact (Keep (Kb base p) w w2) := ⟨KF.out.trans K2.out.all⟩
    refine (leaf168g w2 p base used fuel at_ (.slice OA nops oc) pv1 rest (Gp p pv1) xs 1 tb A2 c2 (HBW.out.keep K2.out) (HY2.out.mono fun i _ hi => HBW.out.ge hi) (Small.of (by omega))).mono ?_
    intro e w4 hq
    have HQ := Fact.mk hq
    clear hq
    cases e with
    | returned u =>
      refine hK.out _ _ (HQ.out.2.cell (p := ⟨w.heap.size, 1, none⟩) HXG o1') (fun hHeld => ⟨by kernel_rfl, ?_⟩)
      clear hK K
      try simp only [Act.put, List.setIfInBounds_toArray, List.set_cons_zero, List.set_cons_succ]
      go_wp2
      go_end0
      rw [HF.out]
      exact (HQ.out.from_ KF2.out HB1.out.kb).ret
    | panicked ch =>
      dsimp only
      rw [HF.out]
      exact ⟨rfl, HQ.out.from_ KF2.out HB1.out.kb⟩
    | outgrown => exact HQ.out.no.elim
end
end Go.Proofs.YtddmbdigdnmfgaaGreatDoor
