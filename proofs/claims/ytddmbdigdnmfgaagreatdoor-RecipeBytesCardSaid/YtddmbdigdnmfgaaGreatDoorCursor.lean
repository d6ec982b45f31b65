import Derived.Test.YtddmbdigdnmfgaaGreatDoorCode
import Derived.Deep.DeepCutAuto
import Derived.Deep.CutBlock
import Derived.Deep.LoopGhost
namespace Go.Proofs.YtddmbdigdnmfgaaGreatDoor
open Go.RowKit
set_option maxHeartbeats 400000
set_option maxRecDepth 100000

/-- How many bytes a number takes. -/
def numLen (n : Nat) : Nat := if n < 128 then 1 else numLen (n / 128) + 1
theorem numLen_small {n : Nat} (h : n < 128) : numLen n = 1 := by rw [numLen, if_pos h]
theorem numLen_big {n : Nat} (h : ¬ n < 128) : numLen n = numLen (n / 128) + 1 := by rw [numLen, if_neg h]
theorem numLen_pos (n : Nat) : 1 ≤ numLen n := by rw [numLen]; split <;> omega
theorem numLen_le (n : Nat) : numLen n ≤ n + 1 := by
  induction n using Nat.strongRecOn with
  | _ n ih =>
    rw [numLen]; split
    · omega
    · have := ih (n / 128) (by omega); omega

/-- No greater than six bytes tell. -/
def Six (n : Nat) : Prop := n < 4398046511104
theorem Six.lt {n : Nat} (h : Six n) : n < 4398046511104 := h
theorem numLen_six {n : Nat} (h : Six n) : numLen n ≤ 6 := by
  have := h.lt
  have e : ∀ m : Nat, ¬ m < 128 → numLen m = numLen (m / 128) + 1 := fun m h => numLen_big h
  by_cases h1 : n < 128
  · rw [numLen_small h1]; omega
  by_cases h2 : n / 128 < 128
  · rw [e n h1, numLen_small h2]; omega
  by_cases h3 : n / 128 / 128 < 128
  · rw [e n h1, e _ h2, numLen_small h3]; omega
  by_cases h4 : n / 128 / 128 / 128 < 128
  · rw [e n h1, e _ h2, e _ h3, numLen_small h4]; omega
  by_cases h5 : n / 128 / 128 / 128 / 128 < 128
  · rw [e n h1, e _ h2, e _ h3, e _ h4, numLen_small h5]; omega
  rw [e n h1, e _ h2, e _ h3, e _ h4, e _ h5, numLen_small (by omega)]
  omega

theorem length75 (w : World) (n : Nat) (hn : Six n) :
    Calls Tryz.prog 75 #[.int .u64 n] w fun e w' => e = .returned (.int .i64 (numLen n)) ∧ w = w' := by
  have H := Fact.mk (numLen_six hn)
  go_enter Tryz.func75, Tryz.ntmps75
  go_wp2
  go_loop [0, 3] (fun x m => ∃ k j : Nat, k ≤ n ∧ x = .int .u64 k ∧ m = .int .i64 j ∧ j + numLen k = numLen n + 1) (fun x _ => (intOf x).toNat)
  case atStart => exact ⟨n, 1, Nat.le_refl _, rfl, rfl, by omega⟩
  case round =>
    obtain ⟨k, j, hk, rfl, rfl, hj⟩ := hrel
    have HJ := Fact.mk hj
    have hj6 : j ≤ 6 := by have := H.out; have := numLen_pos k; omega
    clear hj
    by_cases hs : k < 128
    · go_wp2
      go_ret
      have := numLen_small hs
      have := HJ.out
      exact ⟨ret_int (by omega), rfl⟩
    · go_wp2
      have := numLen_big hs
      have := HJ.out
      exact ⟨⟨k / 128, j + 1, by omega, by go_num, by go_num, by omega⟩, by simp [intOf]; omega⟩

/-! ### The cursor -/
/-- The cursor at block b: the bytes that are left (in memory beside it), its error. -/
def Cur (w : World) (b : Nat) (rest : List UInt8) (wrong : Int) : Prop := ∃ v, Blk w b [v, .int .i64 wrong] 157 ∧ By w (fun i => i < b) v rest
theorem Cur.keep {w w' : World} {b : Nat} {rest : List UInt8} {wrong : Int} (h : Cur w b rest wrong) (k : Keep All w w') : Cur w' b rest wrong := by
  obtain ⟨v, h1, h2⟩ := h
  exact ⟨v, h1.keep k trivial, h2.keep k.all⟩
theorem Cur.drewN {w : World} {b : Nat} {rest : List UInt8} {wrong : Int} (h : Cur w b rest wrong) (n : Nat) : Cur (w.drewN n) b rest wrong := h.keep ((Keep.refl _ _).drewN n)

theorem left45 (w : World) (b : Nat) (rest : List UInt8) (wrong : Int) (h : Cur w b rest wrong) :
    Calls Tryz.prog 45 #[.pointer (some ⟨b, 0, none⟩)] w fun e w' => e = .returned (.int .i64 rest.length) ∧ w = w' := by
  obtain ⟨v, h1, h2⟩ := h
  obtain ⟨A, c, rfl, -⟩ := h2.open
  have g0 := h1.cell 0 _ rfl
  clear h1 h2
  go_enter Tryz.func45, Tryz.ntmps45
  go_wp2
  go_ret
  exact ⟨rfl, rfl⟩

/-- The error behind breaking it. -/
def broken (wrong x : Int) : Int := if wrong = 0 then x else wrong
/-- What breaking the cursor leaves. -/
def Broke (w : World) (b : Nat) (wrong : Int) (v : Value) (e : Ending) (w' : World) : Prop := e = .returned v ∧ Cur w' b [] wrong ∧ Keep (fun i => i ≠ b) w w'

theorem fail76 (w : World) (b : Nat) (rest : List UInt8) (wrong x : Int) (h : Cur w b rest wrong) :
    Calls Tryz.prog 76 #[.pointer (some ⟨b, 0, none⟩), .int .i64 x] w (Broke w b (broken wrong x) (.tuple #[])) := by
  obtain ⟨v, h1, h2⟩ := h
  obtain ⟨A, c, rfl, -⟩ := h2.open
  have g0 := h1.cell 0 _ rfl
  have g1 := h1.cell 1 _ rfl
  have f0 := h1.free 0
  have f1 := h1.free 1
  have H := Fact.mk h1
  clear h1 h2
  by_cases hw : wrong = 0
  · have hwb : (wrong == 0) = true := by simp [hw]
    go_enter Tryz.func76, Tryz.ntmps76
    go_wp2
    go_end0
    refine ⟨rfl, ⟨_, by rw [broken, if_pos hw]; exact (H.out.set 1 _).set 0 _, By.nil _ _⟩, (((Keep.refl _ _).setCell (.inr (by simp)) _).setCell (.inr (by simp)) _)⟩
  · have hwb : (wrong == 0) = false := by simp [hw]
    go_enter Tryz.func76, Tryz.ntmps76
    go_wp2
    go_end0
    refine ⟨rfl, ⟨_, by rw [broken, if_neg hw]; exact (H.out.set 0 _), By.nil _ _⟩, (Keep.refl _ _).setCell (.inr (by simp)) _⟩

/-- The bytes of a number that is not ended are gone through: what they tell, and how many they are (0: it does not end, or not in time). -/
def numScan : Nat → Nat → List UInt8 → Nat × Nat
  | _, acc, [] => (acc, 0)
  | k, acc, x :: r => if k = 6 then (acc, 0) else if x.toNat < 128 then (acc + x.toNat * 2 ^ (7 * k), k + 1) else numScan (k + 1) (acc + (x.toNat % 128) * 2 ^ (7 * k)) r
def numGood (r : Nat × Nat) (most : Int) : Bool := r.2 != 0 && r.2 == numLen r.1 && decide (r.1 ≤ 1099511627776) && decide (0 ≤ most) && decide ((r.1 : Int) ≤ most)

theorem pow35 {k : Nat} (hk : k ≤ 5) : 2 ^ (7 * k) ≤ 34359738368 := Nat.le_trans (Nat.pow_le_pow_right (by omega) (show 7 * k ≤ 35 by omega)) (by decide)
theorem mul42 {x k : Nat} (hx : x < 128) (hk : k ≤ 5) : x * 2 ^ (7 * k) < 4398046511104 := by
  have h := pow35 hk
  have := Nat.mul_le_mul (show x ≤ 127 by omega) h
  omega
theorem or_shift (acc x k : Nat) (h : acc < 2 ^ (7 * k)) (hx : x < 128) (hk : k ≤ 5) :
    bits .or .u64 (acc : Int) (IntKind.u64.wrap ((x : Int) * 2 ^ (7 * k))) = ((acc + x * 2 ^ (7 * k) : Nat) : Int) := by
  have h1 := mul42 hx hk
  have h2 := pow35 hk
  have e : ((x : Int) * 2 ^ (7 * k)) = ((x * 2 ^ (7 * k) : Nat) : Int) := by push_cast; rfl
  have ew : IntKind.u64.wrap ((x * 2 ^ (7 * k) : Nat) : Int) = ((x * 2 ^ (7 * k) : Nat) : Int) := by
    generalize x * 2 ^ (7 * k) = y at *
    simp only [IntKind.wrap, IntKind.bits, IntKind.signed]
    simp only [Bool.false_and, Bool.false_eq_true, if_false]
    omega
  rw [e, ew, u64_or_nat _ _ (by omega) (by omega)]
  have := Nat.shiftLeft_add_eq_or_of_lt h x
  rw [Nat.shiftLeft_eq] at this
  rw [Nat.or_comm, ← this, Nat.add_comm]
theorem low7 (x : UInt8) : IntKind.u64.wrap (bits .andNot .u8 (x.toNat : Int) 128) = ((x.toNat % 128 : Nat) : Int) := by
  have hx := x.toNat_lt
  have h := u8_andNot_nat x.toNat 128 (by omega) (by omega)
  have e : x.toNat &&& (255 - 128) = x.toNat % 128 := Nat.and_two_pow_sub_one_eq_mod x.toNat 7
  rw [e] at h
  have h' : bits .andNot .u8 (x.toNat : Int) 128 = ((x.toNat % 128 : Nat) : Int) := h
  rw [h']
  simp only [IntKind.wrap, IntKind.bits, IntKind.signed, Bool.false_and, Bool.false_eq_true, if_false]
  omega
theorem acc_next {acc x k : Nat} (h : acc < 2 ^ (7 * k)) (hx : x < 128) : acc + x * 2 ^ (7 * k) < 2 ^ (7 * (k + 1)) := by
  have e : 2 ^ (7 * (k + 1)) = 128 * 2 ^ (7 * k) := by rw [show 7 * (k + 1) = 7 + 7 * k from by omega, Nat.pow_add]
  rw [e]
  have := Nat.mul_le_mul_right (2 ^ (7 * k)) (show x + 1 ≤ 128 by omega)
  rw [Nat.add_mul, Nat.one_mul] at this
  omega
theorem numScan_six (acc : Nat) (x : UInt8) (r : List UInt8) : numScan 6 acc (x :: r) = (acc, 0) := by rw [numScan, if_pos rfl]
theorem numScan_last {k acc : Nat} {x : UInt8} {r : List UInt8} (h6 : ¬ k = 6) (hx : x.toNat < 128) : numScan k acc (x :: r) = (acc + x.toNat * 2 ^ (7 * k), k + 1) := by rw [numScan, if_neg h6, if_pos hx]
theorem numScan_more {k acc : Nat} {x : UInt8} {r : List UInt8} (h6 : ¬ k = 6) (hx : ¬ x.toNat < 128) : numScan k acc (x :: r) = numScan (k + 1) (acc + (x.toNat % 128) * 2 ^ (7 * k)) r := by rw [numScan, if_neg h6, if_neg hx]

theorem numScan_lenAux : ∀ (l : List UInt8) (k acc : Nat), (numScan k acc l).2 = 0 ∨ (numScan k acc l).2 ≤ k + l.length
  | [], k, acc => .inl rfl
  | x :: r, k, acc => by
    rw [numScan]
    split
    · exact .inl rfl
    · split
      · right; simp only [List.length_cons]; omega
      · have := numScan_lenAux r (k + 1) (acc + (x.toNat % 128) * 2 ^ (7 * k))
        simp only [List.length_cons]
        omega
theorem numScan_len (l : List UInt8) : (numScan 0 0 l).2 ≤ l.length := by
  rcases numScan_lenAux l 0 0 with h | h
  · simp [h]
  · omega
theorem numScan_ltAux : ∀ (l : List UInt8) (k acc : Nat), k ≤ 6 → acc < 2 ^ (7 * k) → Six (numScan k acc l).1
  | [], k, acc, hk, h => by
    have : 2 ^ (7 * k) ≤ 2 ^ 42 := Nat.pow_le_pow_right (by omega) (by omega)
    show acc < 4398046511104
    omega
  | x :: r, k, acc, hk, h => by
    rw [numScan]
    split
    · have : 2 ^ (7 * k) ≤ 2 ^ 42 := Nat.pow_le_pow_right (by omega) (by omega)
      show acc < 4398046511104
      omega
    · split
      · have h1 := acc_next h (show x.toNat < 128 by omega)
        have : 2 ^ (7 * (k + 1)) ≤ 2 ^ 42 := Nat.pow_le_pow_right (by omega) (by omega)
        show acc + x.toNat * 2 ^ (7 * k) < 4398046511104
        omega
      · exact numScan_ltAux r (k + 1) _ (by omega) (acc_next h (Nat.mod_lt _ (by omega)))
theorem numScan_lt (l : List UInt8) : Six (numScan 0 0 l).1 := numScan_ltAux l 0 0 (by omega) (by simp)

def NumPost (w : World) (b : Nat) (rest : List UInt8) (wrong most : Int) (e : Ending) (w' : World) : Prop :=
  (if numGood (numScan 0 0 rest) most = true then e = .returned (.int .i64 (numScan 0 0 rest).1) ∧ Cur w' b (rest.drop (numScan 0 0 rest).2) wrong
   else e = .returned (.int .i64 0) ∧ Cur w' b [] (broken wrong 4)) ∧ Keep (fun i => i ≠ b) w w'

theorem numGood_iff (r : Nat × Nat) (most : Int) : numGood r most = true ↔ (¬ r.2 = 0 ∧ r.2 = numLen r.1 ∧ r.1 ≤ 1099511627776 ∧ 0 ≤ most ∧ (r.1 : Int) ≤ most) := by
  simp [numGood, and_assoc]
theorem num_bad {w w1 : World} {b : Nat} {rest : List UInt8} {wrong most : Int} {r : Nat × Nat} (hr : r = numScan 0 0 rest) (hb : ¬ (¬ r.2 = 0 ∧ r.2 = numLen r.1 ∧ r.1 ≤ 1099511627776 ∧ 0 ≤ most ∧ (r.1 : Int) ≤ most))
    (hc : Cur w1 b [] (broken wrong 4)) (hk : Keep (fun i => i ≠ b) w w1) : NumPost w b rest wrong most (.returned (.int .i64 0)) w1 := by
  subst hr
  exact ⟨by rw [if_neg (fun h => hb ((numGood_iff _ _).1 h))]; exact ⟨rfl, hc⟩, hk⟩
theorem num_good {w w1 : World} {b : Nat} {rest : List UInt8} {wrong most : Int} {r : Nat × Nat} (hr : r = numScan 0 0 rest) (hb : ¬ r.2 = 0 ∧ r.2 = numLen r.1 ∧ r.1 ≤ 1099511627776 ∧ 0 ≤ most ∧ (r.1 : Int) ≤ most)
    (hc : Cur w1 b (rest.drop r.2) wrong) (hk : Keep (fun i => i ≠ b) w w1) : NumPost w b rest wrong most (.returned (.int .i64 r.1)) w1 := by
  subst hr
  exact ⟨by rw [if_pos ((numGood_iff _ _).2 hb)]; exact ⟨rfl, hc⟩, hk⟩
theorem u64_pos {n : Int} (h0 : 0 ≤ n) (h1 : n ≤ 9223372036854775807) : IntKind.u64.wrap n = n := by
  simp only [IntKind.wrap, IntKind.bits, IntKind.signed, Bool.false_and, Bool.false_eq_true, if_false]
  omega
theorem Cur.set {w : World} {b : Nat} {v v' : Value} {rest : List UInt8} {wrong : Int} (h : Blk w b [v, .int .i64 wrong] 157) (hv : By w (fun i => i < b) v' rest) : Cur (w.setCell ⟨b, 0, none⟩ v') b rest wrong :=
  ⟨v', h.set 0 v', hv.keep ((Keep.refl _ _).setCell (.inr (by simp)) _)⟩

theorem num46 (w : World) (b : Nat) (rest : List UInt8) (wrong most : Int) (h : Cur w b rest wrong) (hm : -9223372036854775808 ≤ most ∧ most ≤ 9223372036854775807) (hl : Small rest.length) :
    Calls Tryz.prog 46 #[.pointer (some ⟨b, 0, none⟩), .int .i64 most] w (NumPost w b rest wrong most) := by
  have HC := Fact.mk h
  obtain ⟨v, h1, h2⟩ := h
  obtain ⟨A, c, rfl, hn, hc, hA, hat⟩ := h2.open
  have g0 := h1.cell 0 _ rfl
  have f0 := h1.free 0
  have H := Fact.mk h1
  have HW := Fact.mk (fun h0 : 0 ≤ most => u64_pos h0 hm.2)
  have HB := Fact.mk h2
  have HT := Fact.mk hat
  clear h1 h2 hm hat
  go_enter Tryz.func46, Tryz.ntmps46
  go_wp2
  go_step3
  go_wp2
  go_step3
  go_upto_block 0 with (fail)
  go_cut [5, 6] (fun x m w' => w' = w ∧ x = .int .u64 (numScan 0 0 rest).1 ∧ m = .int .i64 (numScan 0 0 rest).2)
  case first =>
    go_wp2
    go_loopg [5, 6, 16] rest.length (fun g x m i w' => ∃ k acc : Nat, w' = w ∧ k + g = rest.length ∧ k ≤ 6 ∧ acc < 2 ^ (7 * k) ∧ x = .int .u64 acc ∧ m = .int .i64 0 ∧ i = .int .i64 k ∧ numScan k acc (rest.drop k) = numScan 0 0 rest)
    case atStart => exact ⟨0, 0, rfl, by omega, by omega, by simp, rfl, rfl, rfl, by simp⟩
    case round =>
      obtain ⟨k, acc, rfl, hkg, hk6, hacc, rfl, rfl, rfl, hs⟩ := hrel
      by_cases hlt : k < rest.length
      · obtain ⟨b1, off, rfl, hb1, hat⟩ := HT.out (by omega)
        have hx := hat k hlt
        obtain ⟨x, hxe⟩ : ∃ x, x = rest[k]?.getD 0 := ⟨_, rfl⟩
        rw [← hxe] at hx
        have hx8 : (x.toNat : Int) ≤ 255 := by have := x.toNat_lt; omega
        have hx0 : 0 ≤ (x.toNat : Int) := by omega
        have hdrop : rest.drop k = x :: rest.drop (k + 1) := by
          rw [List.drop_eq_getElem_cons hlt, hxe]; simp [List.getElem?_eq_getElem hlt]
        rw [hdrop] at hs
        have HS := Fact.mk hs
        have HA := Fact.mk hacc
        have HK := Fact.mk hkg
        have hk : k ≤ 1048576 := by have := hl.le; omega
        clear hs hdrop hxe hat hacc hkg
        by_cases h6 : k = 6
        · subst h6
          go_wp2
          have := HS.out
          rw [numScan_six] at this
          go_meet
          case rel => exact ⟨rfl, by rw [← this], by rw [← this]; rfl⟩
        · by_cases h128 : x.toNat < 128
          · have ho := or_shift acc x.toNat k HA.out h128 (by omega)
            have HO := Fact.mk ho
            clear ho
            go_wp2
            have := HS.out
            rw [numScan_last h6 h128] at this
            go_meet
            case rel => exact ⟨rfl, by rw [← this, HO.out], by rw [← this]; go_num⟩
          · have ho := or_shift acc (x.toNat % 128) k HA.out (Nat.mod_lt _ (by omega)) (by omega)
            rw [← low7] at ho
            have HO := Fact.mk ho
            clear ho
            go_wp2
            have := HS.out
            rw [numScan_more h6 h128] at this
            go_roundg (gk - 1)
            case measure => have := HK.out; omega
            case rel => exact ⟨k + 1, acc + (x.toNat % 128) * 2 ^ (7 * k), rfl, by have := HK.out; omega, by omega, acc_next HA.out (Nat.mod_lt _ (by omega)), by rw [HO.out], rfl, by go_num, this⟩
      · have : k = rest.length := by omega
        subst this
        have : numScan 0 0 rest = (acc, 0) := by rw [← hs]; simp [numScan]
        clear hs
        go_wp2
        go_meet
        case rel => exact ⟨rfl, by rw [this], by rw [this]; rfl⟩
  case rest =>
    obtain ⟨rfl, rfl, rfl⟩ := hcut
    have hlen := numScan_len rest
    have hsix := numScan_lt rest
    obtain ⟨r, hr⟩ : ∃ r, r = numScan 0 0 rest := ⟨_, rfl⟩
    rw [← hr] at hlen hsix ⊢
    have HR := Fact.mk hr
    clear hr
    go_wp2_with (first | (go_at_call 75; refine (length75 _ _ hsix).mono ?_; rintro e w' ⟨rfl, rfl⟩) | (go_at_call 76; refine (fail76 _ _ _ _ _ HC.out).mono ?_; rintro e w1 ⟨rfl, hcur, hk⟩))
    · rw [Exit.noGoto_ret]
      go_ret
      exact num_bad HR.out (fun h => h.1 ‹_›) hcur hk
    · rw [Exit.noGoto_ret]
      go_ret
      refine num_bad HR.out (fun h => ?_) hcur hk
      have hw := HW.out h.2.2.2.1
      rename_i hd
      rw [hw] at hd
      simp only [beq_iff_eq] at hd
      omega
    · have hd := (HB.out.drop (k := numLen r.1) (by omega)).1 ‹_›
      rename_i hg
      go_ret
      have hw := HW.out hg.1.2
      rw [hw] at hg
      simp only [beq_eq_false_iff_ne] at hg
      exact num_good HR.out (by omega) (Cur.set H.out (by rw [show r.2 = numLen r.1 by omega]; exact hd)) ((Keep.refl _ _).setCell (.inr (by simp)) _)
    · have hd := (HB.out.drop (k := numLen r.1) (by omega)).2 ‹_›
      rename_i hg
      go_ret
      have hw := HW.out hg.1.2
      rw [hw] at hg
      simp only [beq_eq_false_iff_ne] at hg
      exact num_good HR.out (by omega) (Cur.set H.out (by rw [show r.2 = numLen r.1 by omega]; exact hd)) ((Keep.refl _ _).setCell (.inr (by simp)) _)
    · rw [Exit.noGoto_ret]
      go_ret
      refine num_bad HR.out (fun h => ?_) hcur hk
      omega
    · rw [Exit.noGoto_ret]
      go_ret
      refine num_bad HR.out (fun h => ?_) hcur hk
      omega
    · rw [Exit.noGoto_ret]
      go_ret
      refine num_bad HR.out (fun h => ?_) hcur hk
      omega
end Go.Proofs.YtddmbdigdnmfgaaGreatDoor
