/- Walks of this seat, packed. -/
import Derived.Test.YtddmbdigdnmfgaaGreatDoorQCode
import Derived.Deep.DeepCutAuto
import Derived.Deep.CutBlock
import Derived.Deep.LoopGhost
import Derived.BigQuiet
namespace Go.Proofs.YtddmbdigdnmfgaaGreatDoor
open Go.RowKit
set_option maxHeartbeats 400000
set_option maxRecDepth 100000

/-- How many bytes a number takes. -/
def numLen (n : Nat) : Nat := if n < 128 then 1 else numLen (n / 128) + 1
theorem numLen_small {n : Nat} (h : n < 128) : numLen n = 1 := by rw [numLen, if_pos h]
theorem numLen_big {n : Nat} (h : ¬ n < 128) : numLen n = numLen (n / 128) + 1 := by rw [numLen, if_neg h]
theorem numLen_pos (n : Nat) : 1 ≤ numLen n := by rw [numLen]; split <;> omega
theorem numLen_le (n : Nat) : numLen n ≤ n + 1 := by
  induction n using Nat.strongRecOn with
  | _ n ih =>
    rw [numLen]; split
    · omega
    · have := ih (n / 128) (by omega); omega

/-- No greater than six bytes tell. -/
def Six (n : Nat) : Prop := n < 4398046511104
theorem Six.lt {n : Nat} (h : Six n) : n < 4398046511104 := h
theorem numLen_six {n : Nat} (h : Six n) : numLen n ≤ 6 := by
  have := h.lt
  have e : ∀ m : Nat, ¬ m < 128 → numLen m = numLen (m / 128) + 1 := fun m h => numLen_big h
  by_cases h1 : n < 128
  · rw [numLen_small h1]; omega
  by_cases h2 : n / 128 < 128
  · rw [e n h1, numLen_small h2]; omega
  by_cases h3 : n / 128 / 128 < 128
  · rw [e n h1, e _ h2, numLen_small h3]; omega
  by_cases h4 : n / 128 / 128 / 128 < 128
  · rw [e n h1, e _ h2, e _ h3, numLen_small h4]; omega
  by_cases h5 : n / 128 / 128 / 128 / 128 < 128
  · rw [e n h1, e _ h2, e _ h3, e _ h4, numLen_small h5]; omega
  rw [e n h1, e _ h2, e _ h3, e _ h4, e _ h5, numLen_small (by omega)]
  omega

theorem length75 (w : World) (n : Nat) (hn : Six n) :
    Calls Tryz.prog 75 #[.int .u64 n] w fun e w' => e = .returned (.int .i64 (numLen n)) ∧ w = w' := by
  have H := Fact.mk (numLen_six hn)
  go_enter Tryz.func75, Tryz.ntmps75
  go_wp2
  go_loop [0, 3] (fun x m => ∃ k j : Nat, k ≤ n ∧ x = .int .u64 k ∧ m = .int .i64 j ∧ j + numLen k = numLen n + 1) (fun x _ => (intOf x).toNat)
  case atStart => exact ⟨n, 1, Nat.le_refl _, rfl, rfl, by omega⟩
  case round =>
    obtain ⟨k, j, hk, rfl, rfl, hj⟩ := hrel
    have HJ := Fact.mk hj
    have hj6 : j ≤ 6 := by have := H.out; have := numLen_pos k; omega
    clear hj
    by_cases hs : k < 128
    · go_wp2
      go_ret
      have := numLen_small hs
      have := HJ.out
      exact ⟨ret_int (by omega), rfl⟩
    · go_wp2
      have := numLen_big hs
      have := HJ.out
      exact ⟨⟨k / 128, j + 1, by omega, by go_num, by go_num, by omega⟩, by simp [intOf]; omega⟩

/-! ### The cursor -/
/-- The cursor at block b: the bytes that are left (in memory beside it), its error. -/
def Cur (w : World) (b : Nat) (rest : List UInt8) (wrong : Int) : Prop := ∃ v, Blk w b [v, .int .i64 wrong] 157 ∧ By w (fun i => i < b) v rest
theorem Cur.keep {w w' : World} {b : Nat} {rest : List UInt8} {wrong : Int} (h : Cur w b rest wrong) (k : Keep All w w') : Cur w' b rest wrong := by
  obtain ⟨v, h1, h2⟩ := h
  exact ⟨v, h1.keep k trivial, h2.keep k.all⟩
theorem Cur.drewN {w : World} {b : Nat} {rest : List UInt8} {wrong : Int} (h : Cur w b rest wrong) (n : Nat) : Cur (w.drewN n) b rest wrong := h.keep ((Keep.refl _ _).drewN n)

theorem left45 (w : World) (b : Nat) (rest : List UInt8) (wrong : Int) (h : Cur w b rest wrong) :
    Calls Tryz.prog 45 #[.pointer (some ⟨b, 0, none⟩)] w fun e w' => e = .returned (.int .i64 rest.length) ∧ w = w' := by
  obtain ⟨v, h1, h2⟩ := h
  obtain ⟨A, c, rfl, -⟩ := h2.open
  have g0 := h1.cell 0 _ rfl
  clear h1 h2
  go_enter Tryz.func45, Tryz.ntmps45
  go_wp2
  go_ret
  exact ⟨rfl, rfl⟩

/-- The error behind breaking it. -/
def broken (wrong x : Int) : Int := if wrong = 0 then x else wrong
/-- What breaking the cursor leaves. -/
def Broke (w : World) (b : Nat) (wrong : Int) (v : Value) (e : Ending) (w' : World) : Prop := e = .returned v ∧ Cur w' b [] wrong ∧ Keep (fun i => i ≠ b) w w'

theorem fail76 (w : World) (b : Nat) (rest : List UInt8) (wrong x : Int) (h : Cur w b rest wrong) :
    Calls Tryz.prog 76 #[.pointer (some ⟨b, 0, none⟩), .int .i64 x] w (Broke w b (broken wrong x) (.tuple #[])) := by
  obtain ⟨v, h1, h2⟩ := h
  obtain ⟨A, c, rfl, -⟩ := h2.open
  have g0 := h1.cell 0 _ rfl
  have g1 := h1.cell 1 _ rfl
  have f0 := h1.free 0
  have f1 := h1.free 1
  have H := Fact.mk h1
  clear h1 h2
  by_cases hw : wrong = 0
  · have hwb : (wrong == 0) = true := by simp [hw]
    go_enter Tryz.func76, Tryz.ntmps76
    go_wp2
    go_end0
    refine ⟨rfl, ⟨_, by rw [broken, if_pos hw]; exact (H.out.set 1 _).set 0 _, By.nil _ _⟩, (((Keep.refl _ _).setCell (.inr (by simp)) _).setCell (.inr (by simp)) _)⟩
  · have hwb : (wrong == 0) = false := by simp [hw]
    go_enter Tryz.func76, Tryz.ntmps76
    go_wp2
    go_end0
    refine ⟨rfl, ⟨_, by rw [broken, if_neg hw]; exact (H.out.set 0 _), By.nil _ _⟩, (Keep.refl _ _).setCell (.inr (by simp)) _⟩

/-- The bytes of a number that is not ended are gone through: what they tell, and how many they are (0: it does not end, or not in time). -/
def numScan : Nat → Nat → List UInt8 → Nat × Nat
  | _, acc, [] => (acc, 0)
  | k, acc, x :: r => if k = 6 then (acc, 0) else if x.toNat < 128 then (acc + x.toNat * 2 ^ (7 * k), k + 1) else numScan (k + 1) (acc + (x.toNat % 128) * 2 ^ (7 * k)) r
def numGood (r : Nat × Nat) (most : Int) : Bool := r.2 != 0 && r.2 == numLen r.1 && decide (r.1 ≤ 1099511627776) && decide (0 ≤ most) && decide ((r.1 : Int) ≤ most)

theorem pow35 {k : Nat} (hk : k ≤ 5) : 2 ^ (7 * k) ≤ 34359738368 := Nat.le_trans (Nat.pow_le_pow_right (by omega) (show 7 * k ≤ 35 by omega)) (by decide)
theorem mul42 {x k : Nat} (hx : x < 128) (hk : k ≤ 5) : x * 2 ^ (7 * k) < 4398046511104 := by
  have h := pow35 hk
  have := Nat.mul_le_mul (show x ≤ 127 by omega) h
  omega
theorem or_shift (acc x k : Nat) (h : acc < 2 ^ (7 * k)) (hx : x < 128) (hk : k ≤ 5) :
    bits .or .u64 (acc : Int) (IntKind.u64.wrap ((x : Int) * 2 ^ (7 * k))) = ((acc + x * 2 ^ (7 * k) : Nat) : Int) := by
  have h1 := mul42 hx hk
  have h2 := pow35 hk
  have e : ((x : Int) * 2 ^ (7 * k)) = ((x * 2 ^ (7 * k) : Nat) : Int) := by push_cast; rfl
  have ew : IntKind.u64.wrap ((x * 2 ^ (7 * k) : Nat) : Int) = ((x * 2 ^ (7 * k) : Nat) : Int) := by
    generalize x * 2 ^ (7 * k) = y at *
    simp only [IntKind.wrap, IntKind.bits, IntKind.signed]
    simp only [Bool.false_and, Bool.false_eq_true, if_false]
    omega
  rw [e, ew, u64_or_nat _ _ (by omega) (by omega)]
  have := Nat.shiftLeft_add_eq_or_of_lt h x
  rw [Nat.shiftLeft_eq] at this
  rw [Nat.or_comm, ← this, Nat.add_comm]
theorem low7 (x : UInt8) : IntKind.u64.wrap (bits .andNot .u8 (x.toNat : Int) 128) = ((x.toNat % 128 : Nat) : Int) := by
  have hx := x.toNat_lt
  have h := u8_andNot_nat x.toNat 128 (by omega) (by omega)
  have e : x.toNat &&& (255 - 128) = x.toNat % 128 := Nat.and_two_pow_sub_one_eq_mod x.toNat 7
  rw [e] at h
  have h' : bits .andNot .u8 (x.toNat : Int) 128 = ((x.toNat % 128 : Nat) : Int) := h
  rw [h']
  simp only [IntKind.wrap, IntKind.bits, IntKind.signed, Bool.false_and, Bool.false_eq_true, if_false]
  omega
theorem acc_next {acc x k : Nat} (h : acc < 2 ^ (7 * k)) (hx : x < 128) : acc + x * 2 ^ (7 * k) < 2 ^ (7 * (k + 1)) := by
  have e : 2 ^ (7 * (k + 1)) = 128 * 2 ^ (7 * k) := by rw [show 7 * (k + 1) = 7 + 7 * k from by omega, Nat.pow_add]
  rw [e]
  have := Nat.mul_le_mul_right (2 ^ (7 * k)) (show x + 1 ≤ 128 by omega)
  rw [Nat.add_mul, Nat.one_mul] at this
  omega
theorem numScan_six (acc : Nat) (x : UInt8) (r : List UInt8) : numScan 6 acc (x :: r) = (acc, 0) := by rw [numScan, if_pos rfl]
theorem numScan_last {k acc : Nat} {x : UInt8} {r : List UInt8} (h6 : ¬ k = 6) (hx : x.toNat < 128) : numScan k acc (x :: r) = (acc + x.toNat * 2 ^ (7 * k), k + 1) := by rw [numScan, if_neg h6, if_pos hx]
theorem numScan_more {k acc : Nat} {x : UInt8} {r : List UInt8} (h6 : ¬ k = 6) (hx : ¬ x.toNat < 128) : numScan k acc (x :: r) = numScan (k + 1) (acc + (x.toNat % 128) * 2 ^ (7 * k)) r := by rw [numScan, if_neg h6, if_neg hx]

theorem numScan_lenAux : ∀ (l : List UInt8) (k acc : Nat), (numScan k acc l).2 = 0 ∨ (numScan k acc l).2 ≤ k + l.length
  | [], k, acc => .inl rfl
  | x :: r, k, acc => by
    rw [numScan]
    split
    · exact .inl rfl
    · split
      · right; simp only [List.length_cons]; omega
      · have := numScan_lenAux r (k + 1) (acc + (x.toNat % 128) * 2 ^ (7 * k))
        simp only [List.length_cons]
        omega
theorem numScan_len (l : List UInt8) : (numScan 0 0 l).2 ≤ l.length := by
  rcases numScan_lenAux l 0 0 with h | h
  · simp [h]
  · omega
theorem numScan_ltAux : ∀ (l : List UInt8) (k acc : Nat), k ≤ 6 → acc < 2 ^ (7 * k) → Six (numScan k acc l).1
  | [], k, acc, hk, h => by
    have : 2 ^ (7 * k) ≤ 2 ^ 42 := Nat.pow_le_pow_right (by omega) (by omega)
    show acc < 4398046511104
    omega
  | x :: r, k, acc, hk, h => by
    rw [numScan]
    split
    · have : 2 ^ (7 * k) ≤ 2 ^ 42 := Nat.pow_le_pow_right (by omega) (by omega)
      show acc < 4398046511104
      omega
    · split
      · have h1 := acc_next h (show x.toNat < 128 by omega)
        have : 2 ^ (7 * (k + 1)) ≤ 2 ^ 42 := Nat.pow_le_pow_right (by omega) (by omega)
        show acc + x.toNat * 2 ^ (7 * k) < 4398046511104
        omega
      · exact numScan_ltAux r (k + 1) _ (by omega) (acc_next h (Nat.mod_lt _ (by omega)))
theorem numScan_lt (l : List UInt8) : Six (numScan 0 0 l).1 := numScan_ltAux l 0 0 (by omega) (by simp)

def NumPost (w : World) (b : Nat) (rest : List UInt8) (wrong most : Int) (e : Ending) (w' : World) : Prop :=
  (if numGood (numScan 0 0 rest) most = true then e = .returned (.int .i64 (numScan 0 0 rest).1) ∧ Cur w' b (rest.drop (numScan 0 0 rest).2) wrong
   else e = .returned (.int .i64 0) ∧ Cur w' b [] (broken wrong 4)) ∧ Keep (fun i => i ≠ b) w w'

theorem numGood_iff (r : Nat × Nat) (most : Int) : numGood r most = true ↔ (¬ r.2 = 0 ∧ r.2 = numLen r.1 ∧ r.1 ≤ 1099511627776 ∧ 0 ≤ most ∧ (r.1 : Int) ≤ most) := by
  simp [numGood, and_assoc]
theorem num_bad {w w1 : World} {b : Nat} {rest : List UInt8} {wrong most : Int} {r : Nat × Nat} (hr : r = numScan 0 0 rest) (hb : ¬ (¬ r.2 = 0 ∧ r.2 = numLen r.1 ∧ r.1 ≤ 1099511627776 ∧ 0 ≤ most ∧ (r.1 : Int) ≤ most))
    (hc : Cur w1 b [] (broken wrong 4)) (hk : Keep (fun i => i ≠ b) w w1) : NumPost w b rest wrong most (.returned (.int .i64 0)) w1 := by
  subst hr
  exact ⟨by rw [if_neg (fun h => hb ((numGood_iff _ _).1 h))]; exact ⟨rfl, hc⟩, hk⟩
theorem num_good {w w1 : World} {b : Nat} {rest : List UInt8} {wrong most : Int} {r : Nat × Nat} (hr : r = numScan 0 0 rest) (hb : ¬ r.2 = 0 ∧ r.2 = numLen r.1 ∧ r.1 ≤ 1099511627776 ∧ 0 ≤ most ∧ (r.1 : Int) ≤ most)
    (hc : Cur w1 b (rest.drop r.2) wrong) (hk : Keep (fun i => i ≠ b) w w1) : NumPost w b rest wrong most (.returned (.int .i64 r.1)) w1 := by
  subst hr
  exact ⟨by rw [if_pos ((numGood_iff _ _).2 hb)]; exact ⟨rfl, hc⟩, hk⟩
theorem u64_pos {n : Int} (h0 : 0 ≤ n) (h1 : n ≤ 9223372036854775807) : IntKind.u64.wrap n = n := by
  simp only [IntKind.wrap, IntKind.bits, IntKind.signed, Bool.false_and, Bool.false_eq_true, if_false]
  omega
theorem Cur.set {w : World} {b : Nat} {v v' : Value} {rest : List UInt8} {wrong : Int} (h : Blk w b [v, .int .i64 wrong] 157) (hv : By w (fun i => i < b) v' rest) : Cur (w.setCell ⟨b, 0, none⟩ v') b rest wrong :=
  ⟨v', h.set 0 v', hv.keep ((Keep.refl _ _).setCell (.inr (by simp)) _)⟩

theorem num46 (w : World) (b : Nat) (rest : List UInt8) (wrong most : Int) (h : Cur w b rest wrong) (hm : -9223372036854775808 ≤ most ∧ most ≤ 9223372036854775807) (hl : Small rest.length) :
    Calls Tryz.prog 46 #[.pointer (some ⟨b, 0, none⟩), .int .i64 most] w (NumPost w b rest wrong most) := by
  have HC := Fact.mk h
  obtain ⟨v, h1, h2⟩ := h
  obtain ⟨A, c, rfl, hn, hc, hA, hat⟩ := h2.open
  have g0 := h1.cell 0 _ rfl
  have f0 := h1.free 0
  have H := Fact.mk h1
  have HW := Fact.mk (fun h0 : 0 ≤ most => u64_pos h0 hm.2)
  have HB := Fact.mk h2
  have HT := Fact.mk hat
  clear h1 h2 hm hat
  go_enter Tryz.func46, Tryz.ntmps46
  go_wp2
  go_step3
  go_wp2
  go_step3
  go_upto_block 0 with (fail)
  go_cut [5, 6] (fun x m w' => w' = w ∧ x = .int .u64 (numScan 0 0 rest).1 ∧ m = .int .i64 (numScan 0 0 rest).2)
  case first =>
    go_wp2
    go_loopg [5, 6, 16] rest.length (fun g x m i w' => ∃ k acc : Nat, w' = w ∧ k + g = rest.length ∧ k ≤ 6 ∧ acc < 2 ^ (7 * k) ∧ x = .int .u64 acc ∧ m = .int .i64 0 ∧ i = .int .i64 k ∧ numScan k acc (rest.drop k) = numScan 0 0 rest)
    case atStart => exact ⟨0, 0, rfl, by omega, by omega, by simp, rfl, rfl, rfl, by simp⟩
    case round =>
      obtain ⟨k, acc, rfl, hkg, hk6, hacc, rfl, rfl, rfl, hs⟩ := hrel
      by_cases hlt : k < rest.length
      · obtain ⟨b1, off, rfl, hb1, hat⟩ := HT.out (by omega)
        have hx := hat k hlt
        obtain ⟨x, hxe⟩ : ∃ x, x = rest[k]?.getD 0 := ⟨_, rfl⟩
        rw [← hxe] at hx
        have hx8 : (x.toNat : Int) ≤ 255 := by have := x.toNat_lt; omega
        have hx0 : 0 ≤ (x.toNat : Int) := by omega
        have hdrop : rest.drop k = x :: rest.drop (k + 1) := by
          rw [List.drop_eq_getElem_cons hlt, hxe]; simp [List.getElem?_eq_getElem hlt]
        rw [hdrop] at hs
        have HS := Fact.mk hs
        have HA := Fact.mk hacc
        have HK := Fact.mk hkg
        have hk : k ≤ 1048576 := by have := hl.le; omega
        clear hs hdrop hxe hat hacc hkg
        by_cases h6 : k = 6
        · subst h6
          go_wp2
          have := HS.out
          rw [numScan_six] at this
          go_meet
          case rel => exact ⟨rfl, by rw [← this], by rw [← this]; rfl⟩
        · by_cases h128 : x.toNat < 128
          · have ho := or_shift acc x.toNat k HA.out h128 (by omega)
            have HO := Fact.mk ho
            clear ho
            go_wp2
            have := HS.out
            rw [numScan_last h6 h128] at this
            go_meet
            case rel => exact ⟨rfl, by rw [← this, HO.out], by rw [← this]; go_num⟩
          · have ho := or_shift acc (x.toNat % 128) k HA.out (Nat.mod_lt _ (by omega)) (by omega)
            rw [← low7] at ho
            have HO := Fact.mk ho
            clear ho
            go_wp2
            have := HS.out
            rw [numScan_more h6 h128] at this
            go_roundg (gk - 1)
            case measure => have := HK.out; omega
            case rel => exact ⟨k + 1, acc + (x.toNat % 128) * 2 ^ (7 * k), rfl, by have := HK.out; omega, by omega, acc_next HA.out (Nat.mod_lt _ (by omega)), by rw [HO.out], rfl, by go_num, this⟩
      · have : k = rest.length := by omega
        subst this
        have : numScan 0 0 rest = (acc, 0) := by rw [← hs]; simp [numScan]
        clear hs
        go_wp2
        go_meet
        case rel => exact ⟨rfl, by rw [this], by rw [this]; rfl⟩
  case rest =>
    obtain ⟨rfl, rfl, rfl⟩ := hcut
    have hlen := numScan_len rest
    have hsix := numScan_lt rest
    obtain ⟨r, hr⟩ : ∃ r, r = numScan 0 0 rest := ⟨_, rfl⟩
    rw [← hr] at hlen hsix ⊢
    have HR := Fact.mk hr
    clear hr
    go_wp2_with (first | (go_at_call 75; refine (length75 _ _ hsix).mono ?_; rintro e w' ⟨rfl, rfl⟩) | (go_at_call 76; refine (fail76 _ _ _ _ _ HC.out).mono ?_; rintro e w1 ⟨rfl, hcur, hk⟩))
    · rw [Exit.noGoto_ret]
      go_ret
      exact num_bad HR.out (fun h => h.1 ‹_›) hcur hk
    · rw [Exit.noGoto_ret]
      go_ret
      refine num_bad HR.out (fun h => ?_) hcur hk
      have hw := HW.out h.2.2.2.1
      rename_i hd
      rw [hw] at hd
      simp only [beq_iff_eq] at hd
      omega
    · have hd := (HB.out.drop (k := numLen r.1) (by omega)).1 ‹_›
      rename_i hg
      go_ret
      have hw := HW.out hg.1.2
      rw [hw] at hg
      simp only [beq_eq_false_iff_ne] at hg
      exact num_good HR.out (by omega) (Cur.set H.out (by rw [show r.2 = numLen r.1 by omega]; exact hd)) ((Keep.refl _ _).setCell (.inr (by simp)) _)
    · have hd := (HB.out.drop (k := numLen r.1) (by omega)).2 ‹_›
      rename_i hg
      go_ret
      have hw := HW.out hg.1.2
      rw [hw] at hg
      simp only [beq_eq_false_iff_ne] at hg
      exact num_good HR.out (by omega) (Cur.set H.out (by rw [show r.2 = numLen r.1 by omega]; exact hd)) ((Keep.refl _ _).setCell (.inr (by simp)) _)
    · rw [Exit.noGoto_ret]
      go_ret
      refine num_bad HR.out (fun h => ?_) hcur hk
      omega
    · rw [Exit.noGoto_ret]
      go_ret
      refine num_bad HR.out (fun h => ?_) hcur hk
      omega
    · rw [Exit.noGoto_ret]
      go_ret
      refine num_bad HR.out (fun h => ?_) hcur hk
      omega
end Go.Proofs.YtddmbdigdnmfgaaGreatDoor

namespace Go.Proofs.YtddmbdigdnmfgaaGreatDoor
open Go.RowKit
set_option maxHeartbeats 400000
set_option maxRecDepth 100000

/-- Over: a cursor over a copy. -/
def OverPost (w : World) (l : List UInt8) (e : Ending) (w' : World) : Prop := ∃ b, e = .returned (.pointer (some ⟨b, 0, none⟩)) ∧ w.heap.size ≤ b ∧ Cur w' b l 0 ∧ Keep All w w'
theorem over44 (w : World) (G : Nat → Prop) (v : Value) (l : List UInt8) (h : By w G v l) (hl : Small l.length) :
    Calls Tryz.prog 44 #[v] w (OverPost w l) := by
  have H := Fact.mk h
  clear h
  go_enter Tryz.func44, Tryz.ntmps44
  go_wp2_with (go_at_call 72; refine (clone72 _ _ _ _ H.out hl).mono ?_; rintro e w1 ⟨A, c, rfl, h1, hk⟩)
  go_ret
  refine ⟨w1.heap.size, rfl, hk.size, ⟨_, Blk.new w1 [_, _] 157, (h1.keep ((Keep.refl _ _).alloc _)).mono' h1 fun i hi _ => by omega⟩, hk.alloc _⟩

/-- What Raw hands out, and leaves. -/
def RawPost (w : World) (b : Nat) (rest : List UInt8) (wrong many : Int) (e : Ending) (w' : World) : Prop :=
  (if wrong = 0 ∧ 0 ≤ many ∧ many ≤ rest.length then ∃ A c, e = .returned (.slice A many.toNat c) ∧ By w' (fun i => w.heap.size ≤ i) (.slice A many.toNat c) (rest.take many.toNat) ∧ Cur w' b (rest.drop many.toNat) wrong
   else e = .returned (.slice none 0 0) ∧ Cur w' b [] (broken wrong 4)) ∧ Keep (fun i => i ≠ b) w w'

theorem u64_above {many : Int} (hm : -9223372036854775808 ≤ many ∧ many ≤ 9223372036854775807) (n : Nat) (h : ¬ (0 ≤ many ∧ many ≤ n)) (hn : (n : Int) ≤ 1048576) : (n : Int) < IntKind.u64.wrap many := by
  simp only [IntKind.wrap, IntKind.bits, IntKind.signed, Bool.false_and, Bool.false_eq_true, if_false]
  omega
theorem raw_good {w w1 : World} {b k : Nat} {rest : List UInt8} {A1 : Option Addr} {c1 : Nat} {v v' : Value} (hk : k ≤ rest.length) (hl : (rest.take k).length = k)
    (h1 : By w1 (fun i => w.heap.size ≤ i) (.slice A1 (rest.take k).length c1) (rest.take k)) (hb : Blk w1 b [v, .int .i64 0] 157) (hd : By w (fun i => i < b) v' (rest.drop k)) (hk1 : Keep All w w1) (hlt : b < w.heap.size) :
    RawPost w b rest 0 k (.returned (.slice A1 k c1)) (w1.setCell ⟨b, 0, none⟩ v') := by
  refine ⟨?_, hk1.all.setCell (.inr (by simp)) _⟩
  rw [if_pos ⟨rfl, by omega, by omega⟩]
  rw [hl] at h1
  exact ⟨A1, c1, rfl, h1.keep ((Keep.refl _ _).setCell (.inr (by simp; omega)) _), Cur.set hb (hd.keep hk1.all)⟩

theorem raw77 (w : World) (b : Nat) (rest : List UInt8) (wrong many : Int) (h : Cur w b rest wrong) (hm : -9223372036854775808 ≤ many ∧ many ≤ 9223372036854775807) (hl : Small rest.length) :
    Calls Tryz.prog 77 #[.pointer (some ⟨b, 0, none⟩), .int .i64 many] w (RawPost w b rest wrong many) := by
  have HC := Fact.mk h
  obtain ⟨v, h1, h2⟩ := h
  obtain ⟨A, c, rfl, hn, hc, hA, hat⟩ := h2.open
  have g0 := h1.cell 0 _ rfl
  have g1 := h1.cell 1 _ rfl
  have f0 := h1.free 0
  have H := Fact.mk h1
  have HB := Fact.mk h2
  clear h1 h2 hat
  by_cases hgood : wrong = 0 ∧ 0 ≤ many ∧ many ≤ rest.length
  · obtain ⟨rfl, h0, hle⟩ := hgood
    obtain ⟨k, rfl⟩ := Int.eq_ofNat_of_zero_le h0
    have hk : k ≤ rest.length := by omega
    have hw := u64_pos h0 hm.2
    have hwl : IntKind.u64.wrap (rest.length : Int) = rest.length := u64_pos (by omega) (by have := hl.le; omega)
    have hsm := hl.mono (show (rest.take k).length ≤ rest.length by rw [List.length_take]; omega)
    have HT := Fact.mk (HB.out.take hk)
    have HD := Fact.mk (HB.out.drop hk)
    have hlt : (rest.take k).length = k := by rw [List.length_take]; omega
    have HL := Fact.mk hlt
    clear hm h0 hle hlt
    go_enter Tryz.func77, Tryz.ntmps77
    go_wp2_with (go_at_call 72; refine (clone72 _ _ _ _ HT.out hsm).mono ?_; rintro e w1 ⟨A1, c1, rfl, h1, hk1⟩; have H1 := Fact.mk (H.out.keep hk1 trivial); have g01 := H1.out.cell 0 _ rfl; have f01 := H1.out.free 0)
    · have hd := HD.out.1 ‹_›
      go_ret
      exact raw_good (by omega) HL.out h1 H1.out hd hk1 H.out.lt
    · have hd := HD.out.2 ‹_›
      go_ret
      exact raw_good (by omega) HL.out h1 H1.out hd hk1 H.out.lt
  · have HG := Fact.mk hgood
    have hwl : IntKind.u64.wrap (rest.length : Int) = rest.length := u64_pos (by omega) (by have := hl.le; omega)
    have hbad := u64_above hm (rest.length)
    clear hgood
    by_cases hw0 : wrong = 0
    · have hwb : (wrong != 0) = false := by simp [hw0]
      have hgt : (rest.length : Int) < IntKind.u64.wrap many := hbad (fun h => HG.out ⟨hw0, h⟩) (by have := hl.le; omega)
      clear hbad hm
      go_enter Tryz.func77, Tryz.ntmps77
      go_wp2_with (go_at_call 76; refine (fail76 _ _ _ _ _ HC.out).mono ?_; rintro e w1 ⟨rfl, hcur, hk⟩)
      go_ret
      exact ⟨by rw [if_neg HG.out]; exact ⟨rfl, hcur⟩, hk⟩
    · have hwb : (wrong != 0) = true := by simp [hw0]
      clear hbad hm
      go_enter Tryz.func77, Tryz.ntmps77
      go_wp2_with (go_at_call 76; refine (fail76 _ _ _ _ _ HC.out).mono ?_; rintro e w1 ⟨rfl, hcur, hk⟩)
      go_ret
      exact ⟨by rw [if_neg HG.out]; exact ⟨rfl, hcur⟩, hk⟩

/-! ### Text -/
/-- What Text hands out, and leaves: the pure side. -/
inductive TextRes where
  | ok (l rest : List UInt8)
  | bad (e : Int)
def textGet (rest : List UInt8) (most : Int) : TextRes :=
  let r := numScan 0 0 rest
  if numGood r 1099511627776 = true then
    if most < (r.1 : Int) then .bad 3 else
    if r.1 ≤ (rest.drop r.2).length then .ok ((rest.drop r.2).take r.1) ((rest.drop r.2).drop r.1) else .bad 4
  else .bad 4
def TextPost (w : World) (b : Nat) (rest : List UInt8) (most : Int) (e : Ending) (w' : World) : Prop :=
  (match textGet rest most with
   | .ok l r => ∃ A c, e = .returned (.slice A l.length c) ∧ By w' (fun i => w.heap.size ≤ i) (.slice A l.length c) l ∧ Cur w' b r 0
   | .bad x => e = .returned (.slice none 0 0) ∧ Cur w' b [] x) ∧ Keep (fun i => i ≠ b) w w'
/-- A cursor that is broken stays so. -/
def Dead (w : World) (b : Nat) (wrong : Int) (e : Ending) (w' : World) : Prop := e = .returned (.slice none 0 0) ∧ Cur w' b [] wrong ∧ Keep (fun i => i ≠ b) w w'
theorem numGood_nil (most : Int) : numGood (numScan 0 0 []) most = false := by simp [numScan, numGood]

theorem RawPost.form {w w' : World} {b : Nat} {rest : List UInt8} {wrong many : Int} {e : Ending} (h : RawPost w b rest wrong many e w') : ∃ A c q, e = .returned (.slice A q c) := by
  obtain ⟨h, _⟩ := h
  split at h
  · obtain ⟨A, c, rfl, _⟩ := h; exact ⟨A, c, _, rfl⟩
  · obtain ⟨rfl, _⟩ := h; exact ⟨none, 0, 0, rfl⟩

theorem textDead48 (w : World) (b : Nat) (wrong most : Int) (h : Cur w b [] wrong) (hw : ¬ wrong = 0) :
    Calls Tryz.prog 48 #[.pointer (some ⟨b, 0, none⟩), .int .i64 most] w (Dead w b wrong) := by
  have H := Fact.mk h
  have HW := Fact.mk hw
  clear h
  have hwb : (wrong != 0) = true := by simp [hw]
  clear hw
  go_enter Tryz.func48, Tryz.ntmps48
  go_wp2_with (go_at_call 46; refine (num46 _ _ _ _ _ H.out (by decide) (Small.of (by simp))).mono ?_; rintro e w1 ⟨hp, hk⟩; rw [if_neg (by rw [numGood_nil]; simp)] at hp; obtain ⟨rfl, hc⟩ := hp; rw [broken, if_neg HW.out] at hc; have HC := Fact.mk hc; obtain ⟨v, h1, h2⟩ := hc; have g1 := h1.cell 1 _ rfl)
  go_ret
  exact ⟨rfl, HC.out, hk⟩

theorem text48 (w : World) (b : Nat) (rest : List UInt8) (most : Int) (h : Cur w b rest 0) (hl : Small rest.length) :
    Calls Tryz.prog 48 #[.pointer (some ⟨b, 0, none⟩), .int .i64 most] w (TextPost w b rest most) := by
  have H := Fact.mk h
  clear h
  by_cases hg : numGood (numScan 0 0 rest) 1099511627776 = true
  · have hr := (numGood_iff _ _).1 hg
    obtain ⟨n, hn⟩ : ∃ n, n = (numScan 0 0 rest).1 := ⟨_, rfl⟩
    obtain ⟨k, hk⟩ : ∃ k, k = (numScan 0 0 rest).2 := ⟨_, rfl⟩
    rw [← hn] at hr
    have hb : (-9223372036854775808 : Int) ≤ n ∧ (n : Int) ≤ 9223372036854775807 := by omega
    have HB := Fact.mk hb
    have hsm : Small (rest.drop k).length := hl.mono (by simp)
    have HG := Fact.mk hg
    have HN := Fact.mk hn
    have HK := Fact.mk hk
    clear hr hb hg hn hk
    have TG : Fact (textGet rest most = if most < (n : Int) then .bad 3 else if n ≤ (rest.drop k).length then .ok ((rest.drop k).take n) ((rest.drop k).drop n) else .bad 4) := ⟨by
      unfold textGet
      simp only [if_pos HG.out, ← HN.out, ← HK.out]⟩
    by_cases hm : most < (n : Int)
    · go_enter Tryz.func48, Tryz.ntmps48
      go_wp2_with (first
        | (go_at_call 46; refine (num46 _ _ _ _ _ H.out (by decide) hl).mono ?_; rintro e w1 ⟨hp, hk1⟩; rw [if_pos HG.out, ← HN.out, ← HK.out] at hp; obtain ⟨rfl, hc⟩ := hp; have HC := Fact.mk hc; obtain ⟨v, h1, h2⟩ := hc; have g1 := h1.cell 1 _ rfl; clear h1 h2)
        | (go_at_call 76; refine (fail76 _ _ _ _ _ HC.out).mono ?_; rintro e w2 ⟨rfl, hcur, hk2⟩))
      go_ret
      exact ⟨by rw [TG.out, if_pos hm]; exact ⟨rfl, hcur⟩, hk1.trans hk2⟩
    · have hm' : (n : Int) ≤ most := by omega
      go_enter Tryz.func48, Tryz.ntmps48
      go_wp2_with (first
        | (go_at_call 46; refine (num46 _ _ _ _ _ H.out (by decide) hl).mono ?_; rintro e w1 ⟨hp, hk1⟩; rw [if_pos HG.out, ← HN.out, ← HK.out] at hp; obtain ⟨rfl, hc⟩ := hp; have HC := Fact.mk hc; obtain ⟨v, h1, h2⟩ := hc; have g1 := h1.cell 1 _ rfl; clear h1 h2)
        | (go_at_call 77; refine (raw77 _ _ _ _ _ HC.out HB.out hsm).mono ?_; rintro e w2 hp2; have HP := Fact.mk hp2; clear hp2; obtain ⟨A, c, q, rfl⟩ : ∃ A c q, e = .returned (.slice A q c) := RawPost.form HP.out))
      go_ret
      obtain ⟨hp2, hk2⟩ := HP.out
      refine ⟨?_, hk1.trans hk2⟩
      rw [TG.out, if_neg (by omega)]
      by_cases hle : n ≤ (rest.drop k).length
      · rw [if_pos ⟨rfl, by omega, by exact_mod_cast hle⟩] at hp2
        rw [if_pos hle]
        obtain ⟨A', c', he, h3, h4⟩ := hp2
        have hlt : ((rest.drop k).take n).length = n := by rw [List.length_take]; omega
        refine ⟨A', c', ?_, ?_, h4⟩
        · rw [hlt]; exact he
        · rw [hlt]; exact h3.mono fun i _ h => Nat.le_trans hk1.size h
      · rw [if_neg (by rintro ⟨_, _, h⟩; exact hle (by exact_mod_cast h))] at hp2
        rw [if_neg hle]
        exact hp2
  · have HG := Fact.mk hg
    clear hg
    go_enter Tryz.func48, Tryz.ntmps48
    go_wp2_with (go_at_call 46; refine (num46 _ _ _ _ _ H.out (by decide) hl).mono ?_; rintro e w1 ⟨hp, hk⟩; rw [if_neg HG.out] at hp; obtain ⟨rfl, hc⟩ := hp; have HC := Fact.mk hc; obtain ⟨v, h1, h2⟩ := hc; have g1 := h1.cell 1 _ rfl; rw [broken, if_pos rfl] at g1; clear h1 h2)
    go_ret
    exact ⟨by unfold textGet; rw [if_neg HG.out]; exact ⟨rfl, HC.out⟩, hk⟩

/-- The error at the end: none is missing. -/
def endErr (rest : List UInt8) (wrong : Int) : Int := if wrong = 0 ∧ 0 < rest.length then 4 else wrong
theorem end50 (w : World) (b : Nat) (rest : List UInt8) (wrong : Int) (h : Cur w b rest wrong) :
    Calls Tryz.prog 50 #[.pointer (some ⟨b, 0, none⟩)] w fun e w' => e = .returned (.int .i64 (endErr rest wrong)) ∧ w = w' := by
  obtain ⟨v, h1, h2⟩ := h
  obtain ⟨A, c, rfl, -⟩ := h2.open
  have g0 := h1.cell 0 _ rfl
  have g1 := h1.cell 1 _ rfl
  clear h1 h2
  by_cases hw : wrong = 0
  · have hwb : (wrong == 0) = true := by simp [hw]
    by_cases hl : 0 < rest.length
    · have HE : Fact (endErr rest wrong = 4) := ⟨by simp only [endErr, if_pos (And.intro hw hl)]⟩
      clear hw
      go_enter Tryz.func50, Tryz.ntmps50
      go_wp2
      go_ret
      exact ⟨by rw [HE.out]; rfl, rfl⟩
    · have HE : Fact (endErr rest wrong = wrong) := ⟨by simp only [endErr, if_neg (fun h : wrong = 0 ∧ 0 < rest.length => hl h.2)]⟩
      clear hw
      go_enter Tryz.func50, Tryz.ntmps50
      go_wp2
      go_ret
      exact ⟨by rw [HE.out]; rfl, rfl⟩
  · have hwb : (wrong == 0) = false := by simp [hw]
    have HE : Fact (endErr rest wrong = wrong) := ⟨by simp only [endErr, if_neg (fun h : wrong = 0 ∧ 0 < rest.length => hw h.1)]⟩
    clear hw
    go_enter Tryz.func50, Tryz.ntmps50
    go_wp2
    go_ret
    exact ⟨by rw [HE.out]; rfl, rfl⟩
end Go.Proofs.YtddmbdigdnmfgaaGreatDoor

namespace Go.Proofs.YtddmbdigdnmfgaaGreatDoor
open Go.RowKit
set_option maxHeartbeats 400000
set_option maxRecDepth 100000

/-- A number's bytes. -/
def numBytes (n : Nat) : List UInt8 := if n < 128 then [UInt8.ofNat n] else UInt8.ofNat (n % 128 + 128) :: numBytes (n / 128)
theorem numBytes_small {n : Nat} (h : n < 128) : numBytes n = [UInt8.ofNat n] := by rw [numBytes, if_pos h]
theorem numBytes_big {n : Nat} (h : ¬ n < 128) : numBytes n = UInt8.ofNat (n % 128 + 128) :: numBytes (n / 128) := by rw [numBytes, if_neg h]
theorem numBytes_len (n : Nat) : (numBytes n).length = numLen n := by
  induction n using Nat.strongRecOn with
  | _ n ih =>
    rw [numBytes, numLen]; split
    · rfl
    · simp [ih (n / 128) (by omega)]

/-- The blocks that are neither the maker's nor its row's. -/
def Mine (b : Nat) (v : Value) : Nat → Prop := fun i => i ≠ b ∧ v.ownBlock ≠ some i
/-- The maker at block b: its row v holds l. -/
def Mk (w : World) (b : Nat) (v : Value) (l : List UInt8) (bad : Bool) : Prop := Blk w b [v, .bool bad] 77 ∧ w.ownsRow (b + 1) 5 1 v l.length (l.map u8v)
/-- The row is the old one, or a new one. -/
def Moved (w : World) (v v' : Value) : Prop := ∀ g, v'.ownBlock = some g → v.ownBlock = some g ∨ w.heap.size ≤ g
theorem Moved.refl (w : World) (v : Value) : Moved w v v := fun _ h => .inl h
theorem Moved.trans {w w1 : World} {v v1 v2 : Value} (h : Moved w v v1) (k : Moved w1 v1 v2) (hs : w.heap.size ≤ w1.heap.size) : Moved w v v2 := fun g hg => by
  rcases k g hg with h1 | h1
  · exact h g h1
  · exact .inr (Nat.le_trans hs h1)
theorem Keep.mine {w w1 w2 : World} {b : Nat} {v v1 : Value} (h : Keep (Mine b v) w w1) (k : Keep (Mine b v1) w1 w2) (hm : Moved w v v1) : Keep (Mine b v) w w2 :=
  h.then_ k fun i hi hg => ⟨hg.1, fun e => by
    rcases hm i e with h1 | h1
    · exact hg.2 h1
    · omega⟩
/-- What a maker's call leaves. -/
def Made (w : World) (b : Nat) (v : Value) (l : List UInt8) (bad : Bool) (w' : World) : Prop := ∃ v', Mk w' b v' l bad ∧ Keep (Mine b v) w w' ∧ Moved w v v'
theorem Made.refl {w : World} {b : Nat} {v : Value} {l : List UInt8} {bad : Bool} (h : Mk w b v l bad) : Made w b v l bad w := ⟨v, h, Keep.refl _ _, Moved.refl _ _⟩
theorem Made.then_ {w w1 w2 : World} {b : Nat} {v v1 : Value} {l : List UInt8} {bad : Bool} (k : Keep (Mine b v) w w1) (hm : Moved w v v1) (h2 : Made w1 b v1 l bad w2) : Made w b v l bad w2 := by
  obtain ⟨v2, h, k2, m2⟩ := h2
  exact ⟨v2, h, k.mine k2 hm, hm.trans m2 k.size⟩
theorem Mk.alloc {w : World} {b : Nat} {v : Value} {l : List UInt8} {bad : Bool} (h : Mk w b v l bad) (o : Obj) : Mk (w.alloc o) b v l bad := ⟨h.1.alloc o, h.2.alloc o⟩
/-- The row's value after an append: stored. -/
theorem Mk.stored {w w1 : World} {b : Nat} {v v1 : Value} {l l1 : List UInt8} {bad : Bool} (h : Mk w b v l bad) (ho : w1.ownsRow (b + 1) 5 1 v1 l1.length (l1.map u8v)) (hg : w.grownBy w1 v.ownBlock) :
    Mk (w1.setCell ⟨b, 0, none⟩ v1) b v1 l1 bad := by
  have hb : v.ownBlock ≠ some b := fun e => by have := (h.2.lt b e).1; omega
  exact ⟨(h.1.grown hg hb).set 0 v1, ownsRow_setCell_below ho (by simp) _⟩
theorem Mk.form {w : World} {b : Nat} {v : Value} {l : List UInt8} {bad : Bool} (h : Mk w b v l bad) : ∃ A c, v = .slice A l.length c := by
  rcases h.2.2 with ⟨rfl, h0⟩ | ⟨g, cap, cur, rfl, _⟩
  · exact ⟨none, 0, by rw [h0]⟩
  · exact ⟨_, cap, rfl⟩

/-- Behind an append onto the maker's row, ahead of its store. -/
def Pushed (w w1 : World) (b : Nat) (v v' : Value) (l : List UInt8) (bad : Bool) : Prop :=
  Blk w1 b [v, .bool bad] 77 ∧ (∃ A c q, v' = .slice A q c) ∧ Mk (w1.setCell ⟨b, 0, none⟩ v') b v' l bad ∧ Keep (Mine b v) w (w1.setCell ⟨b, 0, none⟩ v') ∧ Moved w v v'
theorem Pushed.form {w w1 : World} {b : Nat} {v v' : Value} {l : List UInt8} {bad : Bool} (h : Pushed w w1 b v v' l bad) : ∃ A c q, v' = .slice A q c ∧ True := by
  obtain ⟨A, c, q, e⟩ := h.2.1
  exact ⟨A, c, q, e, trivial⟩
theorem Mk.pushed {w w1 : World} {b m : Nat} {v v' : Value} {l ys : List UInt8} {bad : Bool} (h : Mk w b v l bad) (ho : w1.ownsRow (b + 1) 5 1 v' (l.length + m) (l.map u8v ++ ys.map u8v)) (hg : w.grownBy w1 v.ownBlock)
    (hv : v'.ownBlock = v.ownBlock ∨ v'.ownBlock = some w.heap.size) :
    Pushed w w1 b v v' (l ++ ys) bad := by
  have hb : v.ownBlock ≠ some b := fun e => by have := (h.2.lt b e).1; omega
  have hm : ys.length = m := by have := ho.1; simp at this; omega
  subst hm
  refine ⟨h.1.grown hg hb, (by obtain ⟨A, c, e⟩ := own_form ho; exact ⟨A, c, _, e⟩), Mk.stored h (by rw [List.length_append, List.map_append]; exact ho) hg, (((Keep.refl _ _).grown hg fun k hk => .inr fun hM => hM.2 hk).setCell (.inr (by simp [Mine])) _), fun g hg' => ?_⟩
  rcases hv with hv | hv
  · exact .inl (hv ▸ hg')
  · rw [hv] at hg'; cases hg'; exact .inr (Nat.le_refl _)
theorem Keep.alloc_mine {w w2 : World} {b : Nat} {v : Value} {o : Obj} (k : Keep (Mine b v) (w.alloc o) w2) : Keep (Mine b v) w w2 := ((Keep.refl _ w).alloc o).trans k
theorem Moved.of_alloc {w : World} {v v' : Value} {o : Obj} (h : Moved (w.alloc o) v v') : Moved w v v' := fun g hg => by
  rcases h g hg with h | h
  · exact .inl h
  · exact .inr (by simp at h; omega)
theorem u8v_ofNat {n : Nat} (h : n < 256) : u8v (UInt8.ofNat n) = .int .u8 (n : Int) := by
  simp [u8v]; omega

/-- Its row's length under a name of its own: the walk would take a sum apart. -/
theorem Mk.form' {w : World} {b : Nat} {v : Value} {l : List UInt8} {bad : Bool} (h : Mk w b v l bad) : ∃ A c q, v = .slice A q c ∧ Fact (q = l.length) := by
  obtain ⟨A, c, rfl⟩ := h.form
  exact ⟨A, c, _, rfl, ⟨rfl⟩⟩

theorem allow69 (w : World) (b : Nat) (v : Value) (l : List UInt8) (n most : Int) (h : Mk w b v l false) (h0 : 0 ≤ n) (hm : n ≤ most) (h9 : most ≤ 9223372036854775807) :
    Calls Tryz.prog 69 #[.pointer (some ⟨b, 0, none⟩), .int .i64 n, .int .i64 most] w fun e w' => e = .returned (.bool true) ∧ w = w' := by
  have g1 := h.1.cell 1 _ rfl
  have hw1 := u64_pos h0 (Int.le_trans hm h9)
  have hw2 := u64_pos (Int.le_trans h0 hm) h9
  have hlt : ¬ most < n := by omega
  clear h h0 hm h9
  go_enter Tryz.func69, Tryz.ntmps69
  go_wp2
  go_ret
  exact ⟨rfl, rfl⟩

theorem or128 (k : Nat) : bits .or .u8 (IntKind.u8.wrap (k : Int)) 128 = ((k % 128 + 128 : Nat) : Int) := by
  have e : IntKind.u8.wrap (k : Int) = ((k % 256 : Nat) : Int) := by rw [IntKind.wrap_u8]; omega
  rw [e]
  have h := u8_or_nat (k % 256) 128 (by omega) (by omega)
  have h' : bits .or .u8 ((k % 256 : Nat) : Int) 128 = (((k % 256) ||| 128 : Nat) : Int) := h
  rw [h']
  have h2 : ∀ m : Fin 256, (m.val ||| 128) = m.val % 128 + 128 := by decide
  have := h2 ⟨k % 256, Nat.mod_lt _ (by omega)⟩
  simp only at this
  rw [this]
  omega
theorem wrap_small {k : Nat} (h : k < 128) : IntKind.u8.wrap (k : Int) = (k : Int) := by rw [IntKind.wrap_u8]; omega

theorem number70 (w : World) (b : Nat) (v : Value) (l : List UInt8) (bad : Bool) (n : Nat) (h : Mk w b v l bad) (hn : Six n) (hl : Small (l.length + 8)) :
    Calls Tryz.prog 70 #[.pointer (some ⟨b, 0, none⟩), .int .u64 n] w fun e w' => e = .returned (.tuple #[]) ∧ Made w b v (l ++ numBytes n) bad w' := by
  have H := Fact.mk h
  have HS := Fact.mk hn
  have H6 := Fact.mk (numLen_six hn)
  clear h hn
  go_enter Tryz.func70, Tryz.ntmps70
  go_upto_block 0 with (fail)
  go_cut [1] (fun x w' => ∃ k : Nat, k < 128 ∧ x = .int .u64 k ∧ ∃ v1 d, numBytes n = d ++ numBytes k ∧ Mk w' b v1 (l ++ d) bad ∧ Keep (Mine b v) w w' ∧ Moved w v v1)
  case first =>
    go_wp2
    go_loopg [1] n (fun g x w' => ∃ k : Nat, k = g ∧ x = .int .u64 k ∧ ∃ v1 d, numBytes n = d ++ numBytes k ∧ Mk w' b v1 (l ++ d) bad ∧ Keep (Mine b v) w w' ∧ Moved w v v1)
    case atStart => exact ⟨n, rfl, rfl, v, [], rfl, by simpa using H.out, Keep.refl _ _, Moved.refl _ _⟩
    case round =>
      obtain ⟨k, rfl, rfl, v1, d, hd, hmk, hkp, hmv⟩ := hrel
      obtain ⟨A, c, q, rfl, hq⟩ := hmk.form'
      have g0 := hmk.1.cell 0 _ rfl
      have f0 := hmk.1.free 0
      have HD := Fact.mk hd
      have HM := Fact.mk hmk
      have hdl : Small (l.length + d.length + 1) := by
        have := congrArg List.length hd
        rw [List.length_append, numBytes_len, numBytes_len] at this
        have h1 := numLen_pos k
        have h6 := H6.out
        exact hl.mono (by omega)
      clear hd hmk
      by_cases hk : k < 128
      · go_wp2
        go_meet
        case rel => exact ⟨k, hk, rfl, _, d, HD.out, HM.out, hkp, hmv⟩
      · have ho := or128 k
        rw [IntKind.wrap_u8] at ho
        have HN := Fact.mk (numBytes_big hk)
        have HF := Fact.mk (Fits.of (n := (l ++ d).length) (m := 1) (by simpa using hdl) 1 (by decide))
        go_wp2_with (at_builtin; go_must (refine wpList_ap rfl _ _ 23 5 1 1 (b + 1) (l ++ d).length 1 (HM.out.2.alloc _) (Sl.new wr 5 1 1 [_] rfl (by decide) (by simp [Value.oneCell'])) rfl T23 rfl rfl HF.out (alloc_le HM.out.1.lt) ?_); intro v' w1 ho hg hb; have HP := Fact.mk (Mk.pushed (HM.out.alloc _) (ys := [UInt8.ofNat (k % 128 + 128)]) (by rw [List.map_cons, u8v_ofNat (show k % 128 + 128 < 256 by omega), Int.natCast_add, Int.natCast_emod]; exact ho) hg hb); clear ho hg hb; obtain ⟨A', c', q', rfl, hq'⟩ := HP.out.form; have g1 := HP.out.1.cell 0 _ rfl; have f1 := HP.out.1.free 0)
        obtain ⟨hB, _, hmk', hk', hm'⟩ := HP.out
        go_roundg (k / 128)
        case measure => omega
        case rel => exact ⟨k / 128, rfl, by go_num, _, d ++ [UInt8.ofNat (k % 128 + 128)], by rw [HD.out, HN.out]; simp, by rw [← List.append_assoc]; exact hmk', hkp.mine hk'.alloc_mine hmv, hmv.trans hm'.of_alloc hkp.size⟩
  case rest =>
    obtain ⟨k, hk, rfl, v1, d, hd, hmk, hkp, hmv⟩ := hcut
    obtain ⟨A, c, q, rfl, hq⟩ := hmk.form'
    have g0 := hmk.1.cell 0 _ rfl
    have f0 := hmk.1.free 0
    have HD := Fact.mk hd
    have HM := Fact.mk hmk
    have hdl : Small (l.length + d.length + 1) := by
      have := congrArg List.length hd
      rw [List.length_append, numBytes_len, numBytes_len] at this
      have h1 := numLen_pos k
      have h6 := H6.out
      exact hl.mono (by omega)
    clear hd hmk
    have ho := wrap_small hk
    rw [IntKind.wrap_u8] at ho
    have HN := Fact.mk (numBytes_small hk)
    have HF := Fact.mk (Fits.of (n := (l ++ d).length) (m := 1) (by simpa using hdl) 1 (by decide))
    go_wp2_with (at_builtin; go_must (refine wpList_ap rfl _ _ 23 5 1 1 (b + 1) (l ++ d).length 1 (HM.out.2.alloc _) (Sl.new wc 5 1 1 [_] rfl (by decide) (by simp [Value.oneCell'])) rfl T23 rfl rfl HF.out (alloc_le HM.out.1.lt) ?_); intro v' w1 ho hg hb; have HP := Fact.mk (Mk.pushed (HM.out.alloc _) (ys := [UInt8.ofNat k]) (by rw [List.map_cons, u8v_ofNat (show k < 256 by omega)]; exact ho) hg hb); clear ho hg hb; obtain ⟨A', c', q', rfl, hq'⟩ := HP.out.form; have g1 := HP.out.1.cell 0 _ rfl; have f1 := HP.out.1.free 0)
    obtain ⟨hB, _, hmk', hk', hm'⟩ := HP.out
    go_end0
    exact ⟨rfl, _, by rw [HD.out, HN.out, ← List.append_assoc]; exact hmk', hkp.mine hk'.alloc_mine hmv, hmv.trans hm'.of_alloc hkp.size⟩

/-- The bytes of numbers, one behind the other. -/
def numsBytes (l : List Nat) : List UInt8 := l.flatMap numBytes
theorem numsBytes_len (l : List Nat) (h : ∀ n ∈ l, n ≤ 1099511627776) : (numsBytes l).length ≤ 6 * l.length := by
  induction l with
  | nil => simp [numsBytes]
  | cons n l ih =>
    have h1 := ih fun m hm => h m (List.mem_cons_of_mem _ hm)
    have h2 := numLen_six (show Six n by have := h n (List.mem_cons_self ..); show n < _; omega)
    simp only [numsBytes, List.flatMap_cons, List.length_append, numBytes_len, List.length_cons] at *
    omega
theorem numsBytes_snoc (l : List Nat) (n : Nat) : numsBytes (l ++ [n]) = numsBytes l ++ numBytes n := by simp [numsBytes]
def numV (n : Nat) : Value := .int .i64 n
/-- Num: of numbers that may all be. -/
theorem num34 (w : World) (b : Nat) (v : Value) (l : List UInt8) (ns : List Nat) (A : Option Addr) (c : Nat) (h : Mk w b v l false) (hn : ∀ n ∈ ns, n ≤ 1099511627776)
    (hs : Sl w (Mine b v) 1 (.slice A ns.length c) ns.length (ns.map numV)) (hl : Small (l.length + 8 * ns.length + 8)) :
    Calls Tryz.prog 34 #[.pointer (some ⟨b, 0, none⟩), .slice A ns.length c] w fun e w' => e = .returned (.pointer (some ⟨b, 0, none⟩)) ∧ Made w b v (l ++ numsBytes ns) false w' := by
  have H := Fact.mk h
  have HN := Fact.mk hn
  have HS := Fact.mk hs
  have hlen : ns.length ≤ 1048576 := by have := hl.le; omega
  clear h hn hs
  go_enter Tryz.func34, Tryz.ntmps34
  go_wp2
  go_loopg [11] ns.length (fun g i w' => ∃ k : Nat, k + g = ns.length ∧ i = .int .i64 k ∧ Made w b v (l ++ numsBytes (ns.take k)) false w')
  case atStart => exact ⟨0, by omega, rfl, by simpa [numsBytes] using Made.refl H.out⟩
  case round =>
    obtain ⟨k, hkg, rfl, hmade⟩ := hrel
    have HK := Fact.mk hkg
    have HM := Fact.mk hmade
    clear hkg hmade
    by_cases hk : k < ns.length
    · obtain ⟨v1, hmk, hkp, hmv⟩ := HM.out
      obtain ⟨_, A', c', he, hl1, _, _, _, hat⟩ := HS.out.keep hkp
      cases he
      obtain ⟨b1, off, rfl, hb1, hat⟩ := hat (by simp; omega)
      obtain ⟨n, hne⟩ : ∃ n, n = ns[k] := ⟨_, rfl⟩
      have hcell := hat.get k (numV n) (by simp [hne, List.getElem?_eq_getElem hk])
      unfold numV at hcell
      have hn40 := HN.out n (by rw [hne]; exact List.getElem_mem hk)
      have hsm : Small ((l ++ numsBytes (ns.take k)).length + 8) := by
        have h1 := numsBytes_len (ns.take k) fun m hm => HN.out m (List.mem_of_mem_take hm)
        have h2 := List.length_take_le k ns
        exact hl.mono (by rw [List.length_append]; omega)
      have HT : Fact (numsBytes (ns.take (k + 1)) = numsBytes (ns.take k) ++ numBytes n) := ⟨by
        rw [List.take_succ_eq_append_getElem hk, numsBytes_snoc, hne]⟩
      have hi : ((n : Int) ≤ 9223372036854775807) := by omega
      have hi0 : (0 : Int) ≤ n := by omega
      have HI := Fact.mk (show (n : Int) ≤ 1099511627776 by omega)
      have hw := u64_pos hi0 hi
      have H6 := Fact.mk (show Six n by show n < _; omega)
      have HMK := Fact.mk hmk
      have HKP := Fact.mk hkp
      have HMV := Fact.mk hmv
      clear hne hat hl1 hn40 hmk hkp hmv hi
      go_wp2_with (first
        | (go_at_call 69; refine (allow69 _ _ _ _ _ _ HMK.out hi0 HI.out (by decide)).mono ?_; rintro e w' ⟨rfl, rfl⟩)
        | (go_at_call 70; refine (number70 _ _ _ _ _ _ HMK.out H6.out hsm).mono ?_; rintro e w2 ⟨rfl, hm2⟩))
      go_roundg (gk - 1)
      case measure => have := HK.out; omega
      case rel => exact ⟨k + 1, by have := HK.out; omega, by go_num, by rw [HT.out, ← List.append_assoc]; exact Made.then_ HKP.out HMV.out hm2⟩
    · go_wp2
      go_ret
      have hk : k = ns.length := by have := HK.out; omega
      subst hk
      refine ⟨rfl, ?_⟩
      have := HM.out
      rwa [List.take_length] at this

/-- Raw: bytes that lie apart from the maker. -/
theorem raw71 (w : World) (b : Nat) (v : Value) (l t : List UInt8) (x : Value) (bad : Bool) (h : Mk w b v l bad) (hs : By w (Mine b v) x t) (hl : Small (l.length + t.length)) :
    Calls Tryz.prog 71 #[.pointer (some ⟨b, 0, none⟩), x] w fun e w' => e = .returned (.pointer (some ⟨b, 0, none⟩)) ∧ Made w b v (l ++ t) bad w' := by
  obtain ⟨A, c, q, rfl, hq⟩ := h.form'
  have H := Fact.mk h
  have HS := Fact.mk hs
  have g0 := h.1.cell 0 _ rfl
  have f0 := h.1.free 0
  have HF := Fact.mk (Fits.of hl 1 (by decide))
  clear h hs
  go_enter Tryz.func71, Tryz.ntmps71
  go_wp2_with (at_builtin; go_must (refine wpList_ap rfl _ _ 23 5 1 1 (b + 1) l.length t.length H.out.2 HS.out rfl T23 rfl rfl HF.out H.out.1.lt ?_); intro v' w1 ho hg hb; have HP := Fact.mk (Mk.pushed H.out (ys := t) ho hg hb); clear ho hg hb; obtain ⟨A', c', q', rfl, hq'⟩ := HP.out.form; have g1 := HP.out.1.cell 0 _ rfl; have f1 := HP.out.1.free 0)
  obtain ⟨hB, _, hmk', hk', hm'⟩ := HP.out
  go_ret
  exact ⟨rfl, _, hmk', hk', hm'⟩

theorem Mine.moved {w : World} {b i : Nat} {v v1 : Value} (hm : Moved w v v1) (hi : i < w.heap.size) (h : Mine b v i) : Mine b v1 i :=
  ⟨h.1, fun e => by
    rcases hm i e with h1 | h1
    · exact h.2 h1
    · omega⟩
theorem Mk.mine_new {w : World} {b i : Nat} {v : Value} {l : List UInt8} {bad : Bool} (h : Mk w b v l bad) (hi : w.heap.size ≤ i) : Mine b v i := by
  have h1 := h.1.lt
  exact ⟨by omega, fun e => by have := (h.2.lt i e).2; omega⟩
theorem By.made {w w2 : World} {b : Nat} {v v2 x : Value} {t : List UInt8} (hx : By w (Mine b v) x t) (hk : Keep (Mine b v) w w2) (hm : Moved w v v2) : By w2 (Mine b v2) x t :=
  (hx.keep hk).mono' hx fun _ hi h => h.moved hm hi
/-- Text: of one text. -/
theorem mtext36 (w : World) (b : Nat) (v : Value) (l t : List UInt8) (x : Value) (A : Option Addr) (c : Nat) (h : Mk w b v l false) (hs : Sl w (Mine b v) 1 (.slice A 1 c) 1 [x]) (hx : By w (Mine b v) x t) (hl : Small (l.length + t.length + 16)) :
    Calls Tryz.prog 36 #[.pointer (some ⟨b, 0, none⟩), .slice A 1 c] w fun e w' => e = .returned (.pointer (some ⟨b, 0, none⟩)) ∧ Made w b v (l ++ (numBytes t.length ++ t)) false w' := by
  obtain ⟨Ax, cx, rfl, -⟩ := hx.open
  obtain ⟨_, A', c', he, _, _, _, _, hat⟩ := hs
  cases he
  obtain ⟨b1, off, rfl, hb1, hat⟩ := hat (by simp)
  have hcell := hat.get 0 _ rfl
  rw [Nat.add_zero] at hcell
  have hlt := hl.le
  have HI := Fact.mk (show (t.length : Int) ≤ 1048576 by omega)
  have H := Fact.mk h
  have HX := Fact.mk hx
  have HA : Fact (Mk (w.alloc (.cells #[numV t.length] 3)) b v l false) := ⟨h.alloc _⟩
  have HN : Fact (Sl (w.alloc (.cells #[numV t.length] 3)) (Mine b v) 1 (.slice (some ⟨w.heap.size, 0, none⟩) 1 1) 1 [numV t.length]) :=
    ⟨(Sl.new w 3 1 1 [numV t.length] rfl (by decide) (by simp [numV, Value.oneCell'])).mono fun i _ hi => h.mine_new hi⟩
  have HL1 : Small (l.length + 8 * [t.length].length + 8) := hl.mono (by simp)
  have HT : Fact (∀ n ∈ [t.length], n ≤ 1099511627776) := ⟨by simp; omega⟩
  have hi0 : (0 : Int) ≤ t.length := by omega
  unfold numV at HA HN
  have HL2 : Fact (Small ((l ++ numsBytes [t.length]).length + t.length)) := ⟨hl.mono (by
    have := numsBytes_len [t.length] HT.out
    rw [List.length_append]
    simp only [List.length_cons, List.length_nil] at this
    omega)⟩
  have HE : Fact (l ++ numsBytes [t.length] ++ t = l ++ (numBytes t.length ++ t)) := ⟨by simp [numsBytes]⟩
  clear h hx hat hlt
  go_enter Tryz.func36, Tryz.ntmps36
  go_wp2
  refine wp_loop_rounds 2 ?_
  rw [rounds_succ]
  go_wp2_with (first
    | (go_at_call 69; refine (allow69 _ _ _ _ _ _ H.out hi0 HI.out (by decide)).mono ?_; rintro e w' ⟨rfl, rfl⟩)
    | (go_at_call 34; go_must (refine (num34 _ _ _ _ [t.length] _ _ HA.out HT.out HN.out HL1).mono ?_); rintro e w2 ⟨rfl, v2, hmk2, hkp2, hmv2⟩; have HMK2 := Fact.mk hmk2; have HX2 := Fact.mk (HX.out.made hkp2.alloc_mine hmv2.of_alloc))
    | (go_at_call 71; go_must (refine (raw71 _ _ _ _ _ _ _ HMK2.out HX2.out ?_).mono ?_); exact HL2.out; rintro e w3 ⟨rfl, hm3⟩))
  rw [rounds_succ]
  go_wp2
  go_ret
  exact ⟨rfl, by rw [← HE.out]; exact Made.then_ hkp2.alloc_mine hmv2.of_alloc hm3⟩
end Go.Proofs.YtddmbdigdnmfgaaGreatDoor

namespace Go.Proofs.YtddmbdigdnmfgaaGreatDoor
open Go.RowKit
set_option maxHeartbeats 400000
set_option maxRecDepth 100000

/-! ### Operations -/
structure POp where
  kind : Int
  n : Int
  m : Int
  text : List UInt8
def hasText (k : Int) : Bool := k == 1 || k == 3 || k == 5 || k == 6 || k == 7 || k == 8 || k == 9
def numbersOf (k : Int) : Nat := if k = 20 then 2 else if k = 12 ∨ k = 17 ∨ k = 18 then 1 else 0
def OpRight (o : POp) : Prop :=
  1 ≤ o.kind ∧ o.kind ≤ 20 ∧ (o.text.length = 0 ∨ hasText o.kind = true) ∧ o.text.length ≤ 1000 ∧ 0 ≤ o.n ∧ 0 ≤ o.m ∧ o.n ≤ 4096 ∧ o.m ≤ 4096 ∧ (0 < numbersOf o.kind ∨ o.n = 0) ∧ (1 < numbersOf o.kind ∨ o.m = 0)
instance (o : POp) : Decidable (OpRight o) := by unfold OpRight; infer_instance
def opRight (o : POp) : Bool := decide (OpRight o)

theorem text35 (w : World) (k : Nat) (hk : k ≤ 20) : Calls Tryz.prog 35 #[.int .i64 k] w fun e w' => e = .returned (.bool (hasText k)) ∧ w = w' := by
  have : k = 0 ∨ k = 1 ∨ k = 2 ∨ k = 3 ∨ k = 4 ∨ k = 5 ∨ k = 6 ∨ k = 7 ∨ k = 8 ∨ k = 9 ∨ k = 10 ∨ k = 11 ∨ k = 12 ∨ k = 13 ∨ k = 14 ∨ k = 15 ∨ k = 16 ∨ k = 17 ∨ k = 18 ∨ k = 19 ∨ k = 20 := by omega
  clear hk
  go_enter Tryz.func35, Tryz.ntmps35
  rcases this with rfl | rfl | rfl | rfl | rfl | rfl | rfl | rfl | rfl | rfl | rfl | rfl | rfl | rfl | rfl | rfl | rfl | rfl | rfl | rfl | rfl
  all_goals (go_wp2; go_ret; exact ⟨ret_bool (by decide), rfl⟩)

theorem numbers37 (w : World) (k : Int) : Calls Tryz.prog 37 #[.int .i64 k] w fun e w' => e = .returned (.int .i64 (numbersOf k)) ∧ w = w' := by
  by_cases h20 : k = 20
  · subst h20
    go_enter Tryz.func37, Tryz.ntmps37
    go_wp2
    go_ret
    exact ⟨rfl, rfl⟩
  by_cases h1 : k = 12 ∨ k = 17 ∨ k = 18
  · have HN : Fact (numbersOf k = 1) := ⟨by unfold numbersOf; rw [if_neg h20, if_pos h1]⟩
    clear h20
    go_enter Tryz.func37, Tryz.ntmps37
    rcases h1 with rfl | rfl | rfl
    all_goals (go_wp2; go_ret; exact ⟨rfl, rfl⟩)
  · have HN : Fact (numbersOf k = 0) := ⟨by unfold numbersOf; rw [if_neg h20, if_neg h1]⟩
    have a1 : (k == 20) = false := by simp [h20]
    have a2 : (k == 12) = false := by simp; omega
    have a3 : (k == 17) = false := by simp; omega
    have a4 : (k == 18) = false := by simp; omega
    clear h20 h1
    go_enter Tryz.func37, Tryz.ntmps37
    go_wp2
    go_ret
    exact ⟨by rw [HN.out]; rfl, rfl⟩

def RightPost (w : World) (b : Bool) (e : Ending) (w' : World) : Prop := e = .returned (.bool b) ∧ Keep All w w'
theorem RightPost.of {w : World} {b b' : Bool} {o : Obj} (h : b' = b) : RightPost w b (.returned (.bool b')) (w.alloc o) := ⟨by rw [h], (Keep.refl _ _).alloc _⟩

theorem right33_Tlt (w : World) (kn : Nat) (n m : Int) (t q : Nat) (A : Option Addr) (c : Nat) (r : Bool) (hkn : kn ≤ 20) (hk1 : (1 : Int) ≤ kn) (HQ : Fact (q = numbersOf (kn : Int)))
    (HR : Fact (r = true ↔ t ≤ 1000 ∧ 0 ≤ n ∧ 0 ≤ m ∧ n ≤ 4096 ∧ m ≤ 4096 ∧ (0 < q ∨ n = 0) ∧ (1 < q ∨ m = 0))) (HT : Fact (hasText (kn : Int) = true)) (h1 : m < n) (h0 : 0 < t) :
    Calls Tryz.prog 33 #[.agg #[.int .i64 kn, .int .i64 n, .int .i64 m, .slice A t c]] w (RightPost w r) := by
  have hk2 : (kn : Int) ≤ 20 := by omega
  have h2 : ¬ n < m := by omega
  go_enter Tryz.func33, Tryz.ntmps33
  go_wp2_with (first
    | (go_at_call 35; go_must (refine (text35 _ _ hkn).mono ?_); rintro e w' ⟨rfl, rfl⟩; rw [HT.out])
    | (go_at_call 37; go_must (refine (numbers37 _ _).mono ?_); rintro e w' ⟨rfl, rfl⟩; rw [← HQ.out]))
  all_goals (go_ret; refine RightPost.of ?_; rw [Bool.eq_iff_iff, HR.out]; (try simp only [Bool.false_eq_true, false_iff, true_iff, Bool.or_eq_true, decide_eq_true_eq, beq_iff_eq]); omega)

theorem right33_Tgt (w : World) (kn : Nat) (n m : Int) (t q : Nat) (A : Option Addr) (c : Nat) (r : Bool) (hkn : kn ≤ 20) (hk1 : (1 : Int) ≤ kn) (HQ : Fact (q = numbersOf (kn : Int)))
    (HR : Fact (r = true ↔ t ≤ 1000 ∧ 0 ≤ n ∧ 0 ≤ m ∧ n ≤ 4096 ∧ m ≤ 4096 ∧ (0 < q ∨ n = 0) ∧ (1 < q ∨ m = 0))) (HT : Fact (hasText (kn : Int) = true)) (h2 : n < m) (h0 : 0 < t) :
    Calls Tryz.prog 33 #[.agg #[.int .i64 kn, .int .i64 n, .int .i64 m, .slice A t c]] w (RightPost w r) := by
  have hk2 : (kn : Int) ≤ 20 := by omega
  have h1 : ¬ m < n := by omega
  go_enter Tryz.func33, Tryz.ntmps33
  go_wp2_with (first
    | (go_at_call 35; go_must (refine (text35 _ _ hkn).mono ?_); rintro e w' ⟨rfl, rfl⟩; rw [HT.out])
    | (go_at_call 37; go_must (refine (numbers37 _ _).mono ?_); rintro e w' ⟨rfl, rfl⟩; rw [← HQ.out]))
  all_goals (go_ret; refine RightPost.of ?_; rw [Bool.eq_iff_iff, HR.out]; (try simp only [Bool.false_eq_true, false_iff, true_iff, Bool.or_eq_true, decide_eq_true_eq, beq_iff_eq]); omega)

theorem right33_Teq (w : World) (kn : Nat) (n : Int) (t q : Nat) (A : Option Addr) (c : Nat) (r : Bool) (hkn : kn ≤ 20) (hk1 : (1 : Int) ≤ kn) (HQ : Fact (q = numbersOf (kn : Int)))
    (HR : Fact (r = true ↔ t ≤ 1000 ∧ 0 ≤ n ∧ n ≤ 4096 ∧ (0 < q ∨ n = 0) ∧ (1 < q ∨ n = 0))) (HT : Fact (hasText (kn : Int) = true))  (h0 : 0 < t) :
    Calls Tryz.prog 33 #[.agg #[.int .i64 kn, .int .i64 n, .int .i64 n, .slice A t c]] w (RightPost w r) := by
  have hk2 : (kn : Int) ≤ 20 := by omega
  go_enter Tryz.func33, Tryz.ntmps33
  go_wp2_with (first
    | (go_at_call 35; go_must (refine (text35 _ _ hkn).mono ?_); rintro e w' ⟨rfl, rfl⟩; rw [HT.out])
    | (go_at_call 37; go_must (refine (numbers37 _ _).mono ?_); rintro e w' ⟨rfl, rfl⟩; rw [← HQ.out]))
  all_goals (go_ret; refine RightPost.of ?_; rw [Bool.eq_iff_iff, HR.out]; (try simp only [Bool.false_eq_true, false_iff, true_iff, Bool.or_eq_true, decide_eq_true_eq, beq_iff_eq]); omega)

theorem right33_Zlt (w : World) (kn : Nat) (n m : Int) (q : Nat) (A : Option Addr) (c : Nat) (r : Bool) (hkn : kn ≤ 20) (hk1 : (1 : Int) ≤ kn) (HQ : Fact (q = numbersOf (kn : Int)))
    (HR : Fact (r = true ↔ 0 ≤ n ∧ 0 ≤ m ∧ n ≤ 4096 ∧ m ≤ 4096 ∧ (0 < q ∨ n = 0) ∧ (1 < q ∨ m = 0)))  (h1 : m < n)  :
    Calls Tryz.prog 33 #[.agg #[.int .i64 kn, .int .i64 n, .int .i64 m, .slice A 0 c]] w (RightPost w r) := by
  have hk2 : (kn : Int) ≤ 20 := by omega
  have h2 : ¬ n < m := by omega
  go_enter Tryz.func33, Tryz.ntmps33
  go_wp2_with (first
    | (go_at_call 37; go_must (refine (numbers37 _ _).mono ?_); rintro e w' ⟨rfl, rfl⟩; rw [← HQ.out]))
  all_goals (go_ret; refine RightPost.of ?_; rw [Bool.eq_iff_iff, HR.out]; (try simp only [Bool.false_eq_true, false_iff, true_iff, Bool.or_eq_true, decide_eq_true_eq, beq_iff_eq]); omega)

theorem right33_Zgt (w : World) (kn : Nat) (n m : Int) (q : Nat) (A : Option Addr) (c : Nat) (r : Bool) (hkn : kn ≤ 20) (hk1 : (1 : Int) ≤ kn) (HQ : Fact (q = numbersOf (kn : Int)))
    (HR : Fact (r = true ↔ 0 ≤ n ∧ 0 ≤ m ∧ n ≤ 4096 ∧ m ≤ 4096 ∧ (0 < q ∨ n = 0) ∧ (1 < q ∨ m = 0)))  (h2 : n < m)  :
    Calls Tryz.prog 33 #[.agg #[.int .i64 kn, .int .i64 n, .int .i64 m, .slice A 0 c]] w (RightPost w r) := by
  have hk2 : (kn : Int) ≤ 20 := by omega
  have h1 : ¬ m < n := by omega
  go_enter Tryz.func33, Tryz.ntmps33
  go_wp2_with (first
    | (go_at_call 37; go_must (refine (numbers37 _ _).mono ?_); rintro e w' ⟨rfl, rfl⟩; rw [← HQ.out]))
  all_goals (go_ret; refine RightPost.of ?_; rw [Bool.eq_iff_iff, HR.out]; (try simp only [Bool.false_eq_true, false_iff, true_iff, Bool.or_eq_true, decide_eq_true_eq, beq_iff_eq]); omega)

theorem right33_Zeq (w : World) (kn : Nat) (n : Int) (q : Nat) (A : Option Addr) (c : Nat) (r : Bool) (hkn : kn ≤ 20) (hk1 : (1 : Int) ≤ kn) (HQ : Fact (q = numbersOf (kn : Int)))
    (HR : Fact (r = true ↔ 0 ≤ n ∧ n ≤ 4096 ∧ (0 < q ∨ n = 0) ∧ (1 < q ∨ n = 0)))    :
    Calls Tryz.prog 33 #[.agg #[.int .i64 kn, .int .i64 n, .int .i64 n, .slice A 0 c]] w (RightPost w r) := by
  have hk2 : (kn : Int) ≤ 20 := by omega
  go_enter Tryz.func33, Tryz.ntmps33
  go_wp2_with (first
    | (go_at_call 37; go_must (refine (numbers37 _ _).mono ?_); rintro e w' ⟨rfl, rfl⟩; rw [← HQ.out]))
  all_goals (go_ret; refine RightPost.of ?_; rw [Bool.eq_iff_iff, HR.out]; (try simp only [Bool.false_eq_true, false_iff, true_iff, Bool.or_eq_true, decide_eq_true_eq, beq_iff_eq]); omega)

theorem right33_no (w : World) (kn : Nat) (n m : Int) (t : Nat) (A : Option Addr) (c : Nat) (hkn : kn ≤ 20) (hk1 : (1 : Int) ≤ kn) (HT : Fact (hasText (kn : Int) = false)) (h0 : 0 < t) :
    Calls Tryz.prog 33 #[.agg #[.int .i64 kn, .int .i64 n, .int .i64 m, .slice A t c]] w (RightPost w false) := by
  have hk2 : (kn : Int) ≤ 20 := by omega
  go_enter Tryz.func33, Tryz.ntmps33
  go_wp2_with (go_at_call 35; go_must (refine (text35 _ _ hkn).mono ?_); rintro e w' ⟨rfl, rfl⟩; rw [HT.out])
  go_ret
  exact RightPost.of rfl

theorem right33 (w : World) (o : POp) (A : Option Addr) (c : Nat) :
    Calls Tryz.prog 33 #[.agg #[.int .i64 o.kind, .int .i64 o.n, .int .i64 o.m, .slice A o.text.length c]] w (RightPost w (opRight o)) := by
  obtain ⟨k, n, m, t⟩ := o
  have HR0 : opRight ⟨k, n, m, t⟩ = true ↔ OpRight ⟨k, n, m, t⟩ := by rw [opRight, decide_eq_true_eq]
  show Calls Tryz.prog 33 #[.agg #[.int .i64 k, .int .i64 n, .int .i64 m, .slice A t.length c]] w _
  by_cases hk : 1 ≤ k ∧ k ≤ 20
  · obtain ⟨kn, rfl⟩ := Int.eq_ofNat_of_zero_le (show 0 ≤ k by omega)
    have hkn : kn ≤ 20 := by omega
    have hk1 : (1 : Int) ≤ kn := hk.1
    by_cases h0 : 0 < t.length
    · by_cases ht : hasText (kn : Int) = true
      · have HR : Fact (opRight ⟨kn, n, m, t⟩ = true ↔ t.length ≤ 1000 ∧ 0 ≤ n ∧ 0 ≤ m ∧ n ≤ 4096 ∧ m ≤ 4096 ∧ (0 < numbersOf kn ∨ n = 0) ∧ (1 < numbersOf kn ∨ m = 0)) := ⟨by
          rw [HR0, OpRight]
          exact ⟨fun h => h.2.2.2, fun h => ⟨hk1, hk.2, .inr ht, h⟩⟩⟩
        rcases Int.lt_trichotomy m n with h | rfl | h
        · exact right33_Tlt w kn n m t.length _ A c _ hkn hk1 ⟨rfl⟩ HR ⟨ht⟩ h h0
        · exact right33_Teq w kn m t.length _ A c _ hkn hk1 ⟨rfl⟩ ⟨by rw [HR.out]; omega⟩ ⟨ht⟩ h0
        · exact right33_Tgt w kn n m t.length _ A c _ hkn hk1 ⟨rfl⟩ HR ⟨ht⟩ h h0
      · have hf : opRight ⟨kn, n, m, t⟩ = false := by
          rw [← Bool.not_eq_true, HR0, OpRight]
          rintro ⟨_, _, h | h, _⟩
          · simp only at h; omega
          · exact ht h
        rw [hf]
        exact right33_no w kn n m t.length A c hkn hk1 ⟨by simpa using ht⟩ h0
    · have ht0 : t = [] := List.eq_nil_of_length_eq_zero (by omega)
      subst ht0
      have HR : Fact (opRight ⟨kn, n, m, []⟩ = true ↔ 0 ≤ n ∧ 0 ≤ m ∧ n ≤ 4096 ∧ m ≤ 4096 ∧ (0 < numbersOf kn ∨ n = 0) ∧ (1 < numbersOf kn ∨ m = 0)) := ⟨by
        rw [HR0, OpRight]
        exact ⟨fun h => h.2.2.2.2, fun h => ⟨hk1, hk.2, .inl rfl, by simp, h⟩⟩⟩
      rcases Int.lt_trichotomy m n with h | rfl | h
      · exact right33_Zlt w kn n m _ A c _ hkn hk1 ⟨rfl⟩ HR h
      · exact right33_Zeq w kn m _ A c _ hkn hk1 ⟨rfl⟩ ⟨by rw [HR.out]; omega⟩
      · exact right33_Zgt w kn n m _ A c _ hkn hk1 ⟨rfl⟩ HR h
  · have hf : opRight ⟨k, n, m, t⟩ = false := by
      rw [← Bool.not_eq_true, HR0, OpRight]
      exact fun h => hk ⟨h.1, h.2.1⟩
    rw [hf]
    go_enter Tryz.func33, Tryz.ntmps33
    by_cases h1 : k < 1
    · clear hk HR0 hf
      go_wp2
      go_ret
      exact RightPost.of rfl
    · have h2 : 20 < k := by omega
      clear hk HR0 hf
      go_wp2
      go_ret
      exact RightPost.of rfl
end Go.Proofs.YtddmbdigdnmfgaaGreatDoor

namespace Go.Proofs.YtddmbdigdnmfgaaGreatDoor
open Go.RowKit
set_option maxHeartbeats 400000
set_option maxRecDepth 100000

/-! ### Rows of structs -/
/-- The cells are those of the list's elements, one behind the other. -/
def Reps {α : Type} (R : α → List Value → Prop) : List α → List Value → Prop
  | [], cs => cs = []
  | x :: r, cs => ∃ c d, cs = c ++ d ∧ R x c ∧ Reps R r d
section
variable {α : Type} {R R' : α → List Value → Prop}
theorem Reps.mono : ∀ {l : List α} {cs : List Value}, Reps R l cs → (∀ x c, x ∈ l → R x c → R' x c) → Reps R' l cs
  | [], _, h, _ => h
  | _ :: _, _, ⟨c, d, e, hx, hr⟩, hi => ⟨c, d, e, hi _ _ (List.mem_cons_self ..) hx, Reps.mono hr fun x c hm => hi x c (List.mem_cons_of_mem _ hm)⟩
theorem Reps.len {sz : Nat} (hsz : ∀ x c, R x c → c.length = sz) : ∀ {l : List α} {cs : List Value}, Reps R l cs → cs.length = l.length * sz
  | [], _, h => by rw [h]; simp
  | _ :: l, _, ⟨c, d, e, hx, hr⟩ => by
    rw [e, List.length_append, hsz _ _ hx, Reps.len hsz hr, List.length_cons, Nat.succ_mul]; omega
theorem Reps.get {sz : Nat} (hsz : ∀ x c, R x c → c.length = sz) : ∀ {l : List α} {cs : List Value}, Reps R l cs → ∀ k (hk : k < l.length), ∃ c, R l[k] c ∧ ∀ j v, c[j]? = some v → cs[k * sz + j]? = some v
  | _ :: l, _, ⟨c, d, e, hx, hr⟩, 0, _ => ⟨c, hx, fun j v hj => by
      rw [e, Nat.zero_mul, Nat.zero_add, List.getElem?_append_left (List.getElem?_eq_some_iff.1 hj).1]; exact hj⟩
  | _ :: l, _, ⟨c, d, e, hx, hr⟩, k + 1, hk => by
      obtain ⟨c', h1, h2⟩ := Reps.get hsz hr k (by simpa using hk)
      refine ⟨c', h1, fun j v hj => ?_⟩
      rw [e, List.getElem?_append_right (by rw [hsz _ _ hx, Nat.succ_mul]; omega), hsz _ _ hx]
      rw [show (k + 1) * sz + j - sz = k * sz + j from by rw [Nat.succ_mul]; omega]
      exact h2 j v hj
theorem Reps.append : ∀ {l l' : List α} {cs cs' : List Value}, Reps R l cs → Reps R l' cs' → Reps R (l ++ l') (cs ++ cs')
  | [], _, _, _, h, h' => by rw [h]; exact h'
  | _ :: _, _, _, _, ⟨c, d, e, hx, hr⟩, h' => ⟨c, d ++ _, by rw [e, List.append_assoc], hx, Reps.append hr h'⟩
theorem Reps.one {x : α} {c : List Value} (h : R x c) : Reps R [x] c := ⟨c, [], by simp, h, rfl⟩
theorem Reps.drop {sz : Nat} (hsz : ∀ x c, R x c → c.length = sz) : ∀ {l : List α} {cs : List Value}, Reps R l cs → ∀ k, Reps R (l.drop k) (cs.drop (k * sz))
  | _, _, h, 0 => by simpa using h
  | [], _, h, k + 1 => by rw [h]; simp [Reps]
  | _ :: l, _, ⟨c, d, e, hx, hr⟩, k + 1 => by
    have := Reps.drop hsz hr k
    rw [e, List.drop_succ_cons, Nat.succ_mul, Nat.add_comm, ← List.drop_drop, List.drop_left' (hsz _ _ hx)]
    exact this
theorem Reps.take {sz : Nat} (hsz : ∀ x c, R x c → c.length = sz) : ∀ {l : List α} {cs : List Value}, Reps R l cs → ∀ k, Reps R (l.take k) (cs.take (k * sz))
  | _, _, h, 0 => by simp [Reps]
  | [], _, h, k + 1 => by rw [h]; simp [Reps]
  | x :: l, _, ⟨c, d, e, hx, hr⟩, k + 1 => by
    have := Reps.take hsz hr k
    rw [List.take_succ_cons]
    refine ⟨c, d.take (k * sz), ?_, hx, this⟩
    rw [e, Nat.succ_mul, Nat.add_comm, List.take_append, hsz _ _ hx, List.take_of_length_le (by rw [hsz _ _ hx]; omega), Nat.add_sub_cancel_left]
theorem Reps.all1 (h1 : ∀ x c, R x c → ∀ u ∈ c, u.oneCell' = true) : ∀ {l : List α} {cs : List Value}, Reps R l cs → ∀ u ∈ cs, u.oneCell' = true
  | [], _, h, u, hu => by rw [h] at hu; simp at hu
  | _ :: _, _, ⟨c, d, e, hx, hr⟩, u, hu => by
    rw [e] at hu
    rcases List.mem_append.1 hu with h | h
    · exact h1 _ _ hx u h
    · exact Reps.all1 h1 hr u h
end

/-- An operation's cells. -/
def OpRep (w : World) (G : Nat → Prop) (o : POp) (c : List Value) : Prop := ∃ v, c = [.int .i64 o.kind, .int .i64 o.n, .int .i64 o.m, v] ∧ By w G v o.text
theorem OpRep.len {w : World} {G : Nat → Prop} (o : POp) (c : List Value) (h : OpRep w G o c) : c.length = 4 := by obtain ⟨v, rfl, _⟩ := h; rfl
theorem OpRep.one {w : World} {G : Nat → Prop} (o : POp) (c : List Value) (h : OpRep w G o c) : ∀ u ∈ c, u.oneCell' = true := by
  obtain ⟨v, rfl, hb⟩ := h
  obtain ⟨A, c, rfl, -⟩ := hb.open
  simp [Value.oneCell']
/-- A slice of operations. -/
def OpsR (w : World) (G : Nat → Prop) (v : Value) (l : List POp) : Prop := ∃ xs, Sl w G 4 v l.length xs ∧ Reps (OpRep w G) l xs
theorem OpsR.keep {w w' : World} {G : Nat → Prop} {v : Value} {l : List POp} (h : OpsR w G v l) (k : Keep G w w') : OpsR w' G v l := by
  obtain ⟨xs, h1, h2⟩ := h
  exact ⟨xs, h1.keep k, h2.mono fun x c _ ⟨v, e, hb⟩ => ⟨v, e, hb.keep k⟩⟩
theorem OpsR.mono {w : World} {G H : Nat → Prop} {v : Value} {l : List POp} (h : OpsR w G v l) (hi : ∀ i, i < w.heap.size → G i → H i) : OpsR w H v l := by
  obtain ⟨xs, h1, h2⟩ := h
  exact ⟨xs, h1.mono hi, h2.mono fun x c _ ⟨v, e, hb⟩ => ⟨v, e, hb.mono hi⟩⟩
/-- As the walk wants it: the value's shape, and each element's cells. -/
theorem OpsR.open {w : World} {G : Nat → Prop} {v : Value} {l : List POp} (h : OpsR w G v l) :
    ∃ A c, v = .slice A l.length c ∧ l.length ≤ c ∧ c ≤ maxLen ∧ (A = none → c = 0) ∧ ∀ k (hk : k < l.length), ∃ b off Ax cx, A = some ⟨b, off, none⟩ ∧ G b ∧ By w G (.slice Ax l[k].text.length cx) l[k].text ∧
      w.cell? ⟨b, off + k * 4, none⟩ = some (.int .i64 l[k].kind) ∧ w.cell? ⟨b, off + k * 4 + 1, none⟩ = some (.int .i64 l[k].n) ∧ w.cell? ⟨b, off + k * 4 + 2, none⟩ = some (.int .i64 l[k].m) ∧ w.cell? ⟨b, off + k * 4 + 3, none⟩ = some (.slice Ax l[k].text.length cx) := by
  obtain ⟨xs, ⟨_, A, c, rfl, hl, hn, hc, hA, hx⟩, hr⟩ := h
  refine ⟨A, c, rfl, hn, hc, hA, fun k hk => ?_⟩
  obtain ⟨b, off, rfl, hg, hat⟩ := hx (by omega)
  obtain ⟨c', ⟨v, rfl, hb⟩, hget⟩ := hr.get OpRep.len k hk
  obtain ⟨Ax, cx, rfl, -⟩ := hb.open
  refine ⟨b, off, Ax, cx, rfl, hg, hb, ?_, ?_, ?_, ?_⟩
  · exact hat.get _ _ (hget 0 _ rfl)
  · rw [Nat.add_assoc]; exact hat.get _ _ (hget 1 _ rfl)
  · rw [Nat.add_assoc]; exact hat.get _ _ (hget 2 _ rfl)
  · rw [Nat.add_assoc]; exact hat.get _ _ (hget 3 _ rfl)
end Go.Proofs.YtddmbdigdnmfgaaGreatDoor

namespace Go.Proofs.YtddmbdigdnmfgaaGreatDoor
open Go.RowKit
set_option maxHeartbeats 400000
set_option maxRecDepth 100000

theorem get49 (w : World) (G : Nat → Prop) (o : POp) (A : Option Addr) (c : Nat) (h : By w G (.slice A o.text.length c) o.text) :
    Calls Tryz.prog 49 #[.agg #[.int .i64 o.kind, .int .i64 o.n, .int .i64 o.m, .slice A o.text.length c]] w (RightPost w (!opRight o)) := by
  have H := Fact.mk h
  clear h
  go_enter Tryz.func49, Tryz.ntmps49
  go_wp2_with (go_at_call 33; go_must (refine (right33 _ o A c).mono ?_); rintro e w1 ⟨rfl, hk1⟩; have K1 := Fact.mk hk1; clear hk1)
  go_ret
  exact ⟨rfl, ((Keep.refl All w).alloc _).trans K1.out⟩

def IdxPost (w : World) (l : List POp) (e : Ending) (w' : World) : Prop := (∃ i : Int, e = .returned (.int .i64 i) ∧ -1 ≤ i ∧ i ≤ l.length ∧ (0 ≤ i ↔ ¬ l.all opRight = true)) ∧ Keep All w w'
theorem idx78 (w : World) (G : Nat → Prop) (v : Value) (l : List POp) (h : OpsR w G v l) (hl : Small l.length) :
    Calls Tryz.prog 78 #[v, .func (.func 49) #[] #[]] w (IdxPost w l) := by
  obtain ⟨A, c, rfl, hn, hc, hA, -⟩ := h.open
  have H := Fact.mk h
  have HL := Fact.mk hl
  have hlb := hl.le
  clear h hl
  go_enter Tryz.func78, Tryz.ntmps78
  go_wp2
  go_loopg [8] l.length (fun g x w' => ∃ k : Nat, x = .int .i64 k ∧ k + g = l.length ∧ Keep All w w' ∧ (l.take k).all opRight = true)
  case atStart => exact ⟨0, rfl, by simp, Keep.refl _ _, by simp⟩
  case round =>
    obtain ⟨k, rfl, hkg, hk1, hall⟩ := hrel
    have K1 := Fact.mk hk1
    have HALL := Fact.mk hall
    clear hk1 hall
    by_cases hk : k < l.length
    · obtain ⟨A', c', he, -, -, -, hcells⟩ := (H.out.keep (K1.out.mono fun _ _ => trivial)).open
      injection he with he1 _ he3
      subst he1 he3
      obtain ⟨b, off, Ax, cx, hAe, hg, hb, h0, h1, h2, h3⟩ := hcells k hk
      subst hAe
      have HB := Fact.mk hb
      clear hb hg
      by_cases hop : opRight l[k] = true
      · go_wp2_with (go_at_call 49; go_must (refine (get49 _ _ _ _ _ HB.out).mono ?_); rintro e w1 ⟨rfl, hk2⟩; have K2 := Fact.mk hk2; clear hk2; rw [hop])
        go_roundg (gk - 1)
        case measure => omega
        case rel => exact ⟨k + 1, by simp, by omega, K1.out.trans K2.out, by rw [List.take_succ_eq_append_getElem hk, List.all_append, HALL.out]; simp [hop]⟩
      · have hop' : opRight l[k] = false := by simpa using hop
        go_wp2_with (go_at_call 49; go_must (refine (get49 _ _ _ _ _ HB.out).mono ?_); rintro e w1 ⟨rfl, hk2⟩; have K2 := Fact.mk hk2; clear hk2; rw [hop'])
        go_ret
        exact ⟨⟨k, rfl, by omega, by omega, by simp only [Int.natCast_nonneg, true_iff, List.all_eq_true]; exact fun h => hop (h _ (List.getElem_mem hk))⟩, K1.out.trans K2.out⟩
    · go_wp2
      go_ret
      have hkl : k = l.length := by omega
      have ha := HALL.out
      rw [hkl, List.take_length] at ha
      exact ⟨⟨-1, rfl, by omega, by omega, by simp [ha]⟩, K1.out⟩
def HasBad (w : World) (l : List POp) (e : Ending) (w' : World) : Prop := e = .returned (.bool (!l.all opRight)) ∧ Keep All w w'
theorem has51 (w : World) (G : Nat → Prop) (v : Value) (l : List POp) (h : OpsR w G v l) (hl : Small l.length) :
    Calls Tryz.prog 51 #[v, .func (.func 49) #[] #[]] w (HasBad w l) := by
  obtain ⟨A, c, rfl, hn, hc, hA, -⟩ := h.open
  have H := Fact.mk h
  clear h
  go_enter Tryz.func51, Tryz.ntmps51
  go_wp2_with (go_at_call 78; go_must (refine (idx78 _ _ _ _ H.out hl).mono ?_); rintro e w1 ⟨⟨i, rfl, hi1, hi2, hi⟩, hk⟩; have HI := Fact.mk hi; have K := Fact.mk hk; clear hi hk)
  all_goals (go_ret; refine ⟨?_, K.out⟩; have := HI.out; cases ha : l.all opRight <;> simp_all <;> omega)
end Go.Proofs.YtddmbdigdnmfgaaGreatDoor

/- Trees in general: a plain tree, how it lies in memory, how an argument's cells read. -/
namespace Go.Proofs.YtddmbdigdnmfgaaGreatDoor
open Go.RowKit
set_option maxHeartbeats 400000
set_option maxRecDepth 100000

/-! ### A region that only reads, at callees that leave all blocks as they were -/
/-- A world in which all of w's blocks stand as they stood. -/
structure Kept (w : World) where
  tw : World
  keep : Keep All w tw
instance (w : World) : Inhabited (Kept w) := ⟨⟨w, Keep.refl _ _⟩⟩
/-- A region that draws its order, whose operations only read, and whose callees leave all blocks as they were: walked once, in the order of the text. -/
theorem wp_region_kept {P : Program} {id : Nat} {Q : Exit → Act → World → Prop} {a : Act} {w : World} {l : List Oper} (hm : P.follows .mixedOrders = true) (hB : Region.lexB .any l.toArray = true)
    (h : wpQuiet P l.toArray (fun w' => ∃ p : Kept w, w' = p.tw) (fun a' => ∀ w', (∃ p : Kept w, w' = p.tw) → Q .normal a' w') l a) : (Code.region id l.toArray true).wp P Q a w :=
  wp_region_quiet (C := fun w' => ∃ p : Kept w, w' = p.tw) hm hB ⟨⟨w.drew, (Keep.refl _ _).drew⟩, rfl⟩ (by simpa using h)
theorem kept_call {P : Program} {f : FuncId} {args : Array Value} {w : World} {p : Kept w} {v : Value} (h : Calls P f args p.tw fun e w' => e = .returned v ∧ Keep All p.tw w') : Calls P f args p.tw fun e w'' => e = .returned v ∧ ∃ q : Kept w, w'' = q.tw :=
  h.mono fun _ _ ⟨he, hk⟩ => ⟨he, ⟨_, p.keep.trans hk⟩, rfl⟩
theorem kept_cell {w : World} {a : Addr} {v : Value} (h : w.cell? a = some v) (p : Kept w) : p.tw.cell? a = some v := p.keep.cell trivial h
/-! ### Trees -/
/-- A tree: its kind, its bytes, its kids by their names. -/
inductive PNode where
  | mk (kind : Int) (bytes : List UInt8) (kids : List (ByteArray × PNode)) : PNode
abbrev PKids := List (ByteArray × PNode)
def PNode.kind : PNode → Int | .mk k _ _ => k
def PNode.bytes : PNode → List UInt8 | .mk _ b _ => b
def PNode.kids : PNode → PKids | .mk _ _ l => l
mutual
theorem PNode.ind' {P : PNode → Prop} (h : ∀ k b l, (∀ y ∈ l, P (Prod.snd y)) → P (.mk k b l)) : ∀ x, P x
  | .mk k b l => h k b l (PNode.indK h l)
theorem PNode.indK {P : PNode → Prop} (h : ∀ k b l, (∀ y ∈ l, P (Prod.snd y)) → P (.mk k b l)) : ∀ (l : List (ByteArray × PNode)), ∀ y ∈ l, P (Prod.snd y)
  | [], y, hy => by cases hy
  | (s, x) :: r, y, hy => by
    rcases List.mem_cons.1 hy with rfl | hy
    · exact PNode.ind' h x
    · exact PNode.indK h r y hy
end
mutual
/-- How many nodes there are. -/
def PNode.cnt : PNode → Nat
  | .mk _ _ l => 1 + cntK l
def cntK : List (ByteArray × PNode) → Nat
  | [] => 0
  | (_, x) :: r => x.cnt + cntK r
end
mutual
/-- The tree x lies in memory: vb its bytes, vk its kids; all blocks of G. -/
def RepN (w : World) (G : Nat → Prop) : PNode → Value → Value → Prop
  | .mk _ b l, vb, vk => By w G vb b ∧ ∃ cs, Sl w G 4 vk l.length cs ∧ RepK w G l cs
def RepK (w : World) (G : Nat → Prop) : List (ByteArray × PNode) → List Value → Prop
  | [], cs => cs = []
  | (s, x) :: r, cs => ∃ vb vk d, cs = .string s :: .int .i64 x.kind :: vb :: vk :: d ∧ RepN w G x vb vk ∧ RepK w G r d
end
section
variable {w w' : World} {G H : Nat → Prop}
mutual
theorem RepN.keep (k : Keep G w w') : ∀ {x : PNode} {vb vk : Value}, RepN w G x vb vk → RepN w' G x vb vk
  | .mk _ b l, vb, vk, h => by
    rw [RepN] at *
    obtain ⟨h1, cs, h2, h3⟩ := h
    exact ⟨h1.keep k, cs, h2.keep k, RepK.keep k h3⟩
theorem RepK.keep (k : Keep G w w') : ∀ {l : List (ByteArray × PNode)} {cs : List Value}, RepK w G l cs → RepK w' G l cs
  | [], cs, h => by rw [RepK] at *; exact h
  | (s, x) :: r, cs, h => by
    rw [RepK] at *
    obtain ⟨vb, vk, d, h1, h2, h3⟩ := h
    exact ⟨vb, vk, d, h1, RepN.keep k h2, RepK.keep k h3⟩
end
mutual
theorem RepN.mono (hi : ∀ i, i < w.heap.size → G i → H i) : ∀ {x : PNode} {vb vk : Value}, RepN w G x vb vk → RepN w H x vb vk
  | .mk _ b l, vb, vk, h => by
    rw [RepN] at *
    obtain ⟨h1, cs, h2, h3⟩ := h
    exact ⟨h1.mono hi, cs, h2.mono hi, RepK.mono hi h3⟩
theorem RepK.mono (hi : ∀ i, i < w.heap.size → G i → H i) : ∀ {l : List (ByteArray × PNode)} {cs : List Value}, RepK w G l cs → RepK w H l cs
  | [], cs, h => by rw [RepK] at *; exact h
  | (s, x) :: r, cs, h => by
    rw [RepK] at *
    obtain ⟨vb, vk, d, h1, h2, h3⟩ := h
    exact ⟨vb, vk, d, h1, RepN.mono hi h2, RepK.mono hi h3⟩
end
theorem RepK.len : ∀ {l : List (ByteArray × PNode)} {cs : List Value}, RepK w G l cs → cs.length = l.length * 4
  | [], cs, h => by rw [RepK] at h; subst h; rfl
  | (s, x) :: r, cs, h => by
    rw [RepK] at h
    obtain ⟨vb, vk, d, rfl, -, h3⟩ := h
    have := RepK.len h3
    simp only [List.length_cons]
    omega
/-- The kid at k: its four cells, and how it reads. -/
theorem RepK.get : ∀ {l : List (ByteArray × PNode)} {cs : List Value}, RepK w G l cs → ∀ k (hk : k < l.length), ∃ vb vk, cs[k * 4]? = some (.string l[k].1) ∧ cs[k * 4 + 1]? = some (.int .i64 l[k].2.kind) ∧ cs[k * 4 + 2]? = some vb ∧ cs[k * 4 + 3]? = some vk ∧ RepN w G l[k].2 vb vk
  | [], cs, _, k, hk => absurd hk (by simp)
  | (s, x) :: r, cs, h, 0, _ => by
    rw [RepK] at h
    obtain ⟨vb, vk, d, rfl, h2, -⟩ := h
    exact ⟨vb, vk, rfl, rfl, rfl, rfl, h2⟩
  | (s, x) :: r, cs, h, k + 1, hk => by
    rw [RepK] at h
    obtain ⟨vb, vk, d, rfl, -, h3⟩ := h
    obtain ⟨vb', vk', e0, e1, e2, e3, h4⟩ := RepK.get h3 k (by simpa using hk)
    refine ⟨vb', vk', ?_, ?_, ?_, ?_, h4⟩
    · rw [show (k + 1) * 4 = k * 4 + 4 by omega]; exact e0
    · rw [show (k + 1) * 4 + 1 = k * 4 + 1 + 4 by omega]; exact e1
    · rw [show (k + 1) * 4 + 2 = k * 4 + 2 + 4 by omega]; exact e2
    · rw [show (k + 1) * 4 + 3 = k * 4 + 3 + 4 by omega]; exact e3
theorem RepN.forms {x : PNode} {vb vk : Value} (h : RepN w G x vb vk) : ∃ A c B d, vb = .slice A x.bytes.length c ∧ vk = .slice B x.kids.length d := by
  obtain ⟨k, b, l⟩ := x
  rw [RepN] at h
  obtain ⟨h1, cs, ⟨_, B, d, rfl, _⟩, -⟩ := h
  obtain ⟨A, c, rfl, -⟩ := h1.open
  exact ⟨A, c, B, d, rfl, rfl⟩
/-- The kids' cells, wherever they lie. -/
theorem RepN.open {x : PNode} {A B : Option Addr} {c d n m : Nat} (h : RepN w G x (.slice A n c) (.slice B m d)) :
    n = x.bytes.length ∧ m = x.kids.length ∧ n ≤ c ∧ c ≤ maxLen ∧ m ≤ d ∧ d ≤ maxLen ∧ By w G (.slice A n c) x.bytes ∧
      ∀ k (hk : k < x.kids.length), ∃ g off vb vk, B = some ⟨g, off, none⟩ ∧ G g ∧ w.cell? ⟨g, off + k * 4, none⟩ = some (.string x.kids[k].1) ∧ w.cell? ⟨g, off + k * 4 + 1, none⟩ = some (.int .i64 x.kids[k].2.kind) ∧
        w.cell? ⟨g, off + k * 4 + 2, none⟩ = some vb ∧ w.cell? ⟨g, off + k * 4 + 3, none⟩ = some vk ∧ RepN w G x.kids[k].2 vb vk := by
  obtain ⟨kd, b, l⟩ := x
  rw [RepN] at h
  obtain ⟨h1, cs, ⟨h10, B', d', e, hl, hn, hm, hA, hat⟩, h3⟩ := h
  have h1' := h1
  obtain ⟨A', c', e', hc1, hc2, -⟩ := h1'.open
  simp only [Value.slice.injEq] at e e'
  obtain ⟨rfl, rfl, rfl⟩ := e
  obtain ⟨rfl, rfl, rfl⟩ := e'
  refine ⟨rfl, rfl, hc1, hc2, hn, hm, h1, fun k hk => ?_⟩
  have hk' : k < l.length := hk
  obtain ⟨g, off, rfl, hg, ha⟩ := hat (by have : cs.length = l.length * 4 := h3.len; omega)
  obtain ⟨vb, vk, e0, e1, e2, e3, h4⟩ := h3.get k hk'
  have i0 := ha.get _ _ e0
  have i1 := ha.get _ _ e1
  have i2 := ha.get _ _ e2
  have i3 := ha.get _ _ e3
  simp only [← Nat.add_assoc] at i0 i1 i2 i3
  exact ⟨g, off, vb, vk, rfl, hg, i0, i1, i2, i3, h4⟩
end
end Go.Proofs.YtddmbdigdnmfgaaGreatDoor

namespace Go.Proofs.YtddmbdigdnmfgaaGreatDoor
open Go.RowKit
set_option maxHeartbeats 400000
set_option maxRecDepth 100000

/-- An operation's bytes. -/
def opBytes (o : POp) : List UInt8 :=
  numBytes o.kind.toNat ++ (if hasText o.kind = true then numBytes o.text.length ++ o.text else []) ++ numsBytes ([o.n.toNat, o.m.toNat].take (numbersOf o.kind))
def opsBytes (l : List POp) : List UInt8 := l.flatMap opBytes
inductive Bytes? where
  | ok (b : List UInt8)
  | bad (e : Int)
def putOps (l : List POp) : Bytes? := if l.all opRight = true then (if (opsBytes l).length > 1000 then .bad 3 else .ok (opsBytes l)) else .bad 2
/-- How much room operations take. -/
def opsSize (l : List POp) : Nat := (l.map fun o => o.text.length + 32).sum

theorem done38o (w : World) (b : Nat) (v : Value) (l : List UInt8) (h : Mk w b v l false) (hl : Small l.length) :
    Calls Tryz.prog 38 #[.pointer (some ⟨b, 0, none⟩)] w fun e w' => ∃ A c, e = .returned (.tuple #[.slice A l.length c, .int .i64 0]) ∧ w'.ownsRow w.heap.size 5 1 (.slice A l.length c) l.length (l.map u8v) ∧ Keep All w w' := by
  obtain ⟨A, c, rfl⟩ := h.form
  have g0 := h.1.cell 0 _ rfl
  have g1 := h.1.cell 1 _ rfl
  have HB := Fact.mk (By.of_own h.2)
  clear h
  go_enter Tryz.func38, Tryz.ntmps38
  go_wp2_with (go_at_call 72; go_must (refine (clone72o _ _ _ _ HB.out hl).mono ?_); rintro e w1 ⟨A1, c1, rfl, h1, hk1⟩)
  go_ret2
  exact ⟨A1, c1, rfl, h1, hk1⟩

theorem Cur.lt {w : World} {b : Nat} {rest : List UInt8} {wrong : Int} (h : Cur w b rest wrong) : b < w.heap.size := by obtain ⟨v, h1, _⟩ := h; exact h1.lt
theorem numbersOf_le (k : Int) : numbersOf k = 0 ∨ numbersOf k = 1 ∨ numbersOf k = 2 := by unfold numbersOf; split <;> (try split) <;> simp
theorem kind_nat {o : POp} (h : OpRight o) : ∃ k : Nat, o.kind = k ∧ k ≤ 20 := ⟨o.kind.toNat, by have := h.1; omega, by have := h.1; have := h.2.1; omega⟩

def PutPost (w : World) (l : List POp) (e : Ending) (w' : World) : Prop :=
  (match putOps l with
   | .ok b => ∃ A c, e = .returned (.tuple #[.slice A b.length c, .int .i64 0]) ∧ By w' (fun i => w.heap.size ≤ i) (.slice A b.length c) b
   | .bad x => e = .returned (.tuple #[.slice none 0 0, .int .i64 x])) ∧ Keep All w w'

/-- .. and owns what it hands out. -/
def PutPostO (w : World) (l : List POp) (e : Ending) (w' : World) : Prop :=
  (match putOps l with
   | .ok b => ∃ A c, e = .returned (.tuple #[.slice A b.length c, .int .i64 0]) ∧ w'.ownsRow w.heap.size 5 1 (.slice A b.length c) b.length (b.map u8v)
   | .bad x => e = .returned (.tuple #[.slice none 0 0, .int .i64 x])) ∧ Keep All w w'
theorem PutPostO.plain {w w' : World} {l : List POp} {e : Ending} (h : PutPostO w l e w') : PutPost w l e w' := by
  obtain ⟨h1, h2⟩ := h
  refine ⟨?_, h2⟩
  cases hp : putOps l with
  | ok b =>
    rw [hp] at h1
    obtain ⟨A, c, rfl, h3⟩ := h1
    exact ⟨A, c, rfl, By.of_own h3⟩
  | bad x => rw [hp] at h1; exact h1

theorem opBytes_len {o : POp} (h : OpRight o) : (opBytes o).length ≤ o.text.length + 30 := by
  have hk : Six o.kind.toNat := by have := h.2.1; show o.kind.toNat < _; omega
  have h1 := numLen_six hk
  have h2 := numLen_six (show Six o.text.length by have := h.2.2.2.1; show o.text.length < _; omega)
  have h3 := numsBytes_len ([o.n.toNat, o.m.toNat].take (numbersOf o.kind)) (fun x hx => by
    have hx := List.mem_of_mem_take hx
    have a1 := h.2.2.2.2.2.2.1
    have a2 := h.2.2.2.2.2.2.2.1
    simp only [List.mem_cons, List.not_mem_nil, or_false] at hx
    omega)
  have h4 := List.length_take_le (numbersOf o.kind) [o.n.toNat, o.m.toNat]
  have h5 : ([o.n.toNat, o.m.toNat].take (numbersOf o.kind)).length ≤ 2 := by rw [List.length_take]; simp; omega
  unfold opBytes
  simp only [List.length_append, numBytes_len]
  split
  · simp only [List.length_append, numBytes_len]; omega
  · simp only [List.length_nil]; omega
theorem opsBytes_len {l : List POp} (h : l.all opRight = true) : (opsBytes l).length ≤ opsSize l := by
  induction l with
  | nil => simp [opsBytes, opsSize]
  | cons o l ih =>
    simp only [List.all_cons, Bool.and_eq_true] at h
    have h1 := opBytes_len (by simpa [opRight] using h.1 : OpRight o)
    have h2 := ih h.2
    simp only [opsBytes, opsSize, List.flatMap_cons, List.length_append, List.map_cons, List.sum_cons] at *
    omega
theorem opsSize_take {l : List POp} {k : Nat} (hk : k < l.length) : opsSize (l.take k) + (l[k].text.length + 32) ≤ opsSize l := by
  have : l = l.take k ++ (l[k] :: l.drop (k + 1)) := by rw [← List.drop_eq_getElem_cons hk, List.take_append_drop]
  have h2 : opsSize l = opsSize (l.take k) + ((l[k].text.length + 32) + opsSize (l.drop (k + 1))) := by
    conv => lhs; rw [this]
    simp only [opsSize, List.map_append, List.sum_append, List.map_cons, List.sum_cons]
  omega
/-- What stands ahead of an operation's numbers. -/
def textPart (l : List UInt8) (k : Nat) (ht : Bool) (t : List UInt8) : List UInt8 := if ht = true then l ++ numsBytes [k] ++ (numBytes t.length ++ t) else l ++ numsBytes [k]
theorem textPart_true (l : List UInt8) (k : Nat) (t : List UInt8) : textPart l k true t = l ++ numsBytes [k] ++ (numBytes t.length ++ t) := by unfold textPart; rw [if_pos rfl]
theorem textPart_false (l : List UInt8) (k : Nat) (t : List UInt8) : textPart l k false t = l ++ numsBytes [k] := by unfold textPart; rw [if_neg (by simp)]
theorem opsBytes_snoc (l : List POp) (k n m : Nat) (t : List UInt8) :
    opsBytes (l ++ [⟨k, n, m, t⟩]) = textPart (opsBytes l) k (hasText k) t ++ numsBytes ([n, m].take (numbersOf k)) := by
  simp only [opsBytes, List.flatMap_append, List.flatMap_cons, List.flatMap_nil, List.append_nil, opBytes, textPart, numsBytes, Int.toNat_natCast]
  split <;> simp
theorem Mk.mine_old {w : World} {b i : Nat} {v : Value} {l : List UInt8} {bad : Bool} (h : Mk w b v l bad) (hi : i < b) : Mine b v i :=
  ⟨by omega, fun e => by have := (h.2.lt i e).1; omega⟩
/-- Amid a round of Put: the maker, the operation's own variable, its text. -/
structure InPut (w wx : World) (v : Value) (bt : Nat) (l : List UInt8) (cs : List Value) (x : Value) (t : List UInt8) : Prop where
  maker : Mk wx w.heap.size v l false
  keep : Keep All w wx
  blk : Blk wx bt cs 25
  mine : Mine w.heap.size v bt
  txt : By wx (fun i => i < w.heap.size) x t
theorem InPut.next {w wx w2 : World} {v x : Value} {bt : Nat} {l l2 t : List UInt8} {cs : List Value} (h : InPut w wx v bt l cs x t) (hm : Made wx w.heap.size v l2 false w2) : ∃ v2, InPut w w2 v2 bt l2 cs x t := by
  obtain ⟨v2, h1, h2, h3⟩ := hm
  have hold : ∀ i, i < w.heap.size → Mine w.heap.size v i := fun i hi => h.maker.mine_old hi
  refine ⟨v2, h1, h.keep.then_ h2 fun i hi _ => hold i hi, h.blk.keep h2 h.mine, h.mine.moved h3 h.blk.lt, (h.txt.keep (h2.mono hold))⟩
theorem InPut.alloc {w wx : World} {v x : Value} {bt : Nat} {l t : List UInt8} {cs : List Value} (h : InPut w wx v bt l cs x t) (o : Obj) : InPut w (wx.alloc o) v bt l cs x t :=
  ⟨h.maker.alloc o, h.keep.alloc o, h.blk.alloc o, h.mine, h.txt.keep ((Keep.refl _ _).alloc o)⟩
theorem InPut.drew {w wx : World} {v x : Value} {bt : Nat} {l t : List UInt8} {cs : List Value} (h : InPut w wx v bt l cs x t) : InPut w wx.drew v bt l cs x t :=
  ⟨⟨h.maker.1.drew, h.maker.2.drew⟩, h.keep.drew, h.blk.drew, h.mine, h.txt.keep (Keep.refl _ _).drew⟩
theorem InPut.all {w wx w2 : World} {v x : Value} {bt : Nat} {l t : List UInt8} {cs : List Value} (h : InPut w wx v bt l cs x t) (k : Keep All wx w2) : InPut w w2 v bt l cs x t :=
  ⟨⟨h.maker.1.keep k trivial, h.maker.2.kept k.grownBy (by cases v.ownBlock <;> simp)⟩, h.keep.trans k, h.blk.keep k trivial, h.mine, h.txt.keep k.all⟩

theorem put10o (w : World) (G : Nat → Prop) (v : Value) (l : List POp) (h : OpsR w G v l) (hs : Small (opsSize l + 64)) (hlen : l.length ≤ 1048576) :
    Calls Tryz.prog 10 #[v] w (PutPostO w l) := by
  obtain ⟨A, c, rfl, -, -, -, hat⟩ := h.open
  have H := Fact.mk h
  have HAT := Fact.mk hat
  clear h hat
  go_enter Tryz.func10, Tryz.ntmps10
  go_wp2
  go_loopg [13] l.length (fun g i w' => ∃ k : Nat, k + g = l.length ∧ i = .int .i64 k ∧ (l.take k).all opRight = true ∧ ∃ v1, Mk w' w.heap.size v1 (opsBytes (l.take k)) false ∧ Keep All w w')
  case atStart =>
    refine ⟨0, by omega, rfl, by simp, .slice none 0 0, ⟨Blk.new w [_, _] 77, ?_⟩, (Keep.refl _ _).alloc _⟩
    exact World.ownsRow_nil _ _ _ _
  case round =>
    obtain ⟨k, hkg, rfl, hall, v1, hmk, hkp⟩ := hrel
    have HK := Fact.mk hkg
    have HM := Fact.mk hmk
    have HP := Fact.mk hkp
    have HA := Fact.mk hall
    clear hkg hmk hkp hall
    by_cases hk : k < l.length
    · obtain ⟨b1, off, Ax, cx, rfl, hb1, hbt, c0, c1, c2, c3⟩ := HAT.out k hk
      have htake : l.take (k + 1) = l.take k ++ [l[k]] := List.take_succ_eq_append_getElem hk
      obtain ⟨o, ho⟩ : ∃ o, o = l[k] := ⟨_, rfl⟩
      rw [← ho] at hbt c0 c1 c2 c3 htake
      have d0 := HP.out.cell trivial c0
      have d1 := HP.out.cell trivial c1
      have d2 := HP.out.cell trivial c2
      have d3 := HP.out.cell trivial c3
      have hb1w : b1 < w.heap.size := World.block_lt_of_cell? w _ c0
      have HO := Fact.mk ho
      have HTK := Fact.mk htake
      have hsz : (opsBytes (l.take k)).length + o.text.length + 64 ≤ opsSize l + 64 := by
        have h1 := opsBytes_len HA.out
        have h2 := opsSize_take hk
        rw [← ho] at h2
        omega
      have HSZ := Fact.mk (hs.mono hsz)
      have I0 : Fact (InPut w (wr.alloc (.cells #[.int .i64 o.kind, .int .i64 o.n, .int .i64 o.m, .slice Ax o.text.length cx] 25)) v1 wr.heap.size (opsBytes (l.take k)) [.int .i64 o.kind, .int .i64 o.n, .int .i64 o.m, .slice Ax o.text.length cx] (.slice Ax o.text.length cx) o.text) :=
        ⟨⟨HM.out.alloc _, HP.out.alloc _, Blk.new _ _ _, HM.out.mine_new (Nat.le_refl _), ((hbt.mono fun i hi _ => hi).keep HP.out.all).keep ((Keep.refl _ _).alloc _)⟩⟩
      clear hbt c0 c1 c2 c3 ho htake hsz
      by_cases hr : opRight o = true
      · have HR := Fact.mk hr
        obtain ⟨kd, n, m, t⟩ := o
        have hright : OpRight ⟨kd, n, m, t⟩ := by simpa [opRight] using hr
        obtain ⟨kn, rfl⟩ := Int.eq_ofNat_of_zero_le (show 0 ≤ kd from Int.le_trans (by decide) (show 1 ≤ kd from hright.1))
        obtain ⟨nn, rfl⟩ := Int.eq_ofNat_of_zero_le (show 0 ≤ n by exact hright.2.2.2.2.1)
        obtain ⟨mn, rfl⟩ := Int.eq_ofNat_of_zero_le (show 0 ≤ m by exact hright.2.2.2.2.2.1)
        have hkn : kn ≤ 20 := by have : (kn : Int) ≤ 20 := hright.2.1; omega
        have HN := Fact.mk (show nn ≤ 4096 ∧ mn ≤ 4096 by have := hright.2.2.2.2.2.2; simp only at this; omega)
        have HKN : Fact (∀ n ∈ [kn], n ≤ 1099511627776) := ⟨by simp; omega⟩
        have HS1 : Fact (Small ((opsBytes (l.take k)).length + 8 * [kn].length + 8)) := ⟨HSZ.out.mono (by simp; omega)⟩
        have HS2 : Fact (Small ((opsBytes (l.take k) ++ numsBytes [kn]).length + t.length + 16)) := ⟨HSZ.out.mono (by
          have := numsBytes_len [kn] HKN.out
          show _ ≤ (opsBytes (l.take k)).length + t.length + 64
          rw [List.length_append]
          simp only [List.length_cons, List.length_nil] at this
          omega)⟩
        clear hr hright
        have T34 : ∀ (w' : World), InPut w w' v1 wr.heap.size (opsBytes (l.take k)) [.int .i64 kn, .int .i64 nn, .int .i64 mn, .slice Ax t.length cx] (.slice Ax t.length cx) t →
            Sl (w'.alloc (.cells #[numV kn] 3)) (Mine w.heap.size v1) 1 (.slice (some ⟨w'.heap.size, 0, none⟩) 1 1) 1 [numV kn] :=
          fun w' h => (Sl.new w' 3 1 1 [numV kn] rfl (by decide) (by simp [numV, Value.oneCell'])).mono fun i _ hi => h.maker.mine_new hi
        have HT34 := Fact.mk T34
        clear T34
        obtain ⟨ht, hht⟩ : ∃ b, b = hasText (kn : Int) := ⟨_, rfl⟩
        have HHT := Fact.mk hht
        clear hht
        go_upto_if 27 with (first
          | (go_at_call 33; go_must (refine (right33 _ ⟨kn, nn, mn, t⟩ _ _).mono ?_); rintro e w1 ⟨rfl, hk1⟩; rw [HR.out]; have I1 := Fact.mk (I0.out.all hk1); clear hk1; have t0 := I1.out.blk.cell 0 _ rfl)
          | (go_at_call 34; go_must (refine (num34 _ _ _ _ [kn] _ _ (I1.out.alloc _).maker HKN.out (HT34.out _ I1.out) HS1.out).mono ?_); rintro e w2 ⟨rfl, hm2⟩; obtain ⟨v2, i2⟩ := (I1.out.alloc _).next hm2; have I2 := Fact.mk i2; clear hm2 i2; have r0 := I2.out.blk.cell 0 _ rfl; have r3 := I2.out.blk.cell 3 _ rfl)
          | (go_at_call 35; go_must (refine (text35 _ _ hkn).mono ?_); rintro e w' ⟨rfl, rfl⟩; rw [← HHT.out]))
        go_cut [] (fun w' => ∃ v', InPut w w' v' wr.heap.size (textPart (opsBytes (l.take k)) kn ht t) [.int .i64 kn, .int .i64 nn, .int .i64 mn, .slice Ax t.length cx] (.slice Ax t.length cx) t)
        case first =>
          go_wp2_with (go_at_call 36; go_must (refine (mtext36 _ _ _ _ t _ _ _ (I2.out.alloc _).maker ((Sl.new w2 23 1 1 [_] rfl (by decide) (by simp [Value.oneCell'])).mono fun i _ hi => I2.out.maker.mine_new hi) ((I2.out.alloc _).txt.mono fun i _ hi => I2.out.maker.mine_old hi) HS2.out).mono ?_); rintro e w3 ⟨rfl, hm3⟩; obtain ⟨v3, i3⟩ := (I2.out.alloc _).next hm3; have I3 := Fact.mk i3; clear hm3 i3)
          · go_meet
            case rel => exact ⟨v3, by rename_i hh; rw [hh, textPart_true]; exact I3.out⟩
          · go_meet
            case rel => exact ⟨v2, by rename_i hh; rw [hh, textPart_false]; exact I2.out⟩
        case rest =>
          obtain ⟨v3, i3⟩ := hcut
          have I3 := Fact.mk i3
          have s0 := i3.blk.cell 0 _ rfl
          have s1 := i3.blk.cell 1 _ rfl
          have s2 := i3.blk.cell 2 _ rfl
          obtain ⟨q, hq⟩ : ∃ q, q = numbersOf (kn : Int) := ⟨_, rfl⟩
          have HQ := Fact.mk hq
          have hq3 := numbersOf_le (kn : Int)
          rw [← hq] at hq3
          have HEQ : Fact (opsBytes (l.take (k + 1)) = textPart (opsBytes (l.take k)) kn ht t ++ numsBytes ([nn, mn].take q)) := ⟨by
            rw [HTK.out, HHT.out, hq]; exact opsBytes_snoc _ _ _ _ _⟩
          have hlenT : (textPart (opsBytes (l.take k)) kn ht t).length + 32 ≤ (opsBytes (l.take k)).length + t.length + 64 := by
            have h1 := numsBytes_len [kn] HKN.out
            have h2 := numLen_six (show Six t.length by have : (opsBytes (l.take k)).length + t.length + 64 ≤ 1048576 := HSZ.out.le; show t.length < _; omega)
            unfold textPart
            split <;> simp only [List.length_append, numBytes_len, List.length_cons, List.length_nil] at * <;> omega
          have HSM : Fact (Small ((textPart (opsBytes (l.take k)) kn ht t).length + 32)) := ⟨HSZ.out.mono hlenT⟩
          have HNN : Fact (∀ n ∈ [nn, mn].take q, n ≤ 1099511627776) := ⟨fun n hn => by
            have := List.mem_of_mem_take hn
            have := HN.out
            simp only [List.mem_cons, List.not_mem_nil, or_false] at *
            omega⟩
          clear hq i3 hlenT
          rcases hq3 with rfl | rfl | rfl
          · go_wp2_with fail
            go_region_held3 (fun w' => w'.cell? ⟨wr.heap.size, 0, none⟩ = some (.int .i64 kn) ∧ w'.cell? ⟨wr.heap.size, 1, none⟩ = some (.int .i64 nn) ∧ w'.cell? ⟨wr.heap.size, 2, none⟩ = some (.int .i64 mn)) (go_keep)
              (first
                | (go_at_call 37; go_must (refine (numbers37 _ _).mono ?_); rintro e w' ⟨rfl, rfl⟩; rw [← HQ.out])
                | (go_at_call 34; refine (num34 _ _ _ _ ([nn, mn].take 0) _ _ (I3.out.alloc _).drew.maker HNN.out (((Sl.new wc 3 1 2 [numV nn, numV mn] rfl (by decide) (by simp [numV, Value.oneCell'])).take (k := 0) (by decide)).mono fun i _ hi => I3.out.maker.mine_new hi) (HSM.out.mono (by simp))).mono ?_; rintro e w4 ⟨rfl, hm4⟩; obtain ⟨v4, i4⟩ := (I3.out.alloc _).drew.next hm4; have I4 := Fact.mk i4; clear hm4 i4; have y0 := I4.out.blk.cell 0 _ rfl; have y1 := I4.out.blk.cell 1 _ rfl; have y2 := I4.out.blk.cell 2 _ rfl))
            all_goals
              go_wp2
              go_roundg (gk - 1)
              case measure => have := HK.out; omega
              case rel => exact ⟨k + 1, by have := HK.out; omega, by go_num, by rw [HTK.out]; simp [HA.out, HR.out], v4, by rw [HEQ.out]; exact I4.out.maker, I4.out.keep⟩
          · go_wp2_with fail
            go_region_held3 (fun w' => w'.cell? ⟨wr.heap.size, 0, none⟩ = some (.int .i64 kn) ∧ w'.cell? ⟨wr.heap.size, 1, none⟩ = some (.int .i64 nn) ∧ w'.cell? ⟨wr.heap.size, 2, none⟩ = some (.int .i64 mn)) (go_keep)
              (first
                | (go_at_call 37; go_must (refine (numbers37 _ _).mono ?_); rintro e w' ⟨rfl, rfl⟩; rw [← HQ.out])
                | (go_at_call 34; refine (num34 _ _ _ _ ([nn, mn].take 1) _ _ (I3.out.alloc _).drew.maker HNN.out (((Sl.new wc 3 1 2 [numV nn, numV mn] rfl (by decide) (by simp [numV, Value.oneCell'])).take (k := 1) (by decide)).mono fun i _ hi => I3.out.maker.mine_new hi) (HSM.out.mono (by simp))).mono ?_; rintro e w4 ⟨rfl, hm4⟩; obtain ⟨v4, i4⟩ := (I3.out.alloc _).drew.next hm4; have I4 := Fact.mk i4; clear hm4 i4; have y0 := I4.out.blk.cell 0 _ rfl; have y1 := I4.out.blk.cell 1 _ rfl; have y2 := I4.out.blk.cell 2 _ rfl))
            all_goals
              go_wp2
              go_roundg (gk - 1)
              case measure => have := HK.out; omega
              case rel => exact ⟨k + 1, by have := HK.out; omega, by go_num, by rw [HTK.out]; simp [HA.out, HR.out], v4, by rw [HEQ.out]; exact I4.out.maker, I4.out.keep⟩
          · go_wp2_with fail
            go_region_held3 (fun w' => w'.cell? ⟨wr.heap.size, 0, none⟩ = some (.int .i64 kn) ∧ w'.cell? ⟨wr.heap.size, 1, none⟩ = some (.int .i64 nn) ∧ w'.cell? ⟨wr.heap.size, 2, none⟩ = some (.int .i64 mn)) (go_keep)
              (first
                | (go_at_call 37; go_must (refine (numbers37 _ _).mono ?_); rintro e w' ⟨rfl, rfl⟩; rw [← HQ.out])
                | (go_at_call 34; refine (num34 _ _ _ _ ([nn, mn].take 2) _ _ (I3.out.alloc _).drew.maker HNN.out (((Sl.new wc 3 1 2 [numV nn, numV mn] rfl (by decide) (by simp [numV, Value.oneCell'])).take (k := 2) (by decide)).mono fun i _ hi => I3.out.maker.mine_new hi) (HSM.out.mono (by simp))).mono ?_; rintro e w4 ⟨rfl, hm4⟩; obtain ⟨v4, i4⟩ := (I3.out.alloc _).drew.next hm4; have I4 := Fact.mk i4; clear hm4 i4; have y0 := I4.out.blk.cell 0 _ rfl; have y1 := I4.out.blk.cell 1 _ rfl; have y2 := I4.out.blk.cell 2 _ rfl))
            all_goals
              go_wp2
              go_roundg (gk - 1)
              case measure => have := HK.out; omega
              case rel => exact ⟨k + 1, by have := HK.out; omega, by go_num, by rw [HTK.out]; simp [HA.out, HR.out], v4, by rw [HEQ.out]; exact I4.out.maker, I4.out.keep⟩
      · have hr' : opRight o = false := by simpa using hr
        have HR := Fact.mk hr'
        clear hr hr'
        have HPO : Fact (putOps l = .bad 2) := ⟨by
          unfold putOps
          rw [if_neg]
          intro hall
          have := List.all_eq_true.1 hall l[k] (List.getElem_mem hk)
          rw [← HO.out, HR.out] at this
          cases this⟩
        go_wp2_with (go_at_call 33; go_must (refine (right33 _ o _ _).mono ?_); rintro e w1 ⟨rfl, hk1⟩; rw [HR.out]; have HK1 := Fact.mk hk1; clear hk1)
        go_ret2
        exact ⟨by rw [HPO.out]; rfl, (HP.out.alloc _).trans HK1.out⟩
    · have hkl : k = l.length := by have := HK.out; omega
      subst hkl
      have HALL : Fact (l.all opRight = true) := ⟨by have := HA.out; rwa [List.take_length] at this⟩
      have HM' : Fact (Mk wr w.heap.size v1 (opsBytes l) false) := ⟨by have := HM.out; rwa [List.take_length] at this⟩
      have HSM : Small (opsBytes l).length := hs.mono (by have := opsBytes_len HALL.out; omega)
      by_cases hlong : (opsBytes l).length > 1000
      · have HPO : Fact (putOps l = .bad 3) := ⟨by unfold putOps; rw [if_pos HALL.out, if_pos hlong]⟩
        go_wp2_with (go_at_call 38; go_must (refine (done38o _ _ _ _ HM'.out HSM).mono ?_); rintro e w1 ⟨A1, c1, rfl, h1, hk1⟩)
        go_ret2
        exact ⟨by rw [HPO.out]; rfl, HP.out.trans hk1⟩
      · have HPO : Fact (putOps l = .ok (opsBytes l)) := ⟨by unfold putOps; rw [if_pos HALL.out, if_neg hlong]⟩
        go_wp2_with (go_at_call 38; go_must (refine (done38o _ _ _ _ HM'.out HSM).mono ?_); rintro e w1 ⟨A1, c1, rfl, h1, hk1⟩)
        go_ret2
        exact ⟨by rw [HPO.out]; exact ⟨A1, c1, rfl, own_base h1 HP.out.size⟩, HP.out.trans hk1⟩
theorem put10 (w : World) (G : Nat → Prop) (v : Value) (l : List POp) (h : OpsR w G v l) (hs : Small (opsSize l + 64)) (hlen : l.length ≤ 1048576) : Calls Tryz.prog 10 #[v] w (PutPost w l) := (put10o w G v l h hs hlen).mono fun _ _ h => h.plain
end Go.Proofs.YtddmbdigdnmfgaaGreatDoor
