/- Operations' bytes and bytes' operations: each is the other turned round. Plain lists, no program. -/
import Derived.Test.YtddmbdigdnmfgaaGreatDoorGet
namespace Go.Proofs.YtddmbdigdnmfgaaGreatDoor
open Go.RowKit
set_option maxRecDepth 100000

theorem pow7 (k : Nat) : 2 ^ (7 * (k + 1)) = 128 * 2 ^ (7 * k) := by
  rw [show 7 * (k + 1) = 7 * k + 7 from by omega, Nat.pow_add, Nat.mul_comm]
theorem numScan_bytes (n : Nat) : ∀ (k acc : Nat) (r : List UInt8), k + numLen n ≤ 6 → numScan k acc (numBytes n ++ r) = (acc + n * 2 ^ (7 * k), k + numLen n) := by
  induction n using Nat.strongRecOn with
  | ind n ih =>
    intro k acc r hk
    by_cases h : n < 128
    · have hl : numLen n = 1 := by rw [numLen, if_pos h]
      rw [numBytes_small h]
      have hx : (UInt8.ofNat n).toNat = n := by rw [UInt8.toNat_ofNat']; exact Nat.mod_eq_of_lt (by omega)
      rw [List.cons_append, numScan_last (by omega) (by omega), hx, hl]
    · have hl := numLen_big h
      rw [numBytes_big h]
      have hx : (UInt8.ofNat (n % 128 + 128)).toNat = n % 128 + 128 := by rw [UInt8.toNat_ofNat']; exact Nat.mod_eq_of_lt (by omega)
      rw [List.cons_append, numScan_more (by omega) (by omega), ih (n / 128) (by omega) (k + 1) _ r (by omega), hx, hl]
      refine Prod.ext ?_ (by show _ = _; omega)
      show acc + (n % 128 + 128) % 128 * 2 ^ (7 * k) + n / 128 * 2 ^ (7 * (k + 1)) = acc + n * 2 ^ (7 * k)
      rw [pow7, Nat.add_mod_right, Nat.mod_mod, Nat.add_assoc, ← Nat.mul_assoc, ← Nat.add_mul]
      congr 2
      omega
theorem numScan_back : ∀ (rest : List UInt8) (k acc : Nat), (numScan k acc rest).2 ≠ 0 → k < (numScan k acc rest).2 ∧ ∃ n, (numScan k acc rest).1 = acc + n * 2 ^ (7 * k) ∧ numLen n ≤ (numScan k acc rest).2 - k ∧
    ((numScan k acc rest).2 - k = numLen n → rest = numBytes n ++ rest.drop ((numScan k acc rest).2 - k))
  | [], k, acc, h => absurd rfl h
  | x :: r, k, acc, h => by
    by_cases h6 : k = 6
    · subst h6
      rw [numScan_six] at h
      exact absurd rfl h
    by_cases hx : x.toNat < 128
    · rw [numScan_last h6 hx]
      have hl : numLen x.toNat = 1 := by rw [numLen, if_pos hx]
      refine ⟨by show k < k + 1; omega, x.toNat, rfl, by rw [hl]; show 1 ≤ k + 1 - k; omega, fun _ => ?_⟩
      show _ = _ ++ (x :: r).drop (k + 1 - k)
      rw [show k + 1 - k = 1 from by omega, numBytes_small hx]
      simp
    · rw [numScan_more h6 hx] at h ⊢
      obtain ⟨h1, n, h2, h3, h4⟩ := numScan_back r (k + 1) (acc + (x.toNat % 128) * 2 ^ (7 * k)) h
      generalize numScan (k + 1) (acc + (x.toNat % 128) * 2 ^ (7 * k)) r = q at *
      have hxl := x.toNat_lt
      refine ⟨by omega, x.toNat % 128 + 128 * n, ?_, ?_, ?_⟩
      · rw [h2, pow7, Nat.add_mul, Nat.add_assoc, ← Nat.mul_assoc, Nat.mul_comm n 128]
      · by_cases hn : n = 0
        · subst hn
          have : numLen (x.toNat % 128 + 128 * 0) = 1 := by rw [numLen, if_pos (by omega)]
          omega
        · have e : (x.toNat % 128 + 128 * n) / 128 = n := by omega
          rw [numLen_big (by omega), e]
          omega
      · intro he
        by_cases hn : n = 0
        · subst hn
          have : numLen (x.toNat % 128 + 128 * 0) = 1 := by rw [numLen, if_pos (by omega)]
          omega
        · have e : (x.toNat % 128 + 128 * n) / 128 = n := by omega
          rw [numLen_big (by omega), e] at he
          rw [numBytes_big (by omega), e]
          have hr := h4 (by omega)
          have ex : UInt8.ofNat ((x.toNat % 128 + 128 * n) % 128 + 128) = x := by
            rw [show (x.toNat % 128 + 128 * n) % 128 + 128 = x.toNat from by omega]
            exact UInt8.ofNat_toNat
          rw [ex, List.cons_append, show q.2 - k = (q.2 - (k + 1)) + 1 from by omega, List.drop_succ_cons, ← hr]

theorem numRes_bytes {n : Nat} {most : Int} (r : List UInt8) (wrong : Int) (h6 : Six n) (hn : n ≤ 1099511627776) (hm : (n : Int) ≤ most) : numRes (numBytes n ++ r) wrong most = (n, r, wrong) := by
  have h := numScan_bytes n 0 0 r (by have := numLen_six h6; omega)
  have hp := numLen_pos n
  simp only [Nat.zero_add, Nat.mul_zero, Nat.pow_zero, Nat.mul_one] at h
  unfold numRes
  rw [h, if_pos ((numGood_iff _ _).2 ⟨by show ¬ numLen n = 0; omega, rfl, hn, by omega, hm⟩)]
  show (n, (numBytes n ++ r).drop (numLen n), wrong) = _
  rw [List.drop_left' (numBytes_len n)]
theorem numRes_back {rest : List UInt8} {most : Int} (hg : numGood (numScan 0 0 rest) most = true) : rest = numBytes (numScan 0 0 rest).1 ++ rest.drop (numScan 0 0 rest).2 := by
  obtain ⟨h0, hl, -⟩ := (numGood_iff _ _).1 hg
  obtain ⟨-, n, h1, h2, h3⟩ := numScan_back rest 0 0 h0
  simp only [Nat.zero_add, Nat.mul_zero, Nat.pow_zero, Nat.mul_one, Nat.sub_zero] at h1 h2 h3
  have hn : (numScan 0 0 rest).1 = n := h1
  rw [hn] at hl ⊢
  exact h3 hl
theorem broken_ne (wrong : Int) : broken wrong 4 ≠ 0 := by unfold broken; split <;> omega
/-- Where no error came, the number's bytes stood there. -/
theorem numRes_fine {rest : List UInt8} {wrong most : Int} (h : (numRes rest wrong most).2.2 = 0) : wrong = 0 ∧ rest = numBytes (numRes rest wrong most).1 ++ (numRes rest wrong most).2.1 := by
  unfold numRes at *
  split at h
  · rename_i hg
    rw [if_pos hg]
    exact ⟨h, numRes_back hg⟩
  · exact absurd h (broken_ne _)
theorem textRes_bytes {t : List UInt8} (r : List UInt8) (ht : t.length ≤ 1000) : textRes (numBytes t.length ++ t ++ r) 1000 = (t, r, 0) := by
  have h6 : Six t.length := by show t.length < _; omega
  have h := numScan_bytes t.length 0 0 (t ++ r) (by have := numLen_six h6; omega)
  have hp := numLen_pos t.length
  simp only [Nat.zero_add, Nat.mul_zero, Nat.pow_zero, Nat.mul_one] at h
  have hd : (numBytes t.length ++ (t ++ r)).drop (numLen t.length) = t ++ r := List.drop_left' (numBytes_len _)
  have hg : textGet (numBytes t.length ++ t ++ r) 1000 = .ok t r := by
    rw [List.append_assoc]
    unfold textGet
    simp only [h]
    rw [if_pos ((numGood_iff _ _).2 ⟨by show ¬ numLen t.length = 0; omega, rfl, by show t.length ≤ _; omega, by omega, by show ((t.length : Nat) : Int) ≤ _; omega⟩), if_neg (by show ¬ (1000 : Int) < ((t.length : Nat) : Int); omega)]
    rw [hd, if_pos (by simp)]
    simp
  unfold textRes
  rw [hg]
theorem textRes_fine {rest : List UInt8} (h : (textRes rest 1000).2.2 = 0) : rest = numBytes (textRes rest 1000).1.length ++ (textRes rest 1000).1 ++ (textRes rest 1000).2.1 := by
  unfold textRes at *
  split at h
  · rename_i t r hg
    unfold textGet at hg
    simp only at hg
    split at hg
    · rename_i hgood
      split at hg
      · cases hg
      · split at hg
        · rename_i hle
          cases hg
          have := numRes_back hgood
          simp only [List.length_take, Nat.min_eq_left hle, List.append_assoc, List.take_append_drop]
          exact this
        · cases hg
    · cases hg
  · rename_i x hg
    unfold textGet at hg
    simp only at hg
    simp only at h
    subst h
    split at hg
    · split at hg
      · cases hg
      · split at hg <;> cases hg
    · cases hg

theorem readNum_bytes {n : Nat} (r : List UInt8) (hn : n ≤ 4096) : readNum (numBytes n ++ r) 0 = (n, r, 0) :=
  numRes_bytes r 0 (by show n < _; omega) (by omega) (by omega)
theorem numsBytes_cons (n : Nat) (l : List Nat) : numsBytes (n :: l) = numBytes n ++ numsBytes l := rfl
theorem readNums_bytes {q n m : Nat} (r : List UInt8) (hq : q = 0 ∨ q = 1 ∨ q = 2) (hn : n ≤ 4096) (hm : m ≤ 4096) (h0 : 0 < q ∨ n = 0) (h1 : 1 < q ∨ m = 0) :
    readNums q (numsBytes ([n, m].take q) ++ r) 0 = (n, m, r, 0) := by
  rcases hq with rfl | rfl | rfl
  · obtain rfl : n = 0 := by omega
    obtain rfl : m = 0 := by omega
    rfl
  · obtain rfl : m = 0 := by omega
    show readNums 1 (numsBytes [n] ++ r) 0 = _
    rw [numsBytes_cons, List.append_assoc]
    unfold readNums
    rw [if_neg (by decide), if_pos rfl, readNum_bytes _ hn]
    rfl
  · show readNums 2 (numsBytes [n, m] ++ r) 0 = _
    rw [numsBytes_cons, numsBytes_cons, List.append_assoc, List.append_assoc]
    unfold readNums
    rw [if_neg (by decide), if_neg (by decide), readNum_bytes _ hn]
    simp only
    rw [readNum_bytes _ hm]
    rfl
theorem readHead_bytes {k : Nat} {t : List UInt8} (r : List UInt8) (hk : k ≤ 20) (ht : t.length ≤ 1000) (h0 : t.length = 0 ∨ hasText k = true) :
    readHead (numBytes k ++ ((if hasText k = true then numBytes t.length ++ t else []) ++ r)) = (k, t, r, 0) := by
  have h6 : Six k := by show k < _; omega
  unfold readHead
  rw [numRes_bytes _ 0 h6 (by omega) (by omega)]
  simp only
  by_cases h : hasText k = true
  · rw [if_pos h, if_pos h, textRes_bytes r ht]
  · rw [if_neg h, if_neg h]
    have : t = [] := List.eq_nil_of_length_eq_zero (by rcases h0 with h0 | h0; · exact h0
                                                       · exact absurd h0 h)
    subst this
    rfl
theorem readOp_bytes {o : POp} (h : OpRight o) (r : List UInt8) : readOp (opBytes o ++ r) = (o, r, 0) := by
  obtain ⟨k, n, m, t⟩ := o
  obtain ⟨h1, h2, h3, h4, h5, h6, h7, h8, h9, h10⟩ := h
  simp only at h1 h2 h3 h4 h5 h6 h7 h8 h9 h10
  obtain ⟨k, rfl⟩ := Int.eq_ofNat_of_zero_le (show 0 ≤ k by omega)
  obtain ⟨n, rfl⟩ := Int.eq_ofNat_of_zero_le h5
  obtain ⟨m, rfl⟩ := Int.eq_ofNat_of_zero_le h6
  unfold opBytes readOp
  simp only [Int.toNat_natCast, List.append_assoc]
  rw [readHead_bytes _ (by omega) h4 h3]
  simp only
  rw [readNums_bytes r (numbersOf_le _) (by omega) (by omega) (by omega) (by omega)]
theorem opBytes_pos (o : POp) : 0 < (opBytes o).length := by
  unfold opBytes
  have := numLen_pos o.kind.toNat
  simp only [List.length_append, numBytes_len]
  omega
theorem readAll_bytes : ∀ (l : List POp) (n : Nat), l.all opRight = true → (opsBytes l).length ≤ n → readAll n (opsBytes l) 0 = (l, 0)
  | [], 0, _, _ => rfl
  | [], n + 1, _, _ => rfl
  | o :: l, 0, _, h => by
    have := opBytes_pos o
    simp only [opsBytes, List.flatMap_cons, List.length_append] at h
    omega
  | o :: l, n + 1, ha, h => by
    have hp := opBytes_pos o
    simp only [opsBytes, List.flatMap_cons, List.length_append] at h
    simp only [List.all_cons, Bool.and_eq_true] at ha
    have ho : OpRight o := by simpa [opRight] using ha.1
    have ih := readAll_bytes l n ha.2 (by show (l.flatMap opBytes).length ≤ n; omega)
    have hc : opsBytes (o :: l) = opBytes o ++ opsBytes l := rfl
    rw [readAll, hc, if_neg (by rw [List.length_append]; omega), readOp_bytes ho]
    simp only [ih]
theorem putOps_ok {l : List POp} {b : List UInt8} : putOps l = .ok b ↔ l.all opRight = true ∧ (opsBytes l).length ≤ 1000 ∧ b = opsBytes l := by
  unfold putOps
  split
  · rename_i h
    split
    · constructor
      · intro h; cases h
      · rintro ⟨_, h2, _⟩; omega
    · constructor
      · intro he; cases he; exact ⟨h, by omega, rfl⟩
      · rintro ⟨_, _, rfl⟩; rfl
  · rename_i h
    constructor
    · intro h; cases h
    · rintro ⟨h1, _⟩; exact absurd h1 h
/-- What was put is got. -/
theorem getOps_put {l : List POp} {b : List UInt8} (h : putOps l = .ok b) : getOps b = .ok l := by
  obtain ⟨h1, h2, rfl⟩ := putOps_ok.1 h
  have := readAll_bytes l _ h1 (Nat.le_refl _)
  unfold getOps
  rw [if_neg (by omega), this, if_pos ⟨rfl, h1⟩]

theorem readNums_ok' {q : Nat} {rest : List UInt8} {wrong : Int} (hq : q = 0 ∨ q = 1 ∨ q = 2) (h : (readNums q rest wrong).2.2.2 = 0) :
    wrong = 0 ∧ rest = numsBytes ([(readNums q rest wrong).1, (readNums q rest wrong).2.1].take q) ++ (readNums q rest wrong).2.2.1 := by
  rcases hq with rfl | rfl | rfl
  · exact ⟨h, rfl⟩
  · unfold readNums at *
    rw [if_neg (by decide), if_pos rfl] at *
    obtain ⟨h1, h2⟩ := numRes_fine h
    refine ⟨h1, ?_⟩
    show rest = numsBytes [(readNum rest wrong).1] ++ _
    rw [numsBytes_cons]
    simp only [numsBytes, List.flatMap_nil, List.append_nil]
    exact h2
  · unfold readNums at *
    rw [if_neg (by decide), if_neg (by decide)] at *
    obtain ⟨h1, h2⟩ := numRes_fine h
    obtain ⟨h3, h4⟩ := numRes_fine h1
    refine ⟨h3, ?_⟩
    show rest = numsBytes [(readNum rest wrong).1, (readNum (readNum rest wrong).2.1 (readNum rest wrong).2.2).1] ++ _
    rw [numsBytes_cons, numsBytes_cons]
    simp only [numsBytes, List.flatMap_nil, List.append_nil, List.append_assoc]
    exact h4.trans (congrArg _ h2)
theorem readHead_ok {rest : List UInt8} (h : (readHead rest).2.2.2 = 0) :
    rest = numBytes (readHead rest).1 ++ ((if hasText ((readHead rest).1 : Int) = true then numBytes (readHead rest).2.1.length ++ (readHead rest).2.1 else []) ++ (readHead rest).2.2.1) := by
  unfold readHead at *
  by_cases ht : hasText ((numRes rest 0 20).1 : Int) = true
  · rw [if_pos ht] at *
    simp only at h ⊢
    rw [if_pos ht]
    have h2 := numRes_fine (numRes_wrong ht)
    have h3 := textRes_fine h
    exact h2.2.trans (congrArg _ h3)
  · rw [if_neg ht] at *
    simp only at h ⊢
    rw [if_neg ht]
    exact (numRes_fine h).2
theorem readOp_ok {rest : List UInt8} (h : (readOp rest).2.2 = 0) : rest = opBytes (readOp rest).1 ++ (readOp rest).2.1 := by
  have h1 := readNums_ok' (q := numbersOf (readHead rest).1) (rest := (readHead rest).2.2.1) (wrong := (readHead rest).2.2.2) (numbersOf_le _) h
  have h2 := readHead_ok h1.1
  unfold opBytes readOp
  simp only [Int.toNat_natCast, List.append_assoc]
  exact h2.trans (congrArg _ (congrArg _ h1.2))
theorem readAll_back : ∀ (n : Nat) (rest : List UInt8), rest.length ≤ n → (readAll n rest 0).2 = 0 → rest = opsBytes (readAll n rest 0).1
  | 0, rest, h, _ => List.eq_nil_of_length_eq_zero (by omega)
  | n + 1, rest, h, h0 => by
    by_cases hr : rest.length = 0
    · rw [readAll, if_pos hr]
      exact List.eq_nil_of_length_eq_zero hr
    · rw [readAll, if_neg hr] at h0 ⊢
      simp only at h0 ⊢
      have hl := readOp_less (rest := rest) (by omega)
      have hw : (readOp rest).2.2 = 0 := by
        by_cases hp : 0 < (readOp rest).2.1.length
        · exact readOp_wrong hp
        · cases n with
          | zero => exact h0
          | succ n => rw [readAll, if_pos (by omega)] at h0; exact h0
      rw [hw] at h0 ⊢
      have ih := readAll_back n (readOp rest).2.1 (by omega) h0
      show rest = opBytes _ ++ opsBytes _
      rw [← ih]
      exact readOp_ok hw
/-- What is got is put again. -/
theorem putOps_get {l : List POp} {b : List UInt8} (h : getOps b = .ok l) : putOps l = .ok b := by
  unfold getOps at h
  split at h
  · cases h
  · split at h
    · rename_i h1 h2
      cases h
      have := readAll_back b.length b (Nat.le_refl _) h2.1
      exact putOps_ok.2 ⟨h2.2, by rw [← this]; omega, this⟩
    · cases h
theorem opsBytes_append (l k : List POp) : opsBytes (l ++ k) = opsBytes l ++ opsBytes k := by simp [opsBytes]
end Go.Proofs.YtddmbdigdnmfgaaGreatDoor
