import Derived.Test.YtddmbdigdnmfgaaGreatDoorMaker
namespace Go.Proofs.YtddmbdigdnmfgaaGreatDoor
open Go.RowKit
set_option maxHeartbeats 400000
set_option maxRecDepth 100000

/-! ### Operations -/
structure POp where
  kind : Int
  n : Int
  m : Int
  text : List UInt8
def hasText (k : Int) : Bool := k == 1 || k == 3 || k == 5 || k == 6 || k == 7 || k == 8 || k == 9
def numbersOf (k : Int) : Nat := if k = 20 then 2 else if k = 12 ∨ k = 17 ∨ k = 18 then 1 else 0
def OpRight (o : POp) : Prop :=
  1 ≤ o.kind ∧ o.kind ≤ 20 ∧ (o.text.length = 0 ∨ hasText o.kind = true) ∧ o.text.length ≤ 1000 ∧ 0 ≤ o.n ∧ 0 ≤ o.m ∧ o.n ≤ 4096 ∧ o.m ≤ 4096 ∧ (0 < numbersOf o.kind ∨ o.n = 0) ∧ (1 < numbersOf o.kind ∨ o.m = 0)
instance (o : POp) : Decidable (OpRight o) := by unfold OpRight; infer_instance
def opRight (o : POp) : Bool := decide (OpRight o)

theorem text35 (w : World) (k : Nat) (hk : k ≤ 20) : Calls Tryz.prog 35 #[.int .i64 k] w fun e w' => e = .returned (.bool (hasText k)) ∧ w = w' := by
  have : k = 0 ∨ k = 1 ∨ k = 2 ∨ k = 3 ∨ k = 4 ∨ k = 5 ∨ k = 6 ∨ k = 7 ∨ k = 8 ∨ k = 9 ∨ k = 10 ∨ k = 11 ∨ k = 12 ∨ k = 13 ∨ k = 14 ∨ k = 15 ∨ k = 16 ∨ k = 17 ∨ k = 18 ∨ k = 19 ∨ k = 20 := by omega
  clear hk
  go_enter Tryz.func35, Tryz.ntmps35
  rcases this with rfl | rfl | rfl | rfl | rfl | rfl | rfl | rfl | rfl | rfl | rfl | rfl | rfl | rfl | rfl | rfl | rfl | rfl | rfl | rfl | rfl
  all_goals (go_wp2; go_ret; exact ⟨ret_bool (by decide), rfl⟩)

theorem numbers37 (w : World) (k : Int) : Calls Tryz.prog 37 #[.int .i64 k] w fun e w' => e = .returned (.int .i64 (numbersOf k)) ∧ w = w' := by
  by_cases h20 : k = 20
  · subst h20
    go_enter Tryz.func37, Tryz.ntmps37
    go_wp2
    go_ret
    exact ⟨rfl, rfl⟩
  by_cases h1 : k = 12 ∨ k = 17 ∨ k = 18
  · have HN : Fact (numbersOf k = 1) := ⟨by unfold numbersOf; rw [if_neg h20, if_pos h1]⟩
    clear h20
    go_enter Tryz.func37, Tryz.ntmps37
    rcases h1 with rfl | rfl | rfl
    all_goals (go_wp2; go_ret; exact ⟨rfl, rfl⟩)
  · have HN : Fact (numbersOf k = 0) := ⟨by unfold numbersOf; rw [if_neg h20, if_neg h1]⟩
    have a1 : (k == 20) = false := by simp [h20]
    have a2 : (k == 12) = false := by simp; omega
    have a3 : (k == 17) = false := by simp; omega
    have a4 : (k == 18) = false := by simp; omega
    clear h20 h1
    go_enter Tryz.func37, Tryz.ntmps37
    go_wp2
    go_ret
    exact ⟨by rw [HN.out]; rfl, rfl⟩

def RightPost (w : World) (b : Bool) (e : Ending) (w' : World) : Prop := e = .returned (.bool b) ∧ Keep All w w'
theorem RightPost.of {w : World} {b b' : Bool} {o : Obj} (h : b' = b) : RightPost w b (.returned (.bool b')) (w.alloc o) := ⟨by rw [h], (Keep.refl _ _).alloc _⟩

theorem right33_Tlt (w : World) (kn : Nat) (n m : Int) (t q : Nat) (A : Option Addr) (c : Nat) (r : Bool) (hkn : kn ≤ 20) (hk1 : (1 : Int) ≤ kn) (HQ : Fact (q = numbersOf (kn : Int)))
    (HR : Fact (r = true ↔ t ≤ 1000 ∧ 0 ≤ n ∧ 0 ≤ m ∧ n ≤ 4096 ∧ m ≤ 4096 ∧ (0 < q ∨ n = 0) ∧ (1 < q ∨ m = 0))) (HT : Fact (hasText (kn : Int) = true)) (h1 : m < n) (h0 : 0 < t) :
    Calls Tryz.prog 33 #[.agg #[.int .i64 kn, .int .i64 n, .int .i64 m, .slice A t c]] w (RightPost w r) := by
  have hk2 : (kn : Int) ≤ 20 := by omega
  have h2 : ¬ n < m := by omega
  go_enter Tryz.func33, Tryz.ntmps33
  go_wp2_with (first
    | (go_at_call 35; go_must (refine (text35 _ _ hkn).mono ?_); rintro e w' ⟨rfl, rfl⟩; rw [HT.out])
    | (go_at_call 37; go_must (refine (numbers37 _ _).mono ?_); rintro e w' ⟨rfl, rfl⟩; rw [← HQ.out]))
  all_goals (go_ret; refine RightPost.of ?_; rw [Bool.eq_iff_iff, HR.out]; (try simp only [Bool.false_eq_true, false_iff, true_iff, Bool.or_eq_true, decide_eq_true_eq, beq_iff_eq]); omega)

theorem right33_Tgt (w : World) (kn : Nat) (n m : Int) (t q : Nat) (A : Option Addr) (c : Nat) (r : Bool) (hkn : kn ≤ 20) (hk1 : (1 : Int) ≤ kn) (HQ : Fact (q = numbersOf (kn : Int)))
    (HR : Fact (r = true ↔ t ≤ 1000 ∧ 0 ≤ n ∧ 0 ≤ m ∧ n ≤ 4096 ∧ m ≤ 4096 ∧ (0 < q ∨ n = 0) ∧ (1 < q ∨ m = 0))) (HT : Fact (hasText (kn : Int) = true)) (h2 : n < m) (h0 : 0 < t) :
    Calls Tryz.prog 33 #[.agg #[.int .i64 kn, .int .i64 n, .int .i64 m, .slice A t c]] w (RightPost w r) := by
  have hk2 : (kn : Int) ≤ 20 := by omega
  have h1 : ¬ m < n := by omega
  go_enter Tryz.func33, Tryz.ntmps33
  go_wp2_with (first
    | (go_at_call 35; go_must (refine (text35 _ _ hkn).mono ?_); rintro e w' ⟨rfl, rfl⟩; rw [HT.out])
    | (go_at_call 37; go_must (refine (numbers37 _ _).mono ?_); rintro e w' ⟨rfl, rfl⟩; rw [← HQ.out]))
  all_goals (go_ret; refine RightPost.of ?_; rw [Bool.eq_iff_iff, HR.out]; (try simp only [Bool.false_eq_true, false_iff, true_iff, Bool.or_eq_true, decide_eq_true_eq, beq_iff_eq]); omega)

theorem right33_Teq (w : World) (kn : Nat) (n : Int) (t q : Nat) (A : Option Addr) (c : Nat) (r : Bool) (hkn : kn ≤ 20) (hk1 : (1 : Int) ≤ kn) (HQ : Fact (q = numbersOf (kn : Int)))
    (HR : Fact (r = true ↔ t ≤ 1000 ∧ 0 ≤ n ∧ n ≤ 4096 ∧ (0 < q ∨ n = 0) ∧ (1 < q ∨ n = 0))) (HT : Fact (hasText (kn : Int) = true))  (h0 : 0 < t) :
    Calls Tryz.prog 33 #[.agg #[.int .i64 kn, .int .i64 n, .int .i64 n, .slice A t c]] w (RightPost w r) := by
  have hk2 : (kn : Int) ≤ 20 := by omega
  go_enter Tryz.func33, Tryz.ntmps33
  go_wp2_with (first
    | (go_at_call 35; go_must (refine (text35 _ _ hkn).mono ?_); rintro e w' ⟨rfl, rfl⟩; rw [HT.out])
    | (go_at_call 37; go_must (refine (numbers37 _ _).mono ?_); rintro e w' ⟨rfl, rfl⟩; rw [← HQ.out]))
  all_goals (go_ret; refine RightPost.of ?_; rw [Bool.eq_iff_iff, HR.out]; (try simp only [Bool.false_eq_true, false_iff, true_iff, Bool.or_eq_true, decide_eq_true_eq, beq_iff_eq]); omega)

theorem right33_Zlt (w : World) (kn : Nat) (n m : Int) (q : Nat) (A : Option Addr) (c : Nat) (r : Bool) (hkn : kn ≤ 20) (hk1 : (1 : Int) ≤ kn) (HQ : Fact (q = numbersOf (kn : Int)))
    (HR : Fact (r = true ↔ 0 ≤ n ∧ 0 ≤ m ∧ n ≤ 4096 ∧ m ≤ 4096 ∧ (0 < q ∨ n = 0) ∧ (1 < q ∨ m = 0)))  (h1 : m < n)  :
    Calls Tryz.prog 33 #[.agg #[.int .i64 kn, .int .i64 n, .int .i64 m, .slice A 0 c]] w (RightPost w r) := by
  have hk2 : (kn : Int) ≤ 20 := by omega
  have h2 : ¬ n < m := by omega
  go_enter Tryz.func33, Tryz.ntmps33
  go_wp2_with (first
    | (go_at_call 37; go_must (refine (numbers37 _ _).mono ?_); rintro e w' ⟨rfl, rfl⟩; rw [← HQ.out]))
  all_goals (go_ret; refine RightPost.of ?_; rw [Bool.eq_iff_iff, HR.out]; (try simp only [Bool.false_eq_true, false_iff, true_iff, Bool.or_eq_true, decide_eq_true_eq, beq_iff_eq]); omega)

theorem right33_Zgt (w : World) (kn : Nat) (n m : Int) (q : Nat) (A : Option Addr) (c : Nat) (r : Bool) (hkn : kn ≤ 20) (hk1 : (1 : Int) ≤ kn) (HQ : Fact (q = numbersOf (kn : Int)))
    (HR : Fact (r = true ↔ 0 ≤ n ∧ 0 ≤ m ∧ n ≤ 4096 ∧ m ≤ 4096 ∧ (0 < q ∨ n = 0) ∧ (1 < q ∨ m = 0)))  (h2 : n < m)  :
    Calls Tryz.prog 33 #[.agg #[.int .i64 kn, .int .i64 n, .int .i64 m, .slice A 0 c]] w (RightPost w r) := by
  have hk2 : (kn : Int) ≤ 20 := by omega
  have h1 : ¬ m < n := by omega
  go_enter Tryz.func33, Tryz.ntmps33
  go_wp2_with (first
    | (go_at_call 37; go_must (refine (numbers37 _ _).mono ?_); rintro e w' ⟨rfl, rfl⟩; rw [← HQ.out]))
  all_goals (go_ret; refine RightPost.of ?_; rw [Bool.eq_iff_iff, HR.out]; (try simp only [Bool.false_eq_true, false_iff, true_iff, Bool.or_eq_true, decide_eq_true_eq, beq_iff_eq]); omega)

theorem right33_Zeq (w : World) (kn : Nat) (n : Int) (q : Nat) (A : Option Addr) (c : Nat) (r : Bool) (hkn : kn ≤ 20) (hk1 : (1 : Int) ≤ kn) (HQ : Fact (q = numbersOf (kn : Int)))
    (HR : Fact (r = true ↔ 0 ≤ n ∧ n ≤ 4096 ∧ (0 < q ∨ n = 0) ∧ (1 < q ∨ n = 0)))    :
    Calls Tryz.prog 33 #[.agg #[.int .i64 kn, .int .i64 n, .int .i64 n, .slice A 0 c]] w (RightPost w r) := by
  have hk2 : (kn : Int) ≤ 20 := by omega
  go_enter Tryz.func33, Tryz.ntmps33
  go_wp2_with (first
    | (go_at_call 37; go_must (refine (numbers37 _ _).mono ?_); rintro e w' ⟨rfl, rfl⟩; rw [← HQ.out]))
  all_goals (go_ret; refine RightPost.of ?_; rw [Bool.eq_iff_iff, HR.out]; (try simp only [Bool.false_eq_true, false_iff, true_iff, Bool.or_eq_true, decide_eq_true_eq, beq_iff_eq]); omega)

theorem right33_no (w : World) (kn : Nat) (n m : Int) (t : Nat) (A : Option Addr) (c : Nat) (hkn : kn ≤ 20) (hk1 : (1 : Int) ≤ kn) (HT : Fact (hasText (kn : Int) = false)) (h0 : 0 < t) :
    Calls Tryz.prog 33 #[.agg #[.int .i64 kn, .int .i64 n, .int .i64 m, .slice A t c]] w (RightPost w false) := by
  have hk2 : (kn : Int) ≤ 20 := by omega
  go_enter Tryz.func33, Tryz.ntmps33
  go_wp2_with (go_at_call 35; go_must (refine (text35 _ _ hkn).mono ?_); rintro e w' ⟨rfl, rfl⟩; rw [HT.out])
  go_ret
  exact RightPost.of rfl

theorem right33 (w : World) (o : POp) (A : Option Addr) (c : Nat) :
    Calls Tryz.prog 33 #[.agg #[.int .i64 o.kind, .int .i64 o.n, .int .i64 o.m, .slice A o.text.length c]] w (RightPost w (opRight o)) := by
  obtain ⟨k, n, m, t⟩ := o
  have HR0 : opRight ⟨k, n, m, t⟩ = true ↔ OpRight ⟨k, n, m, t⟩ := by rw [opRight, decide_eq_true_eq]
  show Calls Tryz.prog 33 #[.agg #[.int .i64 k, .int .i64 n, .int .i64 m, .slice A t.length c]] w _
  by_cases hk : 1 ≤ k ∧ k ≤ 20
  · obtain ⟨kn, rfl⟩ := Int.eq_ofNat_of_zero_le (show 0 ≤ k by omega)
    have hkn : kn ≤ 20 := by omega
    have hk1 : (1 : Int) ≤ kn := hk.1
    by_cases h0 : 0 < t.length
    · by_cases ht : hasText (kn : Int) = true
      · have HR : Fact (opRight ⟨kn, n, m, t⟩ = true ↔ t.length ≤ 1000 ∧ 0 ≤ n ∧ 0 ≤ m ∧ n ≤ 4096 ∧ m ≤ 4096 ∧ (0 < numbersOf kn ∨ n = 0) ∧ (1 < numbersOf kn ∨ m = 0)) := ⟨by
          rw [HR0, OpRight]
          exact ⟨fun h => h.2.2.2, fun h => ⟨hk1, hk.2, .inr ht, h⟩⟩⟩
        rcases Int.lt_trichotomy m n with h | rfl | h
        · exact right33_Tlt w kn n m t.length _ A c _ hkn hk1 ⟨rfl⟩ HR ⟨ht⟩ h h0
        · exact right33_Teq w kn m t.length _ A c _ hkn hk1 ⟨rfl⟩ ⟨by rw [HR.out]; omega⟩ ⟨ht⟩ h0
        · exact right33_Tgt w kn n m t.length _ A c _ hkn hk1 ⟨rfl⟩ HR ⟨ht⟩ h h0
      · have hf : opRight ⟨kn, n, m, t⟩ = false := by
          rw [← Bool.not_eq_true, HR0, OpRight]
          rintro ⟨_, _, h | h, _⟩
          · simp only at h; omega
          · exact ht h
        rw [hf]
        exact right33_no w kn n m t.length A c hkn hk1 ⟨by simpa using ht⟩ h0
    · have ht0 : t = [] := List.eq_nil_of_length_eq_zero (by omega)
      subst ht0
      have HR : Fact (opRight ⟨kn, n, m, []⟩ = true ↔ 0 ≤ n ∧ 0 ≤ m ∧ n ≤ 4096 ∧ m ≤ 4096 ∧ (0 < numbersOf kn ∨ n = 0) ∧ (1 < numbersOf kn ∨ m = 0)) := ⟨by
        rw [HR0, OpRight]
        exact ⟨fun h => h.2.2.2.2, fun h => ⟨hk1, hk.2, .inl rfl, by simp, h⟩⟩⟩
      rcases Int.lt_trichotomy m n with h | rfl | h
      · exact right33_Zlt w kn n m _ A c _ hkn hk1 ⟨rfl⟩ HR h
      · exact right33_Zeq w kn m _ A c _ hkn hk1 ⟨rfl⟩ ⟨by rw [HR.out]; omega⟩
      · exact right33_Zgt w kn n m _ A c _ hkn hk1 ⟨rfl⟩ HR h
  · have hf : opRight ⟨k, n, m, t⟩ = false := by
      rw [← Bool.not_eq_true, HR0, OpRight]
      exact fun h => hk ⟨h.1, h.2.1⟩
    rw [hf]
    go_enter Tryz.func33, Tryz.ntmps33
    by_cases h1 : k < 1
    · clear hk HR0 hf
      go_wp2
      go_ret
      exact RightPost.of rfl
    · have h2 : 20 < k := by omega
      clear hk HR0 hf
      go_wp2
      go_ret
      exact RightPost.of rfl
end Go.Proofs.YtddmbdigdnmfgaaGreatDoor
