/- A builder's run with fuel, over any trees and any operations: what more fuel, less fuel, what stands ahead turn. Plain Lean, no program. -/
namespace Go.Proofs.YtddmbdigdnmfgaaGreatDoor
/-- How a run ends: with a tree, in so many steps; with none; out of fuel. -/
inductive Ends (T : Type) where
  | ok (x : T) (s : Nat) : Ends T
  | fail (s : Nat) : Ends T
  | out : Ends T
section
variable {T : Type}
/-- What stands on the pile alone, if it does. -/
def endP (pile : List T) (s : Nat) : Ends T := match pile with
  | [x] => .ok x s
  | _ => .fail s
abbrev OpF (T : Type) := Nat → List T → Option (List T × Nat × Nat)
/-- Rounds: k at most. 'f at pile': what the operation there makes of a pile: none: it fails; else the pile, what it costs, where it goes on. -/
def goP (len : Nat) (f : OpF T) (F : Nat) : Nat → List T → Nat → Nat → Ends T
  | 0, _, _, _ => .out
  | k + 1, pile, i, s =>
    if i = len then endP pile s
    else if F < s + 1 then .out
    else match f i pile with
      | none => .fail (s + 1)
      | some (pile', c, j) => if F < s + 1 + c then .out else goP len f F k pile' j (s + 1 + c)
/-- How many steps it ended in. -/
def Ends.steps (F : Nat) : Ends T → Nat
  | .ok _ s => s
  | .fail s => s
  | .out => F
variable {len : Nat} {f : OpF T}
theorem endP_steps (pile : List T) (s F : Nat) : (endP pile s).steps F = s ∧ endP pile s ≠ .out := by
  unfold endP
  split <;> simp [Ends.steps]
/-- One round laid open. -/
theorem goP_succ {F k : Nat} {pile : List T} {i s : Nat} : goP len f F (k + 1) pile i s = if i = len then endP pile s else if F < s + 1 then .out
    else match f i pile with
      | none => .fail (s + 1)
      | some (pile', c, j) => if F < s + 1 + c then .out else goP len f F k pile' j (s + 1 + c) := rfl
/-- What has not run out of fuel has cost no more than there was, no less than had been spent. -/
theorem goP_le {F : Nat} : ∀ {k : Nat} {pile : List T} {i s : Nat}, s ≤ F → goP len f F k pile i s ≠ .out → s ≤ (goP len f F k pile i s).steps F ∧ (goP len f F k pile i s).steps F ≤ F
  | 0, pile, i, s, _, h => absurd rfl h
  | k + 1, pile, i, s, hs, h => by
    rw [goP_succ] at h ⊢
    by_cases he : i = len
    · rw [if_pos he, (endP_steps pile s F).1]
      exact ⟨Nat.le_refl _, hs⟩
    rw [if_neg he] at h ⊢
    by_cases hF : F < s + 1
    · rw [if_pos hF] at h; exact absurd rfl h
    rw [if_neg hF] at h ⊢
    rcases hf : f i pile with _ | ⟨p, c, j⟩
    · simp only [Ends.steps]; omega
    · simp only [hf] at h ⊢
      by_cases hc : F < s + 1 + c
      · rw [if_pos hc] at h; exact absurd rfl h
      rw [if_neg hc] at h ⊢
      have := goP_le (by omega) h
      omega
/-- With any fuel from what it cost on it ends the same; with less it runs out. -/
theorem goP_same {F F' : Nat} : ∀ {k k' : Nat} {pile : List T} {i s : Nat}, s ≤ F → goP len f F k pile i s ≠ .out → F' + 1 ≤ k' + s →
    ((goP len f F k pile i s).steps F ≤ F' → goP len f F' k' pile i s = goP len f F k pile i s) ∧ (s ≤ F' → F' < (goP len f F k pile i s).steps F → goP len f F' k' pile i s = .out)
  | 0, k', pile, i, s, _, h, _ => absurd rfl h
  | k + 1, 0, pile, i, s, hs, h, hk => by
    have := goP_le hs h
    exact ⟨fun h => by omega, fun h1 h2 => by omega⟩
  | k + 1, k' + 1, pile, i, s, hs, h, hk => by
    rw [goP_succ] at h ⊢
    rw [goP_succ]
    by_cases he : i = len
    · rw [if_pos he, if_pos he, (endP_steps pile s F).1]
      exact ⟨fun _ => rfl, fun h1 h2 => by omega⟩
    rw [if_neg he] at h ⊢
    rw [if_neg he]
    by_cases hF : F < s + 1
    · rw [if_pos hF] at h; exact absurd rfl h
    rw [if_neg hF] at h ⊢
    rcases hf : f i pile with _ | ⟨p, c, j⟩
    · simp only [Ends.steps]
      exact ⟨fun hl => by rw [if_neg (by omega)], fun h1 h2 => by rw [if_pos (by omega)]⟩
    · simp only [hf] at h ⊢
      by_cases hc : F < s + 1 + c
      · rw [if_pos hc] at h; exact absurd rfl h
      rw [if_neg hc] at h ⊢
      have hle := goP_le (by omega) h
      have ih := goP_same (F' := F') (k' := k') (by omega) h (by omega)
      refine ⟨fun hl => ?_, fun h1 h2 => ?_⟩
      · rw [if_neg (by omega), if_neg (by omega)]
        exact ih.1 hl
      · by_cases h3 : F' < s + 1
        · rw [if_pos h3]
        · rw [if_neg h3]
          by_cases h4 : F' < s + 1 + c
          · rw [if_pos h4]
          · rw [if_neg h4]
            exact ih.2 (by omega) h2
/-- How many rounds there may be does not count, if there are enough. -/
theorem goP_rounds {F : Nat} : ∀ {k k' : Nat} {pile : List T} {i s : Nat}, s ≤ F → F + 1 ≤ k + s → F + 1 ≤ k' + s → goP len f F k pile i s = goP len f F k' pile i s
  | 0, _, _, _, _, hs, hk, _ => by omega
  | _ + 1, 0, _, _, _, hs, _, hk => by omega
  | k + 1, k' + 1, pile, i, s, hs, hk, hk' => by
    rw [goP_succ, goP_succ]
    by_cases he : i = len
    · rw [if_pos he, if_pos he]
    rw [if_neg he, if_neg he]
    by_cases hF : F < s + 1
    · rw [if_pos hF, if_pos hF]
    rw [if_neg hF, if_neg hF]
    rcases hf : f i pile with _ | ⟨p, c, j⟩
    · rfl
    · simp only
      by_cases hc : F < s + 1 + c
      · rw [if_pos hc, if_pos hc]
      rw [if_neg hc, if_neg hc]
      exact goP_rounds (by omega) (by omega) (by omega)
/-- A whole run. -/
def runF (len : Nat) (f : OpF T) (F : Nat) : Ends T := goP len f F (F + 1) [] 0 0
theorem runF_le {F : Nat} (h : runF len f F ≠ .out) : (runF len f F).steps F ≤ F := (goP_le (Nat.zero_le _) h).2
theorem runF_same {F F' : Nat} (h : runF len f F ≠ .out) (hl : (runF len f F).steps F ≤ F') : runF len f F' = runF len f F := (goP_same (Nat.zero_le _) h (by omega)).1 hl
theorem runF_less {F F' : Nat} (h : runF len f F ≠ .out) (hl : F' < (runF len f F).steps F) : runF len f F' = .out := (goP_same (Nat.zero_le _) h (by omega)).2 (Nat.zero_le _) hl
/-- Out of fuel: with more fuel it takes no fewer steps. -/
theorem runF_out {F F' : Nat} (h : runF len f F = .out) (hl : F ≤ F') : F ≤ (runF len f F').steps F' := by
  by_cases h' : runF len f F' = .out
  · rw [h']; exact hl
  · by_cases hs : (runF len f F').steps F' ≤ F
    · have := runF_same h' hs
      rw [h] at this
      exact absurd this.symm h'
    · omega
/-- A run behind something: the first m operations, from a pile of none, leave one tree in s steps; the next takes it away; behind it stands what g does, shifted. -/
theorem goP_shift {g : OpF T} {m n F : Nat} (d : Nat) (hlen : len = m + n)
    (hf : ∀ i pile, i < n → f (m + i) pile = (g i pile).map fun (p, c, j) => (p, c, m + j)) (hn : ∀ i pile p c j, i < n → g i pile = some (p, c, j) → j ≤ n) :
    ∀ {k : Nat} {pile : List T} {i s : Nat}, i ≤ n → goP len f (F + d) k pile (m + i) (s + d) = (match goP n g F k pile i s with
      | .ok x t => .ok x (t + d)
      | .fail t => .fail (t + d)
      | .out => .out)
  | 0, _, _, _, _ => rfl
  | k + 1, pile, i, s, hi => by
    rw [goP_succ, goP_succ]
    by_cases he : i = n
    · rw [if_pos (by omega), if_pos he]
      unfold endP
      split <;> simp
    rw [if_neg (by omega), if_neg he]
    by_cases hF : F < s + 1
    · rw [if_pos (by omega), if_pos hF]
    rw [if_neg (by omega), if_neg hF, hf i pile (by omega)]
    rcases hg : g i pile with _ | ⟨p, c, j⟩
    · simp only [Option.map_none]
      rw [Nat.add_right_comm]
    · simp only [Option.map_some]
      by_cases hc : F < s + 1 + c
      · rw [if_pos (by omega), if_pos hc]
      rw [if_neg (by omega), if_neg hc, show s + d + 1 + c = s + 1 + c + d by omega]
      exact goP_shift d hlen hf hn (hn i pile p c j (by omega) hg)
/-- What stands ahead: up to its end all goes as it did. -/
theorem goP_ahead {g : OpF T} {m F F' : Nat} (hm : m < len) (hf : ∀ i pile p c j, i < m → g i pile = some (p, c, j) → f i pile = some (p, c, j)) (hn : ∀ i pile p c j, i < m → g i pile = some (p, c, j) → j ≤ m) {x : T} {t : Nat} :
    ∀ {k k' : Nat} {pile : List T} {i s : Nat}, i ≤ m → F ≤ F' → s ≤ F → F' + 1 ≤ k' + s → goP m g F k pile i s = .ok x t → goP len f F' k' pile i s = goP len f F' (F' + 1) [x] m t
  | 0, _, _, _, _, _, _, _, _, h => by cases h
  | _ + 1, 0, _, _, _, _, _, _, _, _ => by omega
  | k + 1, k' + 1, pile, i, s, hi, hFF, hs, hk, h => by
    rw [goP_succ] at h
    by_cases he : i = m
    · rw [if_pos he] at h
      unfold endP at h
      split at h
      · cases h
        subst he
        exact goP_rounds (by omega) (by omega) (by omega)
      · cases h
    rw [if_neg he] at h
    by_cases hF : F < s + 1
    · rw [if_pos hF] at h; cases h
    rw [if_neg hF] at h
    rcases hg : g i pile with _ | ⟨p, c, j⟩
    · simp only [hg] at h; cases h
    · simp only [hg] at h
      by_cases hc : F < s + 1 + c
      · rw [if_pos hc] at h; cases h
      rw [if_neg hc] at h
      rw [goP_succ, if_neg (by omega), if_neg (by omega), hf i pile p c j (by omega) hg]
      simp only
      rw [if_neg (by omega)]
      exact goP_ahead hm hf hn (hn i pile p c j (by omega) hg) hFF (by omega) (by omega) h
/-- A run behind one that leaves one tree, which is taken away. -/
theorem runF_behind {g h : OpF T} {m n F a : Nat} (hlen : len = m + 1 + n) {x : T}
    (h1 : ∀ i pile p c j, i < m → h i pile = some (p, c, j) → f i pile = some (p, c, j) ∧ j ≤ m) (h2 : f m [x] = some ([], 0, m + 1))
    (h3 : ∀ i pile, i < n → f (m + 1 + i) pile = (g i pile).map fun (p, c, j) => (p, c, m + 1 + j)) (h4 : ∀ i pile p c j, i < n → g i pile = some (p, c, j) → j ≤ n)
    (hr : runF m h F = .ok x a) (ha : a ≤ F) : runF len f (F + a + 1) = (match runF n g F with
      | .ok x t => .ok x (t + (a + 1))
      | .fail t => .fail (t + (a + 1))
      | .out => .out) := by
  unfold runF at hr ⊢
  rw [goP_ahead (F' := F + a + 1) (k' := F + a + 1 + 1) (by omega) (fun i pile p c j hi hg => (h1 i pile p c j hi hg).1) (fun i pile p c j hi hg => (h1 i pile p c j hi hg).2) (Nat.zero_le _) (by omega) (Nat.zero_le _) (by omega) hr]
  rw [goP_succ, if_neg (by omega), if_neg (by omega), h2]
  simp only
  rw [if_neg (by omega)]
  have := goP_shift (F := F) (k := F + 1) (pile := []) (i := 0) (s := 0) (a + 1) hlen h3 h4 (Nat.zero_le _)
  rw [← this, goP_rounds (k' := F + 1) (by omega) (by omega) (by omega)]
  simp only [Nat.zero_add, Nat.add_zero, Nat.add_assoc]
end
end Go.Proofs.YtddmbdigdnmfgaaGreatDoor
