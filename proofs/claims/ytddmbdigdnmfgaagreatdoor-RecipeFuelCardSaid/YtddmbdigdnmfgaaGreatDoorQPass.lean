/- Walks of this seat, packed. -/
import Derived.ScopeJumps
namespace Go.Proofs.YtddmbdigdnmfgaaGreatDoor
section
variable {P : Program} {a : Act} {w : World} {Q : Exit → Act → World → Prop}
/-- From the label on: at most n times more it is jumped to. -/
def Pass (P : Program) (rest : Code) (l : Nat) (Q : Exit → Act → World → Prop) : Nat → Act → World → Prop
  | 0, _, _ => False
  | n + 1, a, w => rest.wp P (Exit.jump l (Pass P rest l Q n) Q) a w
theorem least_of {p : Nat → Prop} (h : ∃ n, p n) : ∃ n, p n ∧ ∀ m, m < n → ¬ p m := by
  obtain ⟨n, hn⟩ := h
  induction n using Nat.strongRecOn with
  | _ n ih =>
    by_cases hm : ∃ m, m < n ∧ p m
    · obtain ⟨m, h1, h2⟩ := hm
      exact ih m h1 h2
    · exact ⟨n, hn, fun m h1 h2 => hm ⟨m, h1, h2⟩⟩
open Classical in
noncomputable def least (p : Nat → Prop) : Nat := if h : ∃ n, p n ∧ ∀ m, m < n → ¬ p m then Classical.choose h else 0
theorem least_spec {p : Nat → Prop} (h : ∃ n, p n) : p (least p) ∧ ∀ m, m < least p → ¬ p m := by
  have h' := least_of h
  unfold least
  rw [dif_pos h']
  exact Classical.choose_spec h'
theorem least_le {p : Nat → Prop} {n : Nat} (h : p n) : least p ≤ n := by
  by_cases hl : least p ≤ n
  · exact hl
  · exact absurd h ((least_spec ⟨n, h⟩).2 n (by omega))
theorem jump_mono {l : Nat} {J J' : Act → World → Prop} (h : ∀ a w, J a w → J' a w) : ∀ e a w, Exit.jump l J Q e a w → Exit.jump l J' Q e a w := by
  intro e a w he
  cases e with
  | goto l' => exact ⟨he.1, h _ _ he.2⟩
  | _ => exact he
theorem wp_scope_passes {c rest : Code} (l n : Nat) (hf : findLabel c l = some rest) (first : c.wp P (Exit.jump l (Pass P rest l Q n) Q) a w) : (Code.scope c).wp P Q a w := by
  refine wp_scope_jumps l (fun a w => ∃ m, Pass P rest l Q m a w) (fun a w => least fun m => Pass P rest l Q m a w) hf (Code.wp_mono (jump_mono fun a w h => ⟨n, h⟩) first) ?_
  intro a w hJ
  obtain ⟨h1, h2⟩ := least_spec (p := fun m => Pass P rest l Q m a w) hJ
  obtain ⟨k, hk⟩ : ∃ k, k = least fun m => Pass P rest l Q m a w := ⟨_, rfl⟩
  rw [← hk] at h1
  cases k with
  | zero => exact h1.elim
  | succ k =>
    have h3 : rest.wp P (Exit.jump l (Pass P rest l Q k) Q) a w := h1
    refine Code.wp_mono (jump_mono fun a' w' h => ⟨⟨k, h⟩, ?_⟩) h3
    rw [← hk]
    exact Nat.lt_succ_of_le (least_le (p := fun m => Pass P rest l Q m a' w') h)
end
end Go.Proofs.YtddmbdigdnmfgaaGreatDoor
