import Derived.Test.YtddmbdigdnmfgaaGreatDoorReps
namespace Go.Proofs.YtddmbdigdnmfgaaGreatDoor
open Go.RowKit
set_option maxHeartbeats 400000
set_option maxRecDepth 100000

theorem get49 (w : World) (G : Nat → Prop) (o : POp) (A : Option Addr) (c : Nat) (h : By w G (.slice A o.text.length c) o.text) :
    Calls Tryz.prog 49 #[.agg #[.int .i64 o.kind, .int .i64 o.n, .int .i64 o.m, .slice A o.text.length c]] w (RightPost w (!opRight o)) := by
  have H := Fact.mk h
  clear h
  go_enter Tryz.func49, Tryz.ntmps49
  go_wp2_with (go_at_call 33; go_must (refine (right33 _ o A c).mono ?_); rintro e w1 ⟨rfl, hk1⟩; have K1 := Fact.mk hk1; clear hk1)
  go_ret
  exact ⟨rfl, ((Keep.refl All w).alloc _).trans K1.out⟩

def IdxPost (w : World) (l : List POp) (e : Ending) (w' : World) : Prop := (∃ i : Int, e = .returned (.int .i64 i) ∧ -1 ≤ i ∧ i ≤ l.length ∧ (0 ≤ i ↔ ¬ l.all opRight = true)) ∧ Keep All w w'
theorem idx78 (w : World) (G : Nat → Prop) (v : Value) (l : List POp) (h : OpsR w G v l) (hl : Small l.length) :
    Calls Tryz.prog 78 #[v, .func (.func 49) #[] #[]] w (IdxPost w l) := by
  obtain ⟨A, c, rfl, hn, hc, hA, -⟩ := h.open
  have H := Fact.mk h
  have HL := Fact.mk hl
  have hlb := hl.le
  clear h hl
  go_enter Tryz.func78, Tryz.ntmps78
  go_wp2
  go_loopg [8] l.length (fun g x w' => ∃ k : Nat, x = .int .i64 k ∧ k + g = l.length ∧ Keep All w w' ∧ (l.take k).all opRight = true)
  case atStart => exact ⟨0, rfl, by simp, Keep.refl _ _, by simp⟩
  case round =>
    obtain ⟨k, rfl, hkg, hk1, hall⟩ := hrel
    have K1 := Fact.mk hk1
    have HALL := Fact.mk hall
    clear hk1 hall
    by_cases hk : k < l.length
    · obtain ⟨A', c', he, -, -, -, hcells⟩ := (H.out.keep (K1.out.mono fun _ _ => trivial)).open
      injection he with he1 _ he3
      subst he1 he3
      obtain ⟨b, off, Ax, cx, hAe, hg, hb, h0, h1, h2, h3⟩ := hcells k hk
      subst hAe
      have HB := Fact.mk hb
      clear hb hg
      by_cases hop : opRight l[k] = true
      · go_wp2_with (go_at_call 49; go_must (refine (get49 _ _ _ _ _ HB.out).mono ?_); rintro e w1 ⟨rfl, hk2⟩; have K2 := Fact.mk hk2; clear hk2; rw [hop])
        go_roundg (gk - 1)
        case measure => omega
        case rel => exact ⟨k + 1, by simp, by omega, K1.out.trans K2.out, by rw [List.take_succ_eq_append_getElem hk, List.all_append, HALL.out]; simp [hop]⟩
      · have hop' : opRight l[k] = false := by simpa using hop
        go_wp2_with (go_at_call 49; go_must (refine (get49 _ _ _ _ _ HB.out).mono ?_); rintro e w1 ⟨rfl, hk2⟩; have K2 := Fact.mk hk2; clear hk2; rw [hop'])
        go_ret
        exact ⟨⟨k, rfl, by omega, by omega, by simp only [Int.natCast_nonneg, true_iff, List.all_eq_true]; exact fun h => hop (h _ (List.getElem_mem hk))⟩, K1.out.trans K2.out⟩
    · go_wp2
      go_ret
      have hkl : k = l.length := by omega
      have ha := HALL.out
      rw [hkl, List.take_length] at ha
      exact ⟨⟨-1, rfl, by omega, by omega, by simp [ha]⟩, K1.out⟩
def HasBad (w : World) (l : List POp) (e : Ending) (w' : World) : Prop := e = .returned (.bool (!l.all opRight)) ∧ Keep All w w'
theorem has51 (w : World) (G : Nat → Prop) (v : Value) (l : List POp) (h : OpsR w G v l) (hl : Small l.length) :
    Calls Tryz.prog 51 #[v, .func (.func 49) #[] #[]] w (HasBad w l) := by
  obtain ⟨A, c, rfl, hn, hc, hA, -⟩ := h.open
  have H := Fact.mk h
  clear h
  go_enter Tryz.func51, Tryz.ntmps51
  go_wp2_with (go_at_call 78; go_must (refine (idx78 _ _ _ _ H.out hl).mono ?_); rintro e w1 ⟨⟨i, rfl, hi1, hi2, hi⟩, hk⟩; have HI := Fact.mk hi; have K := Fact.mk hk; clear hi hk)
  all_goals (go_ret; refine ⟨?_, K.out⟩; have := HI.out; cases ha : l.all opRight <;> simp_all <;> omega)
end Go.Proofs.YtddmbdigdnmfgaaGreatDoor
