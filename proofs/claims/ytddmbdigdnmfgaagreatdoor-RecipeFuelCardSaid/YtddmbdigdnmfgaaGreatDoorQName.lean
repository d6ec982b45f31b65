/- Walks of this seat, packed. -/
import Derived.Test.YtddmbdigdnmfgaaGreatDoorQPut
import Derived.Laws.RangeAny
namespace Go.Proofs.YtddmbdigdnmfgaaGreatDoor
open Go.RowKit
set_option maxHeartbeats 400000
set_option maxRecDepth 100000

theorem sign161 (w : World) (n : Nat) (h : n = 110 ∨ n = 111 ∨ n = 119 ∨ n = 120) :
    Calls Tryz.prog 161 #[.int .i32 n] w fun e w' => e = .returned (.bool true) ∧ w = w' := by
  rcases h with rfl | rfl | rfl | rfl
  all_goals
    go_enter Tryz.func161, Tryz.ntmps161
    go_wp2
    go_ret
    exact ⟨rfl, rfl⟩
theorem toList_loop (s : ByteArray) : ∀ (n i : Nat) (r : List UInt8), s.size - i = n → (ByteArray.toList.loop s i r).length = r.length + n
  | 0, i, r, h => by rw [ByteArray.toList.loop, if_neg (by omega)]; simp
  | n + 1, i, r, h => by rw [ByteArray.toList.loop, if_pos (by omega), toList_loop s n _ _ (by omega)]; simp; omega
theorem toList_ne {s : ByteArray} (h : 0 < s.size) : s.toList ≠ [] := fun e => by
  have := toList_loop s s.size 0 [] (by omega)
  rw [show ByteArray.toList.loop s 0 [] = s.toList from rfl, e] at this
  simp at this
  omega
theorem iter_keep (w : World) (s : ByteArray) (p : Nat) : Keep All w (w.iter s p) := (Keep.refl _ _).alloc _
/-- What is claimed of a name: it may stand. -/
def NameOk (s : ByteArray) : Prop := s.size ≤ 24 ∧ (∃ h : 0 < s.size, s[0] ≠ 46) ∧ ∀ k (h : k < s.size), s[k].toNat = 110 ∨ s[k].toNat = 111 ∨ s[k].toNat = 119 ∨ s[k].toNat = 120
theorem name110 (w : World) (s : ByteArray) (hs : NameOk s) :
    Calls Tryz.prog 110 #[.string s] w fun e w' => e = .returned (.bool true) ∧ Keep All w w' := by
  obtain ⟨h24, ⟨hpos, h46⟩, hall⟩ := hs
  go_enter Tryz.func110, Tryz.ntmps110
  go_upto_block 0 with (fail)
  go_cut [] (fun w' => Keep All w w')
  case first =>
    go_wp2
    go_loopw [] (fun wr => ∃ p, p ≤ s.size ∧ wr = w.iter s p) (fun wr => s.size - wr.iterPos w.heap.size)
    case atStart => exact ⟨0, by omega, rfl⟩
    case round =>
      obtain ⟨p, hp, rfl⟩ := hrel
      by_cases hlt : p < s.size
      · have hnx : ∀ ty, (Instr.next (.pointer (some ⟨w.heap.size, 0, none⟩)) true ty).run Tryz.prog (w.iter s p) = _ := fun ty => run_next_ascii w s p ty hlt (by have := hall p hlt; omega)
        go_wp2_with (go_at_call 161; go_must (refine (sign161 _ _ (hall p hlt)).mono ?_); rintro e w1 ⟨rfl, rfl⟩)
        go_roundw
        case rel => exact ⟨p + 1, by omega, rfl⟩
        case measure => simp; omega
      · have hnx : ∀ ty, (Instr.next (.pointer (some ⟨w.heap.size, 0, none⟩)) true ty).run Tryz.prog (w.iter s p) = _ := fun ty => run_next_end w s p ty hlt
        go_wp2
        go_meet
        case rel => exact iter_keep _ _ _
  case rest =>
    have H := Fact.mk hcut
    clear hcut
    have hne : s.toList ≠ [] := toList_ne hpos
    have h24' : (s.size : Int) ≤ 24 := by omega
    have h46' : ((s[0].toNat : Int) != 46) = true := by
      rw [bne_iff_ne]
      intro h
      have h2 : s[0].toNat = 46 := by omega
      exact h46 (UInt8.toNat_inj.1 h2)
    go_wp2
    go_ret
    refine ⟨?_, H.out⟩
    simpa using hne
theorem nameOk_x : NameOk ⟨#[120]⟩ := ⟨by decide, ⟨by decide, by decide⟩, fun k h => by
  obtain rfl : k = 0 := by have : k < 1 := h; omega
  exact .inr (.inr (.inr rfl))⟩
theorem nameOk_own : NameOk ⟨#[111, 119, 110]⟩ := ⟨by decide, ⟨by decide, by decide⟩, fun k h => by
  have : k = 0 ∨ k = 1 ∨ k = 2 := by have : k < 3 := h; omega
  rcases this with rfl | rfl | rfl
  · exact .inr (.inl rfl)
  · exact .inr (.inr (.inl rfl))
  · exact .inl rfl⟩
end Go.Proofs.YtddmbdigdnmfgaaGreatDoor
