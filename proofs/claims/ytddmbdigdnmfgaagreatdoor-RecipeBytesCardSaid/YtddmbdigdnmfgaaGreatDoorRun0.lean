import Derived.Test.YtddmbdigdnmfgaaGreatDoorRecov
namespace Go.Proofs.YtddmbdigdnmfgaaGreatDoor
open Go.RowKit
set_option maxHeartbeats 1000000
set_option maxRecDepth 100000

def awakeOps : List POp := [⟨4, 0, 0, []⟩, ⟨1, 0, 0, [97, 98]⟩, ⟨5, 0, 0, [120]⟩]
theorem ops_at {w : World} {G : Nat → Prop} {v : Value} (h : OpsR w G v awakeOps) : ∃ ob off oc T0 d0 T1 d1 T2 d2, v = .slice (some ⟨ob, off, none⟩) 3 oc ∧ 3 ≤ oc ∧ OpAt w G ob (off + 0 * 4) 4 [] T0 d0 ∧ OpAt w G ob (off + 1 * 4) 1 [97, 98] T1 d1 ∧ OpAt w G ob (off + 2 * 4) 5 [120] T2 d2 := by
  obtain ⟨A, c, rfl, hn, hc, hA, hk⟩ := h.open
  obtain ⟨b, off, T0, d0, rfl, hg, hb0, k0, n0, m0, t0⟩ := hk 0 (by decide)
  obtain ⟨b1, off1, T1, d1, e1, hg1, hb1, k1, n1, m1, t1⟩ := hk 1 (by decide)
  obtain ⟨b2, off2, T2, d2, e2, hg2, hb2, k2, n2, m2, t2⟩ := hk 2 (by decide)
  injection e1 with e1
  injection e1 with e1 e1'
  injection e2 with e2
  injection e2 with e2 e2'
  subst e1 e1' e2 e2'
  exact ⟨b, off, c, T0, d0, T1, d1, T2, d2, rfl, hn, ⟨k0, n0, m0, t0, hb0, hg⟩, ⟨k1, n1, m1, t1, hb1, hg⟩, ⟨k2, n2, m2, t2, hb2, hg⟩⟩
end Go.Proofs.YtddmbdigdnmfgaaGreatDoor
