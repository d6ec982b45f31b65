/- What the laws of RecipeFuel and RecipePure ask of Run, SameNode. -/
import Derived.Test.YtddmbdigdnmfgaaGreatDoorQGRun
import Derived.Test.YtddmbdigdnmfgaaGreatDoorQAwake
import Derived.Test.YtddmbdigdnmfgaaGreatDoorQRec5
namespace Go.Proofs.YtddmbdigdnmfgaaGreatDoor
open Go.RowKit
set_option maxHeartbeats 1000000
set_option maxRecDepth 100000

theorem RepI.mono {w : World} {G H : Nat → Prop} (hi : ∀ i, i < w.heap.size → G i → H i) : ∀ {l : List PInN} {cs : List Value}, RepI w G l cs → RepI w H l cs
  | [], _, h => h
  | _ :: _, _, ⟨A, c, B, d, t, h1, h2, h3, h4⟩ => ⟨A, c, B, d, t, h1, h2, h3.mono hi, RepI.mono hi h4⟩
theorem InsV.mono {w : World} {G H : Nat → Prop} {l : List PInN} {v : Value} (hi : ∀ i, i < w.heap.size → G i → H i) (h : InsV w G l v) : InsV w H l v := by
  obtain ⟨cs, h1, h2⟩ := h
  exact ⟨cs, h1.mono hi, h2.mono hi⟩
/-- What Run tells, part by part. -/
def RunT (w : World) (x : PNode) (s : Nat) (er : Int) (F : Nat) (e : Ending) (w' : World) : Prop :=
  ∃ A c B d, e = .returned (.tuple #[.agg #[.int .i64 x.kind, .slice A x.bytes.length c, .slice B x.kids.length d], .int .i64 s, .int .i64 er]) ∧ Fact (RepN w' All x (.slice A x.bytes.length c) (.slice B x.kids.length d)) ∧ Fact (er = 0 → rightP x = true) ∧ Fact (s ≤ F) ∧ Fact (Keep All w w')
theorem RunG.told {w w' : World} {x : PNode} {s : Nat} {er : Int} {F : Nat} {e : Ending} (h : RunG w (x, s, er) F e w') : RunT w x s er F e w' := by
  obtain ⟨⟨v, he, A, c, B, d, hv, hr⟩, h2, h3, h4⟩ := h
  subst hv
  exact ⟨A, c, B, d, he, ⟨hr⟩, ⟨h2⟩, ⟨h3⟩, ⟨h4⟩⟩
theorem run27t (w w' : World) (A : Option Addr) (c : Nat) (bb : List UInt8) (sbs : List UInt8) (snm : ByteArray) (l : List PInN) (iv : Value) (f : Int) (F : Nat) (h : By w All (.slice A bb.length c) bb) (hsb : sbs.length = 20) (hi : InsV w All l iv) (hf9 : f ≤ 1000000) (hk : Keep All w w') {x : PNode} {s : Nat} {er : Int}
    (hF : f.toNat = F) (hr : runP bb sbs snm l F = (x, s, er)) : Calls Tryz.prog 27 #[.slice A bb.length c, .agg (pathCells sbs snm).toArray, iv, .int .i64 f] w' (RunT w' x s er F) := by
  subst hF
  refine (run27g w' All (fun i => i < w.heap.size) A c bb sbs snm l iv f (h.keep hk) hsb ((hi.mono (H := fun i => i < w.heap.size) fun i h _ => h).keep hk.all) (fun i hi => Nat.lt_of_lt_of_le hi hk.size) hf9).mono fun e w2 h2 => ?_
  rw [hr] at h2
  exact h2.told
theorem same28 (w : World) (x : PNode) (v1 v2 : Value) (h1 : NodeV w All x v1) (h2 : NodeV w All x v2) : Calls Tryz.prog 28 #[v1, v2] w fun e w' => e = .returned (.bool true) ∧ Keep All w w' := by
  refine (sameAt x x w All All v1 v2 h1 h2).mono fun e w' ⟨he, hk⟩ => ⟨?_, hk⟩
  rw [he]
  simp [sameP]
end Go.Proofs.YtddmbdigdnmfgaaGreatDoor
