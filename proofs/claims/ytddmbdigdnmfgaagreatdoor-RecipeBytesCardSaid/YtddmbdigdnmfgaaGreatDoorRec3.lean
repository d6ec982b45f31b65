import Derived.Test.YtddmbdigdnmfgaaGreatDoorRec2
namespace Go.Proofs.YtddmbdigdnmfgaaGreatDoor
open Go.RowKit
set_option maxHeartbeats 800000
set_option maxRecDepth 100000

/-- A leaf goes onto the pile: its bytes are in memory of their own. -/
def LeafOn (w : World) (p used fuel at_ n : Nat) (pv ov : Value) (rest xs : List Value) (k : Int) (b : List UInt8) (base : Nat) (e : Ending) (w' : World) : Prop :=
  e = .returned (.tuple #[]) ∧ ∃ A c A1 c1, BlkB w' p (used + 1) fuel (.slice A (n + 1) c) ov at_ rest ∧ w'.ownsRow base 58 3 (.slice A (n + 1) c) (n + 1) (xs ++ [.int .i64 k, .slice A1 b.length c1, .slice none 0 0]) ∧
    By w' (fun i => w.heap.size ≤ i ∧ (Value.slice A (n + 1) c).ownBlock ≠ some i) (.slice A1 b.length c1) b ∧ Moved w pv (.slice A (n + 1) c) ∧ Keep (Mine p pv) w w'
theorem leaf168 (w : World) (G : Nat → Prop) (p used fuel at_ n base pc : Nat) (PA : Option Addr) (ov : Value) (rest xs : List Value) (k : Int) (lo hi : Nat) (kd : Bool) (b : List UInt8) (A0 : Option Addr) (c0 : Nat)
    (h : BlkB w p used fuel (.slice PA n pc) ov at_ rest) (hrow : w.ownsRow base 58 3 (.slice PA n pc) n xs) (hbase : base ≤ w.heap.size) (hpb : p < base) (hn : n < 16)
    (hb : By w G (.slice A0 b.length c0) b) (hs : Small b.length) (hk : KindIs k lo hi kd) (hlo : lo ≤ b.length) (hhi : b.length ≤ hi) (hsm : Small (used + 1)) (hf : used + 1 ≤ fuel) :
    Calls Tryz.prog 168 #[.pointer (some ⟨p, 0, none⟩), .int .i64 k, .slice A0 b.length c0] w (LeafOn w p used fuel at_ n (.slice PA n pc) ov rest xs k b base) := by
  have H := Fact.mk h
  have HROW := Fact.mk hrow
  have HB := Fact.mk hb
  have HS := Fact.mk hs
  have HK := Fact.mk hk
  have HSM := Fact.mk hsm
  have HPB := Fact.mk hpb
  have hlt := h.lt
  clear h hrow hb hs hk hsm
  go_enter Tryz.func168, Tryz.ntmps168
  go_wp2_with (first
    | (go_at_call 72; go_must (refine (clone72 _ _ _ _ HB.out HS.out).mono ?_); rintro e w1 ⟨A1, c1, rfl, hby, hk⟩; have HB1 := Fact.mk (hby.mono (H := fun i => w.heap.size ≤ i ∧ i < w1.heap.size) fun i h1 h2 => ⟨h2, h1⟩); have K1 := Fact.mk hk; clear hby hk)
    | (go_at_call 171; go_must (refine (put171_ok _ p used fuel 1 1 at_ n base pc 1 PA (some ⟨w1.heap.size, 0, none⟩) ov rest xs ⟨⟨#[]⟩, k, A1, b.length, c1, none, 0, 0⟩ ((Blk.keep H.out K1.out trivial).alloc _) (own_keep HROW.out (K1.out.alloc _) fun _ _ => trivial) (Nat.le_trans hbase (K1.out.alloc _).size) HPB.out hn
        ((Sl.new w1 58 3 1 [.int .i64 k, .slice A1 b.length c1, .slice none 0 0] rfl (by decide) (by simp [Value.oneCell'])).mono fun i _ hi => by have := K1.out.size; show i ≠ p; omega) (rightN_leaf _ _ _ _ _ _ _ _ _ HK.out hlo hhi) (stepOk_leaf _ _ _ _ _ _) HSM.out hf).mono ?_); rintro e w2 ⟨rfl, A, c, h2, hr2, hm2, hk2⟩; have H2 := Fact.mk h2; have R2 := Fact.mk hr2; have M2 := Fact.mk hm2; have K2 := Fact.mk hk2; clear h2 hr2 hm2 hk2))
  go_end0
  have hpo : ∀ g, (Value.slice PA n pc).ownBlock = some g → g < w.heap.size := fun g hg => (HROW.out.lt g hg).2
  have hs1 := K1.out.size
  refine ⟨rfl, A, c, A1, c1, H2.out, R2.out, ?_, fun g hg => ?_, ?_⟩
  · refine ((HB1.out.keep ((Keep.refl _ _).alloc _)).mono (H := fun i => Mine p (.slice PA n pc) i ∧ w.heap.size ≤ i ∧ i < w1.heap.size) fun i _ h => ⟨⟨by omega, fun e => by have := hpo i e; omega⟩, h⟩).keep (K2.out.mono fun i h => h.1) |>.mono fun i _ h => ⟨h.2.1, fun e => ?_⟩
    rcases M2.out i e with h1 | h1
    · have := hpo i h1; omega
    · simp at h1; omega
  · rcases M2.out g hg with h1 | h1
    · exact .inl h1
    · simp at h1; exact .inr (by omega)
  · exact (K1.out.all.alloc _).trans K2.out
end Go.Proofs.YtddmbdigdnmfgaaGreatDoor
