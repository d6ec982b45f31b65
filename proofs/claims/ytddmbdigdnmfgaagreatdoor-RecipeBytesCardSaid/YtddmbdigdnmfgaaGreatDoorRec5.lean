import Derived.Test.YtddmbdigdnmfgaaGreatDoorRec4
namespace Go.Proofs.YtddmbdigdnmfgaaGreatDoor
open Go.RowKit
set_option maxHeartbeats 800000
set_option maxRecDepth 100000

theorem own116_4 (w : World) (p used fuel at_ n base pc : Nat) (PA : Option Addr) (ov : Value) (rest xs : List Value) (on om : Int) (tA : Option Addr) (tc : Nat)
    (h : BlkB w p used fuel (.slice PA n pc) ov at_ rest) (hrow : w.ownsRow base 58 3 (.slice PA n pc) n xs) (hbase : base ≤ w.heap.size) (hpb : p < base) (hn : n < 16) (hsm : Small (used + 1)) (hf : used + 1 ≤ fuel) :
    Calls Tryz.prog 116 #[.pointer (some ⟨p, 0, none⟩), .agg #[.int .i64 4, .int .i64 on, .int .i64 om, .slice tA 0 tc]] w (PutOn w p used fuel 1 at_ n (.slice PA n pc) ov rest xs [.int .i64 4, .slice none 0 0, .slice none 0 0] base) := by
  have H := Fact.mk h
  have HROW := Fact.mk hrow
  have HSM := Fact.mk hsm
  have HPB := Fact.mk hpb
  have hlt := h.lt
  clear h hrow hsm
  go_enter Tryz.func116, Tryz.ntmps116
  go_wp2_with (first
    | (go_at_call 171; go_must (refine (put171_ok _ p used fuel 1 1 at_ n base pc 1 PA (some ⟨w.heap.size + 1, 0, none⟩) ov rest xs ⟨⟨#[]⟩, 4, none, 0, 0, none, 0, 0⟩ ((Blk.alloc H.out _).alloc _) (own_keep HROW.out (((Keep.refl All w).alloc _).alloc _) fun _ _ => trivial) (Nat.le_trans hbase (((Keep.refl All w).alloc _).alloc _).size) HPB.out hn
        ((by have := Sl.new (w.alloc (.cells #[.int .i64 4, .int .i64 on, .int .i64 om, .slice tA 0 tc] 25)) 58 3 1 [.int .i64 4, .slice none 0 0, .slice none 0 0] rfl (by decide) (by simp [Value.oneCell']); rw [World.size_alloc] at this; exact this.mono fun i _ hi => by show i ≠ p; omega)) (rightN_leaf _ _ _ _ _ _ _ _ _ kind4 (Nat.le_refl _) (Nat.le_refl _)) (stepOk_leaf _ _ _ _ _ _) HSM.out hf).mono ?_); rintro e w2 ⟨rfl, A, c, h2, hr2, hm2, hk2⟩; have H2 := Fact.mk h2; have R2 := Fact.mk hr2; have M2 := Fact.mk hm2; have K2 := Fact.mk hk2; clear h2 hr2 hm2 hk2))
  go_end0
  exact ⟨rfl, A, c, H2.out, R2.out, (M2.out.of_alloc).of_alloc, (((Keep.refl _ w).alloc _).alloc _).trans K2.out⟩
theorem own116_1 (w : World) (G : Nat → Prop) (p used fuel at_ n base pc : Nat) (PA : Option Addr) (ov : Value) (rest xs : List Value) (on om : Int) (b : List UInt8) (A0 : Option Addr) (c0 : Nat)
    (h : BlkB w p used fuel (.slice PA n pc) ov at_ rest) (hrow : w.ownsRow base 58 3 (.slice PA n pc) n xs) (hbase : base ≤ w.heap.size) (hpb : p < base) (hn : n < 16)
    (hb : By w G (.slice A0 b.length c0) b) (hs : Small b.length) (hhi : b.length ≤ 2048) (hsm : Small (used + 1)) (hf : used + 1 ≤ fuel) :
    Calls Tryz.prog 116 #[.pointer (some ⟨p, 0, none⟩), .agg #[.int .i64 1, .int .i64 on, .int .i64 om, .slice A0 b.length c0]] w (LeafOn w p used fuel at_ n (.slice PA n pc) ov rest xs 1 b base) := by
  have H := Fact.mk h
  have HROW := Fact.mk hrow
  have HB := Fact.mk hb
  have HS := Fact.mk hs
  have HSM := Fact.mk hsm
  have HPB := Fact.mk hpb
  have hlt := h.lt
  clear h hrow hsm hb hs
  go_enter Tryz.func116, Tryz.ntmps116
  go_wp2_with fail
  have hpo : ∀ g, (Value.slice PA n pc).ownBlock = some g → g < w.heap.size := fun g hg => (HROW.out.lt g hg).2
  have HPO := Fact.mk hpo
  have BX := Fact.mk (Blk.new w [.int .i64 1, .int .i64 on, .int .i64 om, .slice A0 b.length c0] 25)
  clear hpo
  obtain ⟨W, hW⟩ : ∃ W, W = w.alloc (.cells #[.int .i64 1, .int .i64 on, .int .i64 om, .slice A0 b.length c0] 25) := ⟨_, rfl⟩
  have KW : Fact (Keep All w W.drew) := ⟨hW ▸ ((Keep.refl All w).alloc _).drew⟩
  have HWS : Fact (W.drew.heap.size = w.heap.size + 1) := ⟨by rw [hW]; simp⟩
  rw [← hW]
  have BX1 : Fact (Blk W.drew w.heap.size [.int .i64 1, .int .i64 on, .int .i64 om, .slice A0 b.length c0] 25) := ⟨hW ▸ BX.out.drew⟩
  clear hW BX
  have y3 : W.cell? ⟨w.heap.size, 3, none⟩ = some (.slice A0 b.length c0) := BX1.out.cell 3 _ rfl
  go_region_held3 (fun w' => w'.cell? ⟨w.heap.size, 3, none⟩ = some (.slice A0 b.length c0)) (go_keep)
    (first
      | (go_at_call 168; refine (leaf168 W.drew G p used fuel at_ n base pc PA ov rest xs 1 0 2048 false b A0 c0 (Blk.keep H.out KW.out trivial) (own_keep HROW.out KW.out fun _ _ => trivial) (Nat.le_trans hbase KW.out.size) HPB.out hn (HB.out.keep KW.out.all) HS.out kind1 (Nat.zero_le _) hhi HSM.out hf).mono ?_; rintro e w2 ⟨rfl, A, c, A1, c1, h2, hr2, hb2, hm2, hk2⟩; have H2 := Fact.mk h2; have R2 := Fact.mk hr2; have B2 := Fact.mk hb2; have M2 := Fact.mk hm2; have K2 := Fact.mk hk2; have y3 : w2.cell? ⟨w.heap.size, 3, none⟩ = some (.slice A0 b.length c0) := (BX1.out.keep hk2 ⟨by show w.heap.size ≠ p; omega, fun e => by have := HPO.out _ e; omega⟩).cell 3 _ rfl; clear h2 hr2 hb2 hm2 hk2; dsimp only))
  go_wp2
  go_end0
  have e1 := HWS.out
  exact ⟨rfl, A, c, A1, c1, H2.out, R2.out, B2.out.mono fun i _ h => ⟨by omega, h.2⟩, fun g hg => (M2.out g hg).imp id fun h => by omega, KW.out.all.trans K2.out⟩
end Go.Proofs.YtddmbdigdnmfgaaGreatDoor
