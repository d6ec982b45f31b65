/- Walks of this seat, packed. -/
import Derived.Test.YtddmbdigdnmfgaaGreatDoorQRec5
import Derived.Laws.IdiomStrings
namespace Go.Proofs.YtddmbdigdnmfgaaGreatDoor
open Go.RowKit
set_option maxHeartbeats 800000
set_option maxRecDepth 100000

theorem by_string {w : World} {G : Nat → Prop} {v : Value} {l : List UInt8} (h : By w G v l) (hl : 0 < l.length) : (convert 23 9 v).run Tryz.prog w = .ok (.string ⟨l.toArray⟩) w := by
  obtain ⟨A, c, rfl, _, _, _, hat⟩ := h.open
  obtain ⟨b, off, rfl, _, hc⟩ := hat hl
  refine run_convert_bytes_back w 23 9 5 _ c l Tryz.underlying23 Tryz.underlying5 Tryz.underlying9 fun j hj => ?_
  rw [add_at]
  have := hc j hj
  simpa [List.getElem?_eq_getElem hj] using this

theorem told163_ok (w : World) (p used fuel cnt deep at_ n base pc : Nat) (PA : Option Addr) (ov : Value) (rest xs : List Value) (x : XN) (h : BlkB w p used fuel (.slice PA n pc) ov at_ rest)
    (hrow : w.ownsRow base 58 3 (.slice PA n pc) n xs) (hbase : base ≤ w.heap.size) (hpb : p < base) (hn : n < 16) (hR : RightN w x cnt deep) (hS : StepOk w x) (hsm : Small (used + cnt)) (hf : used + cnt ≤ fuel) :
    Calls Tryz.prog 163 #[.pointer (some ⟨p, 0, none⟩), .agg #[.int .i64 x.k, .slice x.A x.m x.c, .slice x.B x.q x.cq], .int .i64 0] w (PutOn w p used fuel cnt at_ n (.slice PA n pc) ov rest xs [.int .i64 x.k, .slice x.A x.m x.c, .slice x.B x.q x.cq] base) := by
  have H := Fact.mk h
  have HROW := Fact.mk hrow
  have HSM := Fact.mk hsm
  have HPB := Fact.mk hpb
  have HR := Fact.mk hR
  have HS := Fact.mk hS
  have hlt := h.lt
  clear h hrow hsm hR hS
  go_enter Tryz.func163, Tryz.ntmps163
  go_wp2_with (first
    | (go_at_call 111; go_must (refine (must111 _).mono ?_); rintro e v ⟨rfl, rfl⟩)
    | (go_at_call 171; go_must (refine (put171_ok _ p used fuel cnt deep at_ n base pc 1 PA (some ⟨w.heap.size + 1, 0, none⟩) ov rest xs x ((Blk.alloc H.out _).alloc _) (own_keep HROW.out (((Keep.refl All w).alloc _).alloc _) fun _ _ => trivial) (Nat.le_trans hbase (((Keep.refl All w).alloc _).alloc _).size) HPB.out hn
        (by have := Sl.new (w.alloc (.cells #[.int .i64 x.k, .slice x.A x.m x.c, .slice x.B x.q x.cq] 58)) 58 3 1 [.int .i64 x.k, .slice x.A x.m x.c, .slice x.B x.q x.cq] rfl (by decide) (by simp [Value.oneCell']); rw [World.size_alloc] at this; exact this.mono fun i _ hi => by show i ≠ p; omega) (HR.out.keep (((Keep.refl All w).alloc _).alloc _)) (HS.out.keep (((Keep.refl All w).alloc _).alloc _)) HSM.out hf).mono ?_); rintro e w2 ⟨rfl, A, c, h2, hr2, hm2, hk2⟩; have H2 := Fact.mk h2; have R2 := Fact.mk hr2; have M2 := Fact.mk hm2; have K2 := Fact.mk hk2; clear h2 hr2 hm2 hk2))
  go_end0
  exact ⟨rfl, A, c, H2.out, R2.out, (M2.out.of_alloc).of_alloc, (((Keep.refl _ w).alloc _).alloc _).trans K2.out⟩
theorem told163_out (w : World) (p used fuel cnt deep at_ n base pc : Nat) (PA : Option Addr) (ov : Value) (rest xs : List Value) (x : XN) (h : BlkB w p used fuel (.slice PA n pc) ov at_ rest)
    (hrow : w.ownsRow base 58 3 (.slice PA n pc) n xs) (hbase : base ≤ w.heap.size) (hpb : p < base) (hn : n < 16) (hR : RightN w x cnt deep) (hS : StepOk w x) (hsm : Small (used + cnt)) (hf : fuel < used + cnt) :
    Calls Tryz.prog 163 #[.pointer (some ⟨p, 0, none⟩), .agg #[.int .i64 x.k, .slice x.A x.m x.c, .slice x.B x.q x.cq], .int .i64 0] w fun e w' => e = outOfFuel ∧ BlkB w' p fuel fuel (.slice PA n pc) ov at_ rest ∧ Keep (fun i => i ≠ p) w w' := by
  have H := Fact.mk h
  have HROW := Fact.mk hrow
  have HSM := Fact.mk hsm
  have HPB := Fact.mk hpb
  have HR := Fact.mk hR
  have HS := Fact.mk hS
  have hlt := h.lt
  clear h hrow hsm hR hS
  go_enter Tryz.func163, Tryz.ntmps163
  go_wp2_with (first
    | (go_at_call 111; go_must (refine (must111 _).mono ?_); rintro e v ⟨rfl, rfl⟩)
    | (go_at_call 171; go_must (refine (put171_out _ p used fuel cnt deep at_ n base pc 1 PA (some ⟨w.heap.size + 1, 0, none⟩) ov rest xs x ((Blk.alloc H.out _).alloc _) (own_keep HROW.out (((Keep.refl All w).alloc _).alloc _) fun _ _ => trivial) (Nat.le_trans hbase (((Keep.refl All w).alloc _).alloc _).size) HPB.out hn
        (by have := Sl.new (w.alloc (.cells #[.int .i64 x.k, .slice x.A x.m x.c, .slice x.B x.q x.cq] 58)) 58 3 1 [.int .i64 x.k, .slice x.A x.m x.c, .slice x.B x.q x.cq] rfl (by decide) (by simp [Value.oneCell']); rw [World.size_alloc] at this; exact this.mono fun i _ hi => by show i ≠ p; omega) (HR.out.keep (((Keep.refl All w).alloc _).alloc _)) (HS.out.keep (((Keep.refl All w).alloc _).alloc _)) HSM.out hf).mono ?_); rintro e w2 ⟨he, h2, hk2⟩; unfold outOfFuel at he; subst he; have H2 := Fact.mk h2; have K2 := Fact.mk hk2; clear h2 hk2))
  exact ⟨rfl, rfl, H2.out, (((Keep.refl _ w).alloc _).alloc _).trans K2.out⟩

/-- A directory of one leaf lies on the pile alone. -/
def OneDir (w : World) (p used fuel at_ g : Nat) (ov : Value) (rest : List Value) (b : List UInt8) (base : Nat) (e : Ending) (w' : World) : Prop :=
  e = .returned (.tuple #[]) ∧ ∃ A c A0 c0 kb cc A3 c3, BlkB w' p (used + 2) fuel (.slice A 1 c) ov at_ rest ∧ w'.ownsRow base 58 3 (.slice A 1 c) 1 [.int .i64 4, .slice A0 0 c0, .slice (some ⟨kb, 0, none⟩) 1 cc] ∧
    KidAt w' kb 0 ⟨#[120]⟩ 1 A3 b.length c3 ∧ By w' (fun i => i ≠ p ∧ w.heap.size ≤ i) (.slice A3 b.length c3) b ∧ w.heap.size ≤ kb ∧ Keep (fun i => i ≠ p ∧ i ≠ g) w w'
theorem place113_ok (w : World) (Gt Gb : Nat → Prop) (p used fuel at_ base g pc : Nat) (ov : Value) (rest : List Value) (b : List UInt8) (A1 : Option Addr) (c1 : Nat) (tA : Option Addr) (tc : Nat)
    (h : BlkB w p used fuel (.slice (some ⟨g, 0, none⟩) 2 pc) ov at_ rest) (hrow : w.ownsRow base 58 3 (.slice (some ⟨g, 0, none⟩) 2 pc) 2 [.int .i64 4, .slice none 0 0, .slice none 0 0, .int .i64 1, .slice A1 b.length c1, .slice none 0 0])
    (hbase : base ≤ w.heap.size) (hpb : p < base) (hb : By w Gb (.slice A1 b.length c1) b) (hgb : ∀ i, Gb i → i ≠ p) (hs : Small b.length) (hhi : b.length ≤ 2048) (ht : By w Gt (.slice tA 1 tc) [120]) (hsm : Small (used + 2)) (hf : used + 2 ≤ fuel) :
    Calls Tryz.prog 113 #[.pointer (some ⟨p, 0, none⟩), .agg #[.int .i64 5, .int .i64 0, .int .i64 0, .slice tA 1 tc]] w (OneDir w p used fuel at_ g ov rest b base) := by
  have hcv := by_string (ht.keep ((Keep.refl Gt w).alloc (.cells #[.int .i64 5, .int .i64 0, .int .i64 0, .slice tA 1 tc] 25))) (by decide)
  have H := Fact.mk h
  have HROW := Fact.mk hrow
  have HB := Fact.mk hb
  have HS := Fact.mk hs
  have HSM := Fact.mk hsm
  have HPB := Fact.mk hpb
  have HGB := Fact.mk hgb
  have hlt := h.lt
  clear h hrow hsm hb hs ht hgb
  go_enter Tryz.func113, Tryz.ntmps113
  go_wp2_with (first
    | (go_at_call 162; go_must (refine (take162 _ p used fuel at_ 1 g pc base ov rest [.int .i64 4, .slice none 0 0, .slice none 0 0] ⟨⟨#[]⟩, 1, A1, b.length, c1, none, 0, 0⟩ (Blk.alloc H.out _) (own_keep HROW.out ((Keep.refl All w).alloc _) fun _ _ => trivial) rfl (by decide) HPB.out).mono ?_); rintro e w1 ⟨rfl, h1, hr1, hk1⟩; have H1 := Fact.mk h1; have R1 := Fact.mk hr1; have K1 := Fact.mk (((Keep.refl (fun i => i ≠ p) w).alloc _).trans hk1); have K1s := Fact.mk hk1.size; clear h1 hr1 hk1))
  obtain ⟨W, hW⟩ : ∃ W, W = w1.alloc (.cells #[.int .i64 1, .slice A1 b.length c1, .slice none 0 0] 58) := ⟨_, rfl⟩
  rw [← hW]
  have KW : Fact (Keep All w1 W.drew) := ⟨hW ▸ ((Keep.refl All w1).alloc _).drew⟩
  have BX : Fact (Blk W.drew w1.heap.size [.int .i64 1, .slice A1 b.length c1, .slice none 0 0] 58) := ⟨hW ▸ (Blk.new w1 [.int .i64 1, .slice A1 b.length c1, .slice none 0 0] 58).drew⟩
  clear hW
  have y0 : W.cell? ⟨w1.heap.size, 0, none⟩ = some (.int .i64 1) := BX.out.cell 0 _ rfl
  have y1 : W.cell? ⟨w1.heap.size, 1, none⟩ = some (.slice A1 b.length c1) := BX.out.cell 1 _ rfl
  have y2 : W.cell? ⟨w1.heap.size, 2, none⟩ = some (.slice none 0 0) := BX.out.cell 2 _ rfl
  have HG := Fact.mk (show g < w1.heap.size from (R1.out.lt g rfl).2)
  have HP1 := Fact.mk (show p < w1.heap.size from H1.out.lt)
  have HB1 := Fact.mk ((HB.out.mono (H := fun i => i ≠ p) fun i _ h => HGB.out i h).keep K1.out)
  go_region_held3 (fun w' => w'.cell? ⟨w1.heap.size, 0, none⟩ = some (.int .i64 1) ∧ w'.cell? ⟨w1.heap.size, 1, none⟩ = some (.slice A1 b.length c1) ∧ w'.cell? ⟨w1.heap.size, 2, none⟩ = some (.slice none 0 0)) (go_keep)
    (first
      | (go_at_call 162; refine (take162 W.drew p used fuel at_ 0 g pc base ov rest [] ⟨⟨#[]⟩, 4, none, 0, 0, none, 0, 0⟩ (Blk.keep H1.out KW.out trivial) (own_keep R1.out KW.out fun _ _ => trivial) rfl (by decide) HPB.out).mono ?_; rintro e w2 ⟨rfl, h2, hr2, hk2⟩; have H2 := Fact.mk h2; have R2 := Fact.mk hr2; have K2 := Fact.mk (KW.out.all.trans hk2); have bx := BX.out.keep hk2 (by have := HP1.out; show w1.heap.size ≠ p; omega); have BX2 := Fact.mk bx; have y0 := bx.cell 0 _ rfl; have y1 := bx.cell 1 _ rfl; have y2 := bx.cell 2 _ rfl; clear h2 hr2 hk2 bx; dsimp only)
      | (go_at_call 164; refine (put164 w2 (fun i => i ≠ p) none 0 1 0 2048 false A1 c1 b (By.nil _ _) (HB1.out.keep K2.out) HS.out kind1 (Nat.zero_le _) hhi).mono ?_; rintro e w3 ⟨A0, c0, kb, cc, A3, c3, rfl, hkid, hby, hkb, hk3⟩; have KID := Fact.mk hkid; have HB3 := Fact.mk hby; have HKB := Fact.mk hkb; have H3 := Fact.mk (Blk.keep H2.out hk3 trivial); have R3 := Fact.mk (own_keep R2.out hk3 fun _ _ => trivial); have K3 := Fact.mk (K2.out.trans hk3.all); have bx := BX2.out.keep hk3 trivial; have BX3 := Fact.mk bx; have S3 := Fact.mk hk3.size; have y0 := bx.cell 0 _ rfl; have y1 := bx.cell 1 _ rfl; have y2 := bx.cell 2 _ rfl; clear hkid hby hkb hk3 bx; dsimp only)
      | (go_at_call 163; refine (told163_ok w3 p used fuel 2 2 at_ 0 base pc (some ⟨g, 0, none⟩) ov rest [] ⟨⟨#[]⟩, 4, A0, 0, c0, some ⟨kb, 0, none⟩, 1, cc⟩ H3.out R3.out (by have := K1.out.size; have := K3.out.size; omega) HPB.out (by decide) (rightN_dir _ _ _ _ _ _ _ _ _ _ _ _ _ _ _ KID.out nameOk_x kind1 (Nat.zero_le _) hhi) (stepOk_dir _ _ _ _ _ _ _ _ _ _ _ _ _ _ KID.out) HSM.out hf).mono ?_; rintro e w4 ⟨rfl, A, c, h4, hr4, hm4, hk4⟩; have H4 := Fact.mk h4; have R4 := Fact.mk hr4; have K4 := Fact.mk hk4; have bx := BX3.out.keep hk4 ⟨by have := HP1.out; show w1.heap.size ≠ p; omega, fun e => by have h9 := HG.out; have e2 : g = w1.heap.size := Option.some.inj e; omega⟩; have y0 := bx.cell 0 _ rfl; have y1 := bx.cell 1 _ rfl; have y2 := bx.cell 2 _ rfl; clear h4 hr4 hm4 hk4 bx; dsimp only))
  all_goals
    go_wp2
    go_end0
    have hkm : Keep (fun i => i ≠ p ∧ i ≠ g) w3 w4 := K4.out.mono fun i h => ⟨h.1, fun e => h.2 (by injection e with e; exact e.symm)⟩
    have e1 := K2.out.size
    have e2 := HP1.out
    have e3 := HG.out
    have e4 : w2.heap.size ≤ kb := HKB.out
    have e5 := K1.out.size
    exact ⟨rfl, A, c, A0, c0, kb, cc, A3, c3, H4.out, R4.out, KID.out.keep hkm ⟨by omega, by omega⟩, (HB3.out.mono (H := fun i => (i ≠ p ∧ i ≠ g) ∧ i ≠ p ∧ w.heap.size ≤ i) fun i _ h => ⟨⟨by omega, by omega⟩, by omega, by omega⟩).keep (hkm.mono fun i h => h.1) |>.mono fun i _ h => h.2, by omega,
      ((K1.out.trans K3.out).mono fun i h => h.1).trans hkm⟩
end Go.Proofs.YtddmbdigdnmfgaaGreatDoor

namespace Go.Proofs.YtddmbdigdnmfgaaGreatDoor
open Go.RowKit
set_option maxHeartbeats 800000
set_option maxRecDepth 100000

def OutDir (w : World) (p fuel at_ g : Nat) (ov : Value) (rest : List Value) (e : Ending) (w' : World) : Prop := e = outOfFuel ∧ ∃ pv, BlkB w' p fuel fuel pv ov at_ rest ∧ Keep (fun i => i ≠ p ∧ i ≠ g) w w'
theorem place113_out (w : World) (Gt Gb : Nat → Prop) (p used fuel at_ base g pc : Nat) (ov : Value) (rest : List Value) (b : List UInt8) (A1 : Option Addr) (c1 : Nat) (tA : Option Addr) (tc : Nat)
    (h : BlkB w p used fuel (.slice (some ⟨g, 0, none⟩) 2 pc) ov at_ rest) (hrow : w.ownsRow base 58 3 (.slice (some ⟨g, 0, none⟩) 2 pc) 2 [.int .i64 4, .slice none 0 0, .slice none 0 0, .int .i64 1, .slice A1 b.length c1, .slice none 0 0])
    (hbase : base ≤ w.heap.size) (hpb : p < base) (hb : By w Gb (.slice A1 b.length c1) b) (hgb : ∀ i, Gb i → i ≠ p) (hs : Small b.length) (hhi : b.length ≤ 2048) (ht : By w Gt (.slice tA 1 tc) [120]) (hsm : Small (used + 2)) (hf : fuel < used + 2) :
    Calls Tryz.prog 113 #[.pointer (some ⟨p, 0, none⟩), .agg #[.int .i64 5, .int .i64 0, .int .i64 0, .slice tA 1 tc]] w (OutDir w p fuel at_ g ov rest) := by
  have hcv := by_string (ht.keep ((Keep.refl Gt w).alloc (.cells #[.int .i64 5, .int .i64 0, .int .i64 0, .slice tA 1 tc] 25))) (by decide)
  have H := Fact.mk h
  have HROW := Fact.mk hrow
  have HB := Fact.mk hb
  have HS := Fact.mk hs
  have HSM := Fact.mk hsm
  have HPB := Fact.mk hpb
  have HGB := Fact.mk hgb
  have hlt := h.lt
  clear h hrow hsm hb hs ht hgb
  go_enter Tryz.func113, Tryz.ntmps113
  go_wp2_with (first
    | (go_at_call 162; go_must (refine (take162 _ p used fuel at_ 1 g pc base ov rest [.int .i64 4, .slice none 0 0, .slice none 0 0] ⟨⟨#[]⟩, 1, A1, b.length, c1, none, 0, 0⟩ (Blk.alloc H.out _) (own_keep HROW.out ((Keep.refl All w).alloc _) fun _ _ => trivial) rfl (by decide) HPB.out).mono ?_); rintro e w1 ⟨rfl, h1, hr1, hk1⟩; have H1 := Fact.mk h1; have R1 := Fact.mk hr1; have K1 := Fact.mk (((Keep.refl (fun i => i ≠ p) w).alloc _).trans hk1); have K1s := Fact.mk hk1.size; clear h1 hr1 hk1))
  obtain ⟨W, hW⟩ : ∃ W, W = w1.alloc (.cells #[.int .i64 1, .slice A1 b.length c1, .slice none 0 0] 58) := ⟨_, rfl⟩
  rw [← hW]
  have KW : Fact (Keep All w1 W.drew) := ⟨hW ▸ ((Keep.refl All w1).alloc _).drew⟩
  have BX : Fact (Blk W.drew w1.heap.size [.int .i64 1, .slice A1 b.length c1, .slice none 0 0] 58) := ⟨hW ▸ (Blk.new w1 [.int .i64 1, .slice A1 b.length c1, .slice none 0 0] 58).drew⟩
  clear hW
  have y0 : W.cell? ⟨w1.heap.size, 0, none⟩ = some (.int .i64 1) := BX.out.cell 0 _ rfl
  have y1 : W.cell? ⟨w1.heap.size, 1, none⟩ = some (.slice A1 b.length c1) := BX.out.cell 1 _ rfl
  have y2 : W.cell? ⟨w1.heap.size, 2, none⟩ = some (.slice none 0 0) := BX.out.cell 2 _ rfl
  have HG := Fact.mk (show g < w1.heap.size from (R1.out.lt g rfl).2)
  have HP1 := Fact.mk (show p < w1.heap.size from H1.out.lt)
  have HB1 := Fact.mk ((HB.out.mono (H := fun i => i ≠ p) fun i _ h => HGB.out i h).keep K1.out)
  refine wp_region_held_drew (S := (fun w' => w'.cell? ⟨w1.heap.size, 0, none⟩ = some (.int .i64 1) ∧ w'.cell? ⟨w1.heap.size, 1, none⟩ = some (.slice A1 b.length c1) ∧ w'.cell? ⟨w1.heap.size, 2, none⟩ = some (.slice none 0 0))) (by kernel_rfl) ?_ (fun hHeld => ?_)
  · go_keep
  refine take_yes (i := 0) (v := .pointer (some ⟨p, 0, none⟩)) rfl (by kernel_rfl) (by kernel_rfl) (by kernel_rfl) (fun _ _ _ h => h) rfl (by intro w hSw; (try dsimp only at hSw); go_simp) (by assumption) ?_
  try simp only [Act.put, List.setIfInBounds_toArray, List.set_cons_zero, List.set_cons_succ]
  refine take_yes (i := 1) (v := .pointer (some ⟨p, 0, none⟩)) rfl (by kernel_rfl) (by kernel_rfl) (by kernel_rfl) (fun _ _ _ h => h) rfl (by intro w hSw; (try dsimp only at hSw); go_simp) (by assumption) ?_
  try simp only [Act.put, List.setIfInBounds_toArray, List.set_cons_zero, List.set_cons_succ]
  refine take_yes (i := 2) (v := .pointer (some ⟨p, 0, none⟩)) rfl (by kernel_rfl) (by kernel_rfl) (by kernel_rfl) (fun _ _ _ h => h) rfl (by intro w hSw; (try dsimp only at hSw); go_simp) (by assumption) ?_
  try simp only [Act.put, List.setIfInBounds_toArray, List.set_cons_zero, List.set_cons_succ]
  refine take_yes (i := 3) (v := .pointer (some ⟨p, 0, none⟩)) rfl (by kernel_rfl) (by kernel_rfl) (by kernel_rfl) (fun _ _ _ h => h) rfl (by intro w hSw; (try dsimp only at hSw); go_simp) (by assumption) ?_
  try simp only [Act.put, List.setIfInBounds_toArray, List.set_cons_zero, List.set_cons_succ]
  refine take_yes (i := 4) (v := .pointer (some ⟨p, 0, none⟩)) rfl (by kernel_rfl) (by kernel_rfl) (by kernel_rfl) (fun _ _ _ h => h) rfl (by intro w hSw; (try dsimp only at hSw); go_simp) (by assumption) ?_
  try simp only [Act.put, List.setIfInBounds_toArray, List.set_cons_zero, List.set_cons_succ]
  refine take_yes (i := 5) (v := .pointer (some ⟨p, 0, none⟩)) rfl (by kernel_rfl) (by kernel_rfl) (by kernel_rfl) (fun _ _ _ h => h) rfl (by intro w hSw; (try dsimp only at hSw); go_simp) (by assumption) ?_
  try simp only [Act.put, List.setIfInBounds_toArray, List.set_cons_zero, List.set_cons_succ]
  refine take_yes (i := 7) (v := .string ⟨#[120]⟩) rfl (by kernel_rfl) (by kernel_rfl) (by kernel_rfl) (fun _ _ _ h => h) rfl (by intro w hSw; (try dsimp only at hSw); go_simp) (by assumption) ?_
  try simp only [Act.put, List.setIfInBounds_toArray, List.set_cons_zero, List.set_cons_succ]
  refine take_yes (i := 8) (v := .agg #[.int .i64 1, .slice A1 b.length c1, .slice none 0 0]) rfl (by kernel_rfl) (by kernel_rfl) (by kernel_rfl) (fun _ _ _ h => h) rfl (by intro w hSw; (try dsimp only at hSw); go_simp) (by assumption) ?_
  try simp only [Act.put, List.setIfInBounds_toArray, List.set_cons_zero, List.set_cons_succ]
  refine wpAnyH_ready (rs := [6]) (by kernel_rfl) (by simp) ?_
  refine AllReadyH.cons rfl (fun K hK => ?_) AllReadyH.nil
  go_simp
  go_at_call 162
  refine (take162 W.drew p used fuel at_ 0 g pc base ov rest [] ⟨⟨#[]⟩, 4, none, 0, 0, none, 0, 0⟩ (Blk.keep H1.out KW.out trivial) (own_keep R1.out KW.out fun _ _ => trivial) rfl (by decide) HPB.out).mono ?_; rintro e w2 ⟨rfl, h2, hr2, hk2⟩; have H2 := Fact.mk h2; have R2 := Fact.mk hr2; have K2 := Fact.mk (KW.out.all.trans hk2); have bx := BX.out.keep hk2 (by have := HP1.out; show w1.heap.size ≠ p; omega); have BX2 := Fact.mk bx; have y0 := bx.cell 0 _ rfl; have y1 := bx.cell 1 _ rfl; have y2 := bx.cell 2 _ rfl; clear h2 hr2 hk2 bx
  dsimp only
  refine hK.out _ _ ⟨y0, y1, y2⟩ (fun hHeld => ?_)
  clear hK K
  try simp only [Act.put, List.setIfInBounds_toArray, List.set_cons_zero, List.set_cons_succ]
  refine wpAnyH_ready (rs := [9]) (by kernel_rfl) (by simp) ?_
  refine AllReadyH.cons rfl (fun K hK => ?_) AllReadyH.nil
  go_simp
  go_at_call 164
  refine (put164 w2 (fun i => i ≠ p) none 0 1 0 2048 false A1 c1 b (By.nil _ _) (HB1.out.keep K2.out) HS.out kind1 (Nat.zero_le _) hhi).mono ?_; rintro e w3 ⟨A0, c0, kb, cc, A3, c3, rfl, hkid, hby, hkb, hk3⟩; have KID := Fact.mk hkid; have HB3 := Fact.mk hby; have HKB := Fact.mk hkb; have H3 := Fact.mk (Blk.keep H2.out hk3 trivial); have R3 := Fact.mk (own_keep R2.out hk3 fun _ _ => trivial); have K3 := Fact.mk (K2.out.trans hk3.all); have bx := BX2.out.keep hk3 trivial; have BX3 := Fact.mk bx; have S3 := Fact.mk hk3.size; have y0 := bx.cell 0 _ rfl; have y1 := bx.cell 1 _ rfl; have y2 := bx.cell 2 _ rfl; clear hkid hby hkb hk3 bx
  dsimp only
  refine hK.out _ _ ⟨y0, y1, y2⟩ (fun hHeld => ?_)
  clear hK K
  try simp only [Act.put, List.setIfInBounds_toArray, List.set_cons_zero, List.set_cons_succ]
  refine take_yes (i := 10) (v := .agg #[.int .i64 4, .slice A0 0 c0, .slice (some ⟨kb, 0, none⟩) 1 cc]) rfl (by kernel_rfl) (by kernel_rfl) (by kernel_rfl) (fun _ _ _ h => h) rfl (by intro w hSw; (try dsimp only at hSw); go_simp) (by assumption) ?_
  try simp only [Act.put, List.setIfInBounds_toArray, List.set_cons_zero, List.set_cons_succ]
  refine take_yes (i := 11) (v := .int .i64 0) rfl (by kernel_rfl) (by kernel_rfl) (by kernel_rfl) (fun _ _ _ h => h) rfl (by intro w hSw; (try dsimp only at hSw); go_simp) (by assumption) ?_
  try simp only [Act.put, List.setIfInBounds_toArray, List.set_cons_zero, List.set_cons_succ]
  refine wpAnyH_ready (rs := [12]) (by kernel_rfl) (by simp) ?_
  refine AllReadyH.cons rfl (fun K hK => ?_) AllReadyH.nil
  go_simp
  go_at_call 163
  refine (told163_out w3 p used fuel 2 2 at_ 0 base pc (some ⟨g, 0, none⟩) ov rest [] ⟨⟨#[]⟩, 4, A0, 0, c0, some ⟨kb, 0, none⟩, 1, cc⟩ H3.out R3.out (by have := K1.out.size; have := K3.out.size; omega) HPB.out (by decide) (rightN_dir _ _ _ _ _ _ _ _ _ _ _ _ _ _ _ KID.out nameOk_x kind1 (Nat.zero_le _) hhi) (stepOk_dir _ _ _ _ _ _ _ _ _ _ _ _ _ _ KID.out) HSM.out hf).mono ?_; rintro e w4 ⟨he, h4, hk4⟩
  unfold outOfFuel at he
  subst he
  dsimp only
  exact ⟨rfl, rfl, .slice (some ⟨g, 0, none⟩) 0 pc, h4, ((K1.out.trans K3.out).trans hk4).mono fun i h => h.1⟩
end Go.Proofs.YtddmbdigdnmfgaaGreatDoor
