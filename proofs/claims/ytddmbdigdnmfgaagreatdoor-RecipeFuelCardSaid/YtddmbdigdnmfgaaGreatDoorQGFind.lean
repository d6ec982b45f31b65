/- tree.own, tree.Copy at any tree. -/
import Derived.Test.YtddmbdigdnmfgaaGreatDoorQRec5
import Derived.Test.YtddmbdigdnmfgaaGreatDoorQTailP
namespace Go.Proofs.YtddmbdigdnmfgaaGreatDoor
open Go.RowKit
set_option maxHeartbeats 1000000
set_option maxRecDepth 100000

/-- A tree in new memory. -/
def OwnAll (w : World) (x : PNode) (e : Ending) (w' : World) : Prop :=
  ∃ A c B d, e = .returned (.agg #[.int .i64 x.kind, .slice A x.bytes.length c, .slice B x.kids.length d]) ∧ OwnN w' w.heap.size (fun i => w.heap.size ≤ i ∧ i < w'.heap.size) x (.slice A x.bytes.length c) (.slice B x.kids.length d) ∧ Keep All w w'
def OwnAt (x : PNode) : Prop := ∀ (w : World) (G : Nat → Prop) (v : Value), NodeV w G x v → SmallN x → Calls Tryz.prog 199 #[v] w (OwnAll w x)
/-- What stands ahead of the kids: a new node, its kind, its bytes. -/
def OwnHead (w W : World) (k : Int) (b : List UInt8) (tb : Nat) (A : Option Addr) (c : Nat) (W' : World) : Prop :=
  w.heap.size + 1 < tb ∧ Blk W' tb [.int .i64 k, .slice A b.length c, .slice none 0 0] 58 ∧ By W' (fun i => w.heap.size + 1 < i ∧ i ≠ tb) (.slice A b.length c) b ∧ Keep All W W'
/-- The kids so far. -/
def OwnKids (w V : World) (k : Int) (b : List UInt8) (l : PKids) (tb : Nat) (A : Option Addr) (c j : Nat) (wr : World) : Prop :=
  ∃ B d cs, Blk wr tb [.int .i64 k, .slice A b.length c, .slice B j d] 58 ∧ wr.ownsRow w.heap.size 71 4 (.slice B j d) j cs ∧
    OwnK wr w.heap.size (fun i => V.heap.size ≤ i ∧ i < wr.heap.size ∧ (Value.slice B j d).ownBlock ≠ some i) (l.take j) cs ∧ (∀ g, (Value.slice B j d).ownBlock = some g → V.heap.size ≤ g) ∧ Keep (fun i => i ≠ tb) V wr
theorem ownAt : ∀ x, OwnAt x := by
  refine PNode.ind' ?_
  rintro k b l ih w G v ⟨A, c, B, d, rfl, hrep⟩ hsm
  simp only [PNode.kind, PNode.bytes, PNode.kids] at *
  rw [SmallN] at hsm
  obtain ⟨hbs, hls, hks⟩ := hsm
  obtain ⟨-, -, hbc, hcm, hme, hem, hby, hat⟩ := hrep.open
  simp only [PNode.kids, PNode.bytes] at hat hby
  have HAT := Fact.mk hat
  have IH := Fact.mk ih
  have H := Fact.mk hby
  have HKS := Fact.mk hks
  have HS : Fact (Small b.length) := ⟨Small.of (by omega)⟩
  clear hrep hat ih hby hks hem hcm
  go_enter Tryz.func199, Tryz.ntmps199
  go_upto_region 1 with (fail)
  have BB := Fact.mk ((Blk.new w [.int .i64 k, .slice A b.length c, .slice B l.length d] 58).alloc (.cells #[.int .i64 0, .slice none 0 0, .slice none 0 0] 58))
  have K0 := Fact.mk (((Keep.refl All w).alloc (.cells #[.int .i64 k, .slice A b.length c, .slice B l.length d] 58)).alloc (.cells #[.int .i64 0, .slice none 0 0, .slice none 0 0] 58))
  have C2 := Blk.new (w.alloc (.cells #[.int .i64 k, .slice A b.length c, .slice B l.length d] 58)) [.int .i64 0, .slice none 0 0, .slice none 0 0] 58
  rw [World.size_alloc] at C2
  have C2F := Fact.mk C2
  clear C2
  obtain ⟨W, hW⟩ : ∃ X, X = (w.alloc (.cells #[.int .i64 k, .slice A b.length c, .slice B l.length d] 58)).alloc (.cells #[.int .i64 0, .slice none 0 0, .slice none 0 0] 58) := ⟨_, rfl⟩
  have hWs : W.heap.size = w.heap.size + 1 + 1 := by rw [hW]; simp
  have WS := Fact.mk hWs
  rw [← hW] at BB K0 C2F ⊢
  have hne : W.heap.size ≠ w.heap.size := by omega
  clear hW hWs
  go_cut [3] (fun v w' => ∃ tb A1 c1, v = .pointer (some ⟨tb, 0, none⟩) ∧ OwnHead w W k b tb A1 c1 w')
  case first =>
    have y0 := BB.out.cell 0 _ rfl
    have y1 := BB.out.cell 1 _ rfl
    have B3 : Fact (Blk (W.drew.alloc (.cells #[.int .i64 0, .slice none 0 0, .slice none 0 0] 58)) W.heap.size [.int .i64 0, .slice none 0 0, .slice none 0 0] 58) := ⟨Blk.new W.drew [.int .i64 0, .slice none 0 0, .slice none 0 0] 58⟩
    go_region_held3 (fun w' => w'.cell? ⟨w.heap.size, 0, none⟩ = some (.int .i64 k) ∧ w'.cell? ⟨w.heap.size, 1, none⟩ = some (.slice A b.length c)) (go_keep)
      (first
        | (go_at_call 72; refine (clone72 _ G _ _ (H.out.keep K0.out.drew.all) HS.out).mono ?_; rintro e w1 ⟨A1, c1, rfl, hby, hk⟩; have HB := Fact.mk hby; have K1 := Fact.mk hk; have y0 := (BB.out.drew.keep hk trivial).cell 0 _ rfl; have y1 := (BB.out.drew.keep hk trivial).cell 1 _ rfl; clear hby hk)
        | (go_at_call 72; refine (clone72 _ G _ _ (H.out.keep (K0.out.drew.alloc _).all) HS.out).mono ?_; rintro e w1 ⟨A1, c1, rfl, hby, hk⟩; have HB := Fact.mk hby; have K1 := Fact.mk hk; have y0 := ((BB.out.drew.alloc _).keep hk trivial).cell 0 _ rfl; have y1 := ((BB.out.drew.alloc _).keep hk trivial).cell 1 _ rfl; have hb3 := B3.out.keep hk trivial; have D3 := Fact.mk hb3; have z0 := hb3.cell 0 _ rfl; have z1 := hb3.cell 1 _ rfl; have z2 := hb3.cell 2 _ rfl; have v0 := hb3.free 0; have v1 := hb3.free 1; have v2 := hb3.free 2; clear hby hk hb3))
    · go_wp2
      go_meet
      case rel =>
        have e1 := WS.out
        have e2 : W.heap.size ≤ w1.heap.size := K1.out.size
        exact ⟨w1.heap.size, A1, c1, rfl, by omega, Blk.new w1 [.int .i64 k, .slice A1 b.length c1, .slice none 0 0] 58,
          (HB.out.mono (H := fun i => w.heap.size + 1 < i ∧ i ≠ w1.heap.size) fun i hl hi => by simp at hi; omega).keep ((Keep.refl _ _).alloc _), ((Keep.refl All W).drew.trans K1.out).alloc _⟩
    · go_wp2
      go_meet
      case rel =>
        have e1 := WS.out
        refine ⟨W.heap.size, A1, c1, rfl, by omega, D3.out.set3 _ _ _, (HB.out.mono (H := fun i => w.heap.size + 1 < i ∧ i ≠ W.heap.size) fun i hl hi => by simp at hi; omega).set3 _ (fun i h => h.2) _ _ _, ?_⟩
        exact (((Keep.refl All W).drew.alloc _).trans K1.out).set3 _ (.inl (Nat.le_refl _)) _ _ _
  case rest =>
    obtain ⟨tb, A1, c1, rfl, htb, hblk, hby, hkp⟩ := hcut
    have HBLK := Fact.mk hblk
    have HBY : Fact (By wc (fun i => w.heap.size + 1 < i ∧ i ≠ tb ∧ i < wc.heap.size) (.slice A1 b.length c1) b) := ⟨hby.mono fun i hl hi => ⟨hi.1, hi.2, hl⟩⟩
    have HKP := Fact.mk (K0.out.trans hkp)
    have n2 := (BB.out.keep hkp trivial).cell 2 _ rfl
    have C2W := Fact.mk (C2F.out.keep hkp trivial)
    have htl : tb < wc.heap.size := hblk.lt
    have hlb : l.length ≤ 9223372036854775807 := by omega
    clear hblk hby hkp C2F K0 BB WS hne
    go_wp2
    go_loopg [15] l.length (fun g i wr => ∃ j, j + g = l.length ∧ i = .int .i64 j ∧ OwnKids w wc k b l tb A1 c1 j wr)
    case atStart => exact ⟨0, by omega, rfl, none, 0, [], HBLK.out, World.ownsRow_nil _ _ _ _, by rw [List.take_zero, OwnK], (fun g h => by cases h), Keep.refl _ _⟩
    case round =>
      obtain ⟨j, hj, rfl, B2, d2, cs, hbk, hrow, hok, hrb, hkr⟩ := hrel
      have HJ := Fact.mk hj
      have HBK := Fact.mk hbk
      have HROW := Fact.mk hrow
      have HOK := Fact.mk hok
      have HRB := Fact.mk hrb
      have HKR := Fact.mk hkr
      have KWR : Fact (Keep All w wr) := ⟨HKP.out.then_ hkr fun i hi _ => by omega⟩
      have hws : wc.heap.size ≤ wr.heap.size := hkr.size
      clear hj hbk hrow hok hrb hkr
      by_cases hlt : j < l.length
      · obtain ⟨g, off, vb, vk, rfl, hg, a0, a1, a2, a3, hr1⟩ := HAT.out j hlt
        obtain ⟨P1, n1, Q1, m1, rfl, rfl⟩ := hr1.forms
        have e0 := KWR.out.cell (p := ⟨g, off + j * 4, none⟩) trivial a0
        have e1 := KWR.out.cell (p := ⟨g, off + j * 4 + 1, none⟩) trivial a1
        have e2 := KWR.out.cell (p := ⟨g, off + j * 4 + 2, none⟩) trivial a2
        have e3 := KWR.out.cell (p := ⟨g, off + j * 4 + 3, none⟩) trivial a3
        have HR1 := Fact.mk hr1
        clear a0 a1 a2 a3 hr1
        go_upto_region 5 with (fail)
        obtain ⟨X, hX⟩ : ∃ X, X = wr.alloc (.cells #[.string l[j].1, .int .i64 l[j].2.kind, .slice P1 l[j].2.bytes.length n1, .slice Q1 l[j].2.kids.length m1] 71) := ⟨_, rfl⟩
        rw [← hX]
        have XB : Fact (Blk X wr.heap.size [.string l[j].1, .int .i64 l[j].2.kind, .slice P1 l[j].2.bytes.length n1, .slice Q1 l[j].2.kids.length m1] 71) := ⟨hX ▸ Blk.new wr _ 71⟩
        have KX : Fact (Keep All wr X) := ⟨hX ▸ (Keep.refl _ _).alloc _⟩
        have HXs : Fact (X.heap.size = wr.heap.size + 1) := ⟨by rw [hX]; simp⟩
        clear hX e0 e1 e2 e3 n2
        have b2 := (HBK.out.keep KX.out trivial).cell 2 _ rfl
        have f0 := XB.out.cell 0 _ rfl
        have f1 := XB.out.cell 1 _ rfl
        have f2 := XB.out.cell 2 _ rfl
        have f3 := XB.out.cell 3 _ rfl
        have hne : tb ≠ wr.heap.size := by omega
        have HC := Fact.mk (IH.out _ (List.getElem_mem hlt) X.drew G _ ⟨P1, n1, Q1, m1, rfl, HR1.out.keep (KWR.out.trans KX.out).drew.all⟩ (HKS.out.get j hlt))
        refine wp_region_T 11 (fun w' => w'.cell? ⟨tb, 2, none⟩ = some (.slice B2 j d2) ∧ w'.cell? ⟨wr.heap.size, 0, none⟩ = some (.string l[j].1) ∧ w'.cell? ⟨wr.heap.size, 1, none⟩ = some (.int .i64 l[j].2.kind) ∧ w'.cell? ⟨wr.heap.size, 2, none⟩ = some (.slice P1 l[j].2.bytes.length n1) ∧ w'.cell? ⟨wr.heap.size, 3, none⟩ = some (.slice Q1 l[j].2.kids.length m1)) (by kernel_rfl) (by go_keep) (fun hHeld => ?_)
        refine takeT (i := 0) (v := ?_) rfl (by kernel_rfl) (by kernel_rfl) (by kernel_rfl) (by kernel_rfl) (fun _ _ _ h => h) rfl ?_ (by assumption) ?_
        rotate_left
        · (intro w hSw; (try dsimp only at hSw); go_simp; try with_reducible rfl)
        try simp only [Act.put, List.setIfInBounds_toArray, List.set_cons_zero, List.set_cons_succ]
        refine takeT (i := 1) (v := ?_) rfl (by kernel_rfl) (by kernel_rfl) (by kernel_rfl) (by kernel_rfl) (fun _ _ _ h => h) rfl ?_ (by assumption) ?_
        rotate_left
        · (intro w hSw; (try dsimp only at hSw); go_simp; try with_reducible rfl)
        try simp only [Act.put, List.setIfInBounds_toArray, List.set_cons_zero, List.set_cons_succ]
        refine takeT (i := 2) (v := ?_) rfl (by kernel_rfl) (by kernel_rfl) (by kernel_rfl) (by kernel_rfl) (fun _ _ _ h => h) rfl ?_ (by assumption) ?_
        rotate_left
        · (intro w hSw; (try dsimp only at hSw); go_simp; try with_reducible rfl)
        try simp only [Act.put, List.setIfInBounds_toArray, List.set_cons_zero, List.set_cons_succ]
        refine takeT (i := 3) (v := ?_) rfl (by kernel_rfl) (by kernel_rfl) (by kernel_rfl) (by kernel_rfl) (fun _ _ _ h => h) rfl ?_ (by assumption) ?_
        rotate_left
        · (intro w hSw; (try dsimp only at hSw); go_simp; try with_reducible rfl)
        try simp only [Act.put, List.setIfInBounds_toArray, List.set_cons_zero, List.set_cons_succ]
        refine takeT (i := 4) (v := ?_) rfl (by kernel_rfl) (by kernel_rfl) (by kernel_rfl) (by kernel_rfl) (fun _ _ _ h => h) rfl ?_ (by assumption) ?_
        rotate_left
        · (intro w hSw; (try dsimp only at hSw); go_simp; try with_reducible rfl)
        try simp only [Act.put, List.setIfInBounds_toArray, List.set_cons_zero, List.set_cons_succ]
        refine takeT (i := 5) (v := ?_) rfl (by kernel_rfl) (by kernel_rfl) (by kernel_rfl) (by kernel_rfl) (fun _ _ _ h => h) rfl ?_ (by assumption) ?_
        rotate_left
        · (intro w hSw; (try dsimp only at hSw); go_simp; try with_reducible rfl)
        try simp only [Act.put, List.setIfInBounds_toArray, List.set_cons_zero, List.set_cons_succ]
        refine nextT (i := 6) (by kernel_rfl) rfl (fun K hK => ?_)
        go_simp
        refine HC.out.mono ?_
        rintro e w1 ⟨P2, n2, Q2, m2, rfl, ho, hk⟩
        have HO := Fact.mk ho
        have HK1 := Fact.mk hk
        have K1 := Fact.mk (KX.out.drew.trans hk)
        have HROW1 := Fact.mk (own_keep HROW.out K1.out fun _ _ => trivial)
        have BK1 := Fact.mk (HBK.out.keep K1.out trivial)
        have b2 := BK1.out.cell 2 _ rfl
        have xb := XB.out.drew.keep hk trivial
        have f0 := xb.cell 0 _ rfl
        have f1 := xb.cell 1 _ rfl
        have f2 := xb.cell 2 _ rfl
        have f3 := xb.cell 3 _ rfl
        have ob1 := Fact.mk ho.rep.2
        have hs1 : tb < w1.heap.size := (BK1.out).lt
        have hs3 : wr.heap.size < w1.heap.size := xb.lt
        have XB1 := Fact.mk xb
        clear ho hk xb hHeld
        refine hK.out _ _ (by exact ⟨b2, f0, f1, f2, f3⟩) (fun hHeld => ?_)
        clear hK K
        try simp only [Act.put, List.setIfInBounds_toArray, List.set_cons_zero, List.set_cons_succ]
        refine takeT (i := 7) (v := ?_) rfl (by kernel_rfl) (by kernel_rfl) (by kernel_rfl) (by kernel_rfl) (fun _ _ _ h => h) rfl ?_ (by assumption) ?_
        rotate_left
        · (intro w hSw; (try dsimp only at hSw); go_simp; try with_reducible rfl)
        try simp only [Act.put, List.setIfInBounds_toArray, List.set_cons_zero, List.set_cons_succ]
        refine nextT (i := 8) (by kernel_rfl) rfl (fun K hK => ?_)
        go_simp
        refine hK.out _ _ (by go_keep) (fun hHeld => ?_)
        clear hK K
        try simp only [Act.put, List.setIfInBounds_toArray, List.set_cons_zero, List.set_cons_succ]
        refine nextT (i := 9) (by kernel_rfl) rfl (fun K hK => ?_)
        rw [if_pos (show Region.wanted _ _ = true by simp [Region.wanted])]
        refine wp_ap (.tmp 20) (.tmp 27) 56 71 4 72 w.heap.size j 1 (HROW1.out.alloc _) (Sl.new w1 71 4 1 [.string l[j].1, .int .i64 l[j].2.kind, .slice P2 l[j].2.bytes.length n2, .slice Q2 l[j].2.kids.length m2] rfl (by decide) (one4 _ _ _ _ ob1.out.1 ob1.out.2)) rfl T56 rfl rfl (Fits.of (n := j) (m := 1) (Small.of (by omega)) 72 (by decide)) (alloc_le (Nat.le_trans KWR.out.size K1.out.size)) ?_
        intro v' w2 ho hg hb
        obtain ⟨B3, d3, rfl⟩ := own_form ho
        have HO2 := Fact.mk ho
        have HG2 := Fact.mk hg
        have HB2 := Fact.mk hb
        have hnt : (Value.slice B2 j d2).ownBlock ≠ some tb := fun e => by have := HRB.out tb e; omega
        have BK2 := Fact.mk ((BK1.out.alloc (.cells #[.string l[j].1, .int .i64 l[j].2.kind, .slice P2 l[j].2.bytes.length n2, .slice Q2 l[j].2.kids.length m2] 71)).grown hg hnt)
        have b2' := BK2.out.cell 2 _ rfl
        have fb2 := BK2.out.free 2
        have xb := (XB1.out.alloc (.cells #[.string l[j].1, .int .i64 l[j].2.kind, .slice P2 l[j].2.bytes.length n2, .slice Q2 l[j].2.kids.length m2] 71)).grown hg (fun e => by have := (HROW.out.lt _ e).2; omega)
        have S2 := Fact.mk (And.intro (xb.cell 0 _ rfl) (And.intro (xb.cell 1 _ rfl) (And.intro (xb.cell 2 _ rfl) (xb.cell 3 _ rfl))))
        clear ho hg hb xb hnt hHeld b2 f0 f1 f2 f3
        refine hK.out _ _ (by exact ⟨b2', S2.out.1, S2.out.2.1, S2.out.2.2.1, S2.out.2.2.2⟩) (fun hHeld => ?_)
        clear hK K
        try simp only [Act.put, List.setIfInBounds_toArray, List.set_cons_zero, List.set_cons_succ]
        refine takeT (i := 10) (v := ?_) rfl (by kernel_rfl) (by kernel_rfl) (by kernel_rfl) (by kernel_rfl) (fun _ _ _ h => h) rfl ?_ (by assumption) ?_
        rotate_left
        · (intro w hSw; (try dsimp only at hSw); go_simp; try with_reducible rfl)
        try simp only [Act.put, List.setIfInBounds_toArray, List.set_cons_zero, List.set_cons_succ]
        refine lastT (by kernel_rfl) (by kernel_rfl) rfl (fun K hK => ?_)
        have b2 := b2'
        clear b2' hHeld
        go_simp
        refine hK.out _ _ ?_
        clear hK K
        try simp only [Act.put, List.setIfInBounds_toArray, List.set_cons_zero, List.set_cons_succ]
        clear b2 fb2
        go_wp2
        go_roundg (gk - 1)
        case measure => have := HJ.out; omega
        case rel =>
          refine ⟨j + 1, by have := HJ.out; omega, by go_num, B3, d3, cs ++ [.string l[j].1, .int .i64 l[j].2.kind, .slice P2 l[j].2.bytes.length n2, .slice Q2 l[j].2.kids.length m2], BK2.out.set 2 _, ?_, ?_, ?_, ?_⟩
          · exact own_keep HO2.out ((Keep.refl (fun i => i ≠ tb) w2).setCell (p := ⟨tb, 2, none⟩) (.inr fun h => h rfl) _) fun g' hg' => by
              rcases HB2.out with h | h
              · rw [h] at hg'
                have := HRB.out g' hg'
                omega
              · rw [h] at hg'
                simp at hg'
                omega
          · have hse := HXs.out
            have hx1 : X.heap.size ≤ w1.heap.size := (HK1.out).size
            have k2 : Keep (fun i => i ≠ tb ∧ (Value.slice B2 j d2).ownBlock ≠ some i) w1 (w2.setCell ⟨tb, 2, none⟩ (.slice B3 (j + 1) d3)) :=
              (((Keep.refl _ w1).alloc _).grown HG2.out (fun q hq => .inr fun h => h.2 hq)).setCell (p := ⟨tb, 2, none⟩) (.inr fun h => h.1 rfl) _
            have hsz : w1.heap.size + 1 ≤ (w2.setCell ⟨tb, 2, none⟩ (.slice B3 (j + 1) d3)).heap.size := by
              have := HG2.out.size
              simp [World.setCell] at this ⊢
              exact this
            rw [List.take_succ_eq_append_getElem hlt]
            refine OwnK.mono (F := fun i => (wc.heap.size ≤ i ∧ i < wr.heap.size ∧ (Value.slice B2 j d2).ownBlock ≠ some i) ∨ (X.drew.heap.size ≤ i ∧ i < w1.heap.size)) (fun i hi => ?_) (OwnK.snoc (OwnN.keep k2 (fun i hi => ?_) (HO.out.based (KWR.out.trans KX.out).size)) (OwnK.keep k2 (fun i hi => ⟨by omega, hi.2.2⟩) (OwnK.keep K1.out (fun _ _ => trivial) HOK.out)) (fun i hi hf => ?_))
            · have hnb : (Value.slice B3 (j + 1) d3).ownBlock ≠ some i := fun e => by
                rcases HB2.out with h | h
                · rw [h] at e
                  rcases hi with hi | hi
                  · exact hi.2.2 e
                  · have := (HROW.out.lt i e).2
                    simp at hi
                    omega
                · rw [h] at e
                  simp at e
                  rcases hi with hi | hi <;> omega
              refine ⟨?_, ?_, hnb⟩
              · rcases hi with hi | hi
                · omega
                · simp at hi; omega
              · rcases hi with hi | hi <;> omega
            · simp at hi
              exact ⟨by omega, fun e => by have := (HROW.out.lt i e).2; omega⟩
            · simp at hi
              omega
          · intro g' hg'
            rcases HB2.out with h | h
            · rw [h] at hg'; exact HRB.out g' hg'
            · rw [h] at hg'
              simp at hg'
              omega
          · exact HKR.out.then_ ((((K1.out.mono fun _ _ => trivial).alloc _).grown HG2.out (fun q hq => .inr fun h => h.2 hq)).setCell (p := ⟨tb, 2, none⟩) (.inr fun h => h.1 rfl) _ : Keep (fun i => i ≠ tb ∧ (Value.slice B2 j d2).ownBlock ≠ some i) wr _) fun i hi hne => ⟨hne, fun e => by have := HRB.out i e; omega⟩
      · obtain rfl : j = l.length := by have := HJ.out; omega
        have c2w := C2W.out.keep HKR.out (by show w.heap.size + 1 ≠ tb; omega)
        have C2R := Fact.mk c2w
        have t0 := HBK.out.cell 0 _ rfl
        have t1 := HBK.out.cell 1 _ rfl
        have t2 := HBK.out.cell 2 _ rfl
        have s0 := c2w.cell 0 _ rfl
        have s1 := c2w.cell 1 _ rfl
        have s2 := c2w.cell 2 _ rfl
        have r0 := c2w.free 0
        have r1 := c2w.free 1
        have r2 := c2w.free 2
        have hne : w.heap.size + 1 ≠ tb := by omega
        clear c2w n2
        go_wp2
        refine bodyPost_ret (results_58 rfl _ _ (w.heap.size + 1) _ _ _ rfl (C2R.out.set3 _ _ _)) rfl ?_
        have hk : Keep (fun i => i ≠ w.heap.size + 1) wr (set3 wr (w.heap.size + 1) (.int .i64 k) (.slice A1 b.length c1) (.slice B2 l.length d2)) := (Keep.refl _ wr).set3 _ (.inr fun h => h rfl) _ _ _
        have hsz : (set3 wr (w.heap.size + 1) (.int .i64 k) (.slice A1 b.length c1) (.slice B2 l.length d2)).heap.size = wr.heap.size := by simp [set3, World.setCell]
        refine ⟨A1, c1, B2, d2, rfl, ?_, KWR.out.set3 _ (.inl (by omega)) _ _ _⟩
        rw [← set3, hsz, OwnN]
        have hok := HOK.out
        rw [List.take_length] at hok
        refine ⟨fun i => w.heap.size + 1 < i ∧ i ≠ tb ∧ i < wc.heap.size, _, (HBY.out.keep (HKR.out.mono fun i hi => hi.2.1)).keep (hk.mono fun i hi => by omega), cs,
          own_keep HROW.out hk (fun g hg => by have := HRB.out g hg; omega), OwnK.keep hk (fun i hi => by omega) hok, fun i hi => ⟨by omega, by omega, fun e => by have := HRB.out i e; omega⟩,
          fun i hi => ⟨by omega, hi.2.2⟩, fun g hg => ⟨(HROW.out.lt g hg).1, (HROW.out.lt g hg).2⟩⟩
theorem NodeV.keep {w w' : World} {G : Nat → Prop} {x : PNode} {v : Value} (h : NodeV w G x v) (k : Keep G w w') : NodeV w' G x v := by
  obtain ⟨A, c, B, d, rfl, h⟩ := h
  exact ⟨A, c, B, d, rfl, h.keep k⟩
theorem NodeV.mono {w : World} {G H : Nat → Prop} {x : PNode} {v : Value} (h : NodeV w G x v) (hi : ∀ i, i < w.heap.size → G i → H i) : NodeV w H x v := by
  obtain ⟨A, c, B, d, rfl, h⟩ := h
  exact ⟨A, c, B, d, rfl, h.mono hi⟩
/-- What Copy answers. -/
noncomputable def copyP (x : PNode) : PNode := if rightP x = true then x else .mk 0 [] []
theorem nodeV_zero (w : World) (G : Nat → Prop) : NodeV w G (.mk 0 [] []) (.agg #[.int .i64 0, .slice none 0 0, .slice none 0 0]) :=
  ⟨none, 0, none, 0, rfl, by rw [RepN]; exact ⟨By.nil _ _, [], Sl.nil _ _ _, by rw [RepK]⟩⟩
def NewNode (w : World) (x : PNode) (e : Ending) (w' : World) : Prop := ∃ v, e = .returned v ∧ NodeV w' (fun i => w.heap.size ≤ i) x v ∧ Keep All w w'
theorem OwnAll.new {w w' : World} {x : PNode} {e : Ending} (h : OwnAll w x e w') : NewNode w x e w' := by
  obtain ⟨A, c, B, d, rfl, h1, h2⟩ := h
  exact ⟨_, rfl, ⟨A, c, B, d, rfl, h1.rep.1.mono fun i _ hi => hi.1⟩, h2⟩
theorem copy172 (w : World) (G : Nat → Prop) (x : PNode) (v : Value) (h : NodeV w G x v) : Calls Tryz.prog 172 #[v] w (NewNode w (copyP x)) := by
  have HV := Fact.mk h
  obtain ⟨A, c, B, d, rfl, hrep⟩ := h
  obtain ⟨W, hW⟩ : ∃ X, X = (w.alloc (.cells #[.int .i64 x.kind, .slice A x.bytes.length c, .slice B x.kids.length d] 58)).alloc (.cells #[.int .i64 0, .slice none 0 0, .slice none 0 0] 58) := ⟨_, rfl⟩
  have KW : Fact (Keep All w W) := ⟨hW ▸ ((Keep.refl All w).alloc _).alloc _⟩
  have B1 : Fact (Blk W w.heap.size [.int .i64 x.kind, .slice A x.bytes.length c, .slice B x.kids.length d] 58) := ⟨hW ▸ (Blk.new w [.int .i64 x.kind, .slice A x.bytes.length c, .slice B x.kids.length d] 58).alloc _⟩
  have B2 : Fact (Blk W (w.heap.size + 1) [.int .i64 0, .slice none 0 0, .slice none 0 0] 58) := ⟨by
    have := Blk.new (w.alloc (.cells #[.int .i64 x.kind, .slice A x.bytes.length c, .slice B x.kids.length d] 58)) [.int .i64 0, .slice none 0 0, .slice none 0 0] 58
    rw [World.size_alloc] at this
    rw [hW]; exact this⟩
  have HW := Fact.mk hW
  obtain ⟨q, hq⟩ : ∃ q, q = rightP x := ⟨_, rfl⟩
  have HQ := Fact.mk hq
  have C29 : Fact (Calls Tryz.prog 29 #[.agg #[.int .i64 x.kind, .slice A x.bytes.length c, .slice B x.kids.length d]] W fun e w' => e = .returned (.bool q) ∧ Keep All W w') := ⟨hq ▸ right29g W G x _ (HV.out.keep KW.out.all)⟩
  clear hrep hW hq
  have b0 := B1.out.cell 0 _ rfl
  have b1 := B1.out.cell 1 _ rfl
  have b2 := B1.out.cell 2 _ rfl
  go_enter Tryz.func172, Tryz.ntmps172
  go_upto_region 1 with (fail)
  rw [← HW.out]
  cases q with
  | false =>
    go_wp2_with (go_at_call 29; go_must (refine (C29.out).mono ?_); rintro e w1 ⟨rfl, hk⟩; have K1 := Fact.mk hk; have d2 := B2.out.keep hk trivial; have D2 := Fact.mk d2; have c0 := d2.cell 0 _ rfl; have c1 := d2.cell 1 _ rfl; have c2 := d2.cell 2 _ rfl; have f0 := d2.free 0; have f1 := d2.free 1; have f2 := d2.free 2; clear hk d2)
    refine bodyPost_ret (results_58 rfl _ _ (w.heap.size + 1) _ _ _ rfl (D2.out.set3 _ _ _)) rfl ?_
    refine ⟨_, rfl, ?_, (KW.out.trans K1.out).set3 _ (.inl (by omega)) _ _ _⟩
    rw [copyP, if_neg (by rw [← HQ.out]; simp)]
    exact nodeV_zero _ _
  | true =>
    have hsm := rightP_small HQ.out.symm
    have HSM := Fact.mk hsm
    clear hsm
    have hX : copyP x = x := by rw [copyP, if_pos HQ.out.symm]
    have HX := Fact.mk hX
    clear hX
    go_wp2_with (first
      | (go_at_call 29; go_must (refine (C29.out).mono ?_); rintro e w1 ⟨rfl, hk⟩; have K1 := Fact.mk hk; have d1 := B1.out.keep hk trivial; have c0 := d1.cell 0 _ rfl; have c1 := d1.cell 1 _ rfl; have c2 := d1.cell 2 _ rfl; clear hk d1 b0 b1 b2)
      | (go_at_call 199; go_must (refine (ownAt x w1 G _ (HV.out.keep (KW.out.trans K1.out).all) HSM.out).mono ?_); rintro e w2 ⟨P, p, Q, q, rfl, ho, hk⟩; have HO := Fact.mk (ho.rep.1.mono (H := fun i => w1.heap.size ≤ i) fun i _ hi => hi.1); have K2 := Fact.mk (K1.out.trans hk); have d2 := B2.out.keep K2.out trivial; have D2 := Fact.mk d2; have z0 := d2.cell 0 _ rfl; have z1 := d2.cell 1 _ rfl; have z2 := d2.cell 2 _ rfl; have f0 := d2.free 0; have f1 := d2.free 1; have f2 := d2.free 2; clear hk d2 ho c0 c1 c2))
    have hs1 : w.heap.size + 1 < W.heap.size := B2.out.lt
    have hs2 : W.heap.size ≤ w1.heap.size := K1.out.size
    refine bodyPost_ret (results_58 rfl _ _ (w.heap.size + 1) _ _ _ rfl ((D2.out.set3 _ _ _).set3 _ _ _)) rfl ?_
    have hk : Keep (fun i => i ≠ w.heap.size + 1) w2 (set3 (set3 w2 (w.heap.size + 1) (.int .i64 x.kind) (.slice P x.bytes.length p) (.slice Q x.kids.length q)) (w.heap.size + 1) (.int .i64 x.kind) (.slice P x.bytes.length p) (.slice Q x.kids.length q)) := ((Keep.refl _ w2).set3 _ (.inr fun h => h rfl) _ _ _).set3 _ (.inr fun h => h rfl) _ _ _
    refine ⟨_, rfl, ?_, ((KW.out.trans K2.out).set3 _ (.inl (by omega)) _ _ _).set3 _ (.inl (by omega)) _ _ _⟩
    rw [HX.out]
    exact ⟨P, p, Q, q, rfl, ((HO.out.mono (H := fun i => i ≠ w.heap.size + 1 ∧ w.heap.size ≤ i) fun i _ hi => by omega).keep (hk.mono fun i hi => hi.1)).mono fun i _ hi => hi.2⟩
end Go.Proofs.YtddmbdigdnmfgaaGreatDoor

/- tree.find at any tree: a binary search among the kids' names. -/
namespace Go.Proofs.YtddmbdigdnmfgaaGreatDoor
open Go.RowKit
set_option maxHeartbeats 1000000
set_option maxRecDepth 100000

/-- How two names stand. -/
def cmpS (a b : ByteArray) : Int := Lib.compareBytes a.data.toList b.data.toList
def nameAt (l : PKids) (k : Nat) : ByteArray := ((l[k]?).map Prod.fst).getD ⟨#[]⟩
/-- Where a name is, or should be, between i and j. -/
def binP (l : PKids) (s : ByteArray) (i j : Nat) : Nat :=
  if i < j then if cmpS (nameAt l ((i + j) / 2)) s < 0 then binP l s ((i + j) / 2 + 1) j else binP l s i ((i + j) / 2) else i
termination_by j - i
theorem binP_le (l : PKids) (s : ByteArray) : ∀ (n i j : Nat), j - i ≤ n → i ≤ j → i ≤ binP l s i j ∧ binP l s i j ≤ j
  | 0, i, j, h, hij => by rw [binP, if_neg (by omega)]; omega
  | n + 1, i, j, h, hij => by
    rw [binP]
    split
    · split
      · have := binP_le l s n ((i + j) / 2 + 1) j (by omega) (by omega); omega
      · have := binP_le l s n i ((i + j) / 2) (by omega) (by omega); omega
    · omega
def findI (l : PKids) (s : ByteArray) : Nat := binP l s 0 l.length
def findB (l : PKids) (s : ByteArray) : Bool := decide (findI l s < l.length) && (cmpS (nameAt l (findI l s)) s == 0)
theorem findI_le (l : PKids) (s : ByteArray) : findI l s ≤ l.length := (binP_le l s _ 0 l.length (Nat.le_refl _) (Nat.zero_le _)).2
theorem findB_lt {l : PKids} {s : ByteArray} (h : findB l s = true) : findI l s < l.length := by
  unfold findB at h
  rw [Bool.and_eq_true] at h
  exact of_decide_eq_true h.1
theorem cmp224 (w : World) (s t : ByteArray) (k : Int) (A B : Option Addr) (n c m d : Nat) :
    Calls Tryz.prog 224 #[.agg #[.string t, .int .i64 k, .slice A n c, .slice B m d], .string s] w fun e w' => e = .returned (.int .i64 (cmpS t s)) ∧ Keep All w w' := by
  obtain ⟨q, hq⟩ : ∃ q, q = cmpS t s := ⟨_, rfl⟩
  have HC : Fact (∀ w, Calls Tryz.prog 225 #[.string t, .string s] w fun e w' => e = .returned (.int .i64 q) ∧ w' = w) := ⟨fun w => hq ▸ Tryz.strings_Compare t s w⟩
  rw [← hq]
  clear hq
  go_enter Tryz.func224, Tryz.ntmps224
  go_wp2_with (go_at_call 225; go_must (refine (HC.out _).mono ?_); rintro e w1 ⟨rfl, rfl⟩)
  go_ret
  exact ⟨rfl, (Keep.refl _ _).alloc _⟩
theorem bin223g (w : World) (G : Nat → Prop) (x : PNode) (A B : Option Addr) (n c d : Nat) (s : ByteArray) (h : RepN w G x (.slice A n c) (.slice B x.kids.length d)) (hn : x.kids.length ≤ 1000) :
    Calls Tryz.prog 223 #[.slice B x.kids.length d, .string s, .func (.func 224) #[] #[]] w fun e w' => e = .returned (.tuple #[.int .i64 (findI x.kids s), .bool (findB x.kids s)]) ∧ Keep All w w' := by
  obtain ⟨-, -, -, -, hmd, hd, -, hat⟩ := h.open
  have HAT := Fact.mk hat
  clear h hat hd
  go_enter Tryz.func223, Tryz.ntmps223
  go_wp2
  go_loopg [9, 10] x.kids.length (fun g vi vj w' => ∃ i j, i + g = j ∧ j ≤ x.kids.length ∧ vi = .int .i64 i ∧ vj = .int .i64 j ∧ binP x.kids s i j = findI x.kids s ∧ Keep All w w')
  case atStart => exact ⟨0, x.kids.length, by omega, Nat.le_refl _, rfl, rfl, rfl, Keep.refl _ _⟩
  case round =>
    obtain ⟨i, j, hg, hj, rfl, rfl, hb, hkp⟩ := hrel
    have HG := Fact.mk hg
    have HB := Fact.mk hb
    have HKP := Fact.mk hkp
    clear hg hb hkp
    by_cases hlt : i < j
    · obtain ⟨h, hh⟩ : ∃ h, h = (i + j) / 2 := ⟨_, rfl⟩
      have e : ((i : Int) + j) / 2 = h := by omega
      have hhl : h < x.kids.length := by omega
      have hi1 : i ≤ h := by omega
      have hj1 : h < j := by omega
      obtain ⟨g, off, vb, vk, rfl, -, a0, a1, a2, a3, hr1⟩ := HAT.out h hhl
      obtain ⟨P1, n1, Q1, m1, rfl, rfl⟩ := hr1.forms
      have e0 := HKP.out.cell (p := ⟨g, off + h * 4, none⟩) trivial a0
      have e1 := HKP.out.cell (p := ⟨g, off + h * 4 + 1, none⟩) trivial a1
      have e2 := HKP.out.cell (p := ⟨g, off + h * 4 + 2, none⟩) trivial a2
      have e3 := HKP.out.cell (p := ⟨g, off + h * 4 + 3, none⟩) trivial a3
      obtain ⟨q, hq⟩ : ∃ q, q = cmpS x.kids[h].1 s := ⟨_, rfl⟩
      have HC : Fact (∀ w, Calls Tryz.prog 224 #[.agg #[.string x.kids[h].1, .int .i64 x.kids[h].2.kind, .slice P1 x.kids[h].2.bytes.length n1, .slice Q1 x.kids[h].2.kids.length m1], .string s] w fun e w' => e = .returned (.int .i64 q) ∧ Keep All w w') := ⟨fun w => hq ▸ cmp224 w s _ _ _ _ _ _ _ _⟩
      have HS : Fact (binP x.kids s i j = if q < 0 then binP x.kids s (h + 1) j else binP x.kids s i h) := ⟨by rw [binP, if_pos hlt, ← hh, nameAt, List.getElem?_eq_getElem hhl, hq]; rfl⟩
      have HH := Fact.mk hh
      clear a0 a1 a2 a3 hr1 hq hh
      by_cases hz : q < 0
      · go_wp2_with (go_at_call 224; go_must (refine (HC.out _).mono ?_); rintro e w1 ⟨rfl, hk⟩; have K1 := Fact.mk (HKP.out.trans hk); clear hk)
        go_roundg (j - (h + 1))
        case measure => have := HG.out; omega
        case rel => exact ⟨h + 1, j, by omega, by omega, by go_num, rfl, by rw [← HB.out, HS.out, if_pos hz], K1.out⟩
      · go_wp2_with (go_at_call 224; go_must (refine (HC.out _).mono ?_); rintro e w1 ⟨rfl, hk⟩; have K1 := Fact.mk (HKP.out.trans hk); clear hk)
        go_roundg (h - i)
        case measure => have := HG.out; omega
        case rel => exact ⟨i, h, by omega, by omega, rfl, rfl, by rw [← HB.out, HS.out, if_neg (by omega)], K1.out⟩
    · obtain rfl : i = j := by have := HG.out; omega
      have HF : Fact (findI x.kids s = i) := ⟨by rw [← HB.out, binP, if_neg (by omega)]⟩
      have h0 : 0 ≤ (i : Int) := by omega
      by_cases hin : i < x.kids.length
      · obtain ⟨g, off, vb, vk, rfl, -, a0, a1, a2, a3, hr1⟩ := HAT.out i hin
        obtain ⟨P1, n1, Q1, m1, rfl, rfl⟩ := hr1.forms
        have e0 := HKP.out.cell (p := ⟨g, off + i * 4, none⟩) trivial a0
        have e1 := HKP.out.cell (p := ⟨g, off + i * 4 + 1, none⟩) trivial a1
        have e2 := HKP.out.cell (p := ⟨g, off + i * 4 + 2, none⟩) trivial a2
        have e3 := HKP.out.cell (p := ⟨g, off + i * 4 + 3, none⟩) trivial a3
        obtain ⟨q, hq⟩ : ∃ q, q = cmpS x.kids[i].1 s := ⟨_, rfl⟩
        have HC : Fact (∀ w, Calls Tryz.prog 224 #[.agg #[.string x.kids[i].1, .int .i64 x.kids[i].2.kind, .slice P1 x.kids[i].2.bytes.length n1, .slice Q1 x.kids[i].2.kids.length m1], .string s] w fun e w' => e = .returned (.int .i64 q) ∧ Keep All w w') := ⟨fun w => hq ▸ cmp224 w s _ _ _ _ _ _ _ _⟩
        have HF2 : Fact (findB x.kids s = (q == 0)) := ⟨by rw [findB, HF.out, nameAt, List.getElem?_eq_getElem hin, hq]; simp [hin]⟩
        clear a0 a1 a2 a3 hr1 hq
        go_wp2_with (go_at_call 224; go_must (refine (HC.out _).mono ?_); rintro e w1 ⟨rfl, hk⟩; have K1 := Fact.mk (HKP.out.trans hk); clear hk)
        go_ret2
        exact ⟨by rw [HF.out, HF2.out]; rfl, K1.out⟩
      · have HF2 : Fact (findB x.kids s = false) := ⟨by rw [findB, HF.out]; simp [hin]⟩
        have hd : decide (i < x.kids.length) = false := by simp; omega
        go_wp2
        go_ret2
        exact ⟨by rw [HF.out, HF2.out]; rfl, HKP.out⟩
theorem find201g (w : World) (G : Nat → Prop) (x : PNode) (v : Value) (s : ByteArray) (h : NodeV w G x v) (hn : x.kids.length ≤ 1000) :
    Calls Tryz.prog 201 #[v, .string s] w fun e w' => e = .returned (.tuple #[.int .i64 (findI x.kids s), .bool (findB x.kids s)]) ∧ Keep All w w' := by
  obtain ⟨A, c, B, d, rfl, hrep⟩ := h
  have HC := Fact.mk (bin223g (w.alloc (.cells #[.int .i64 x.kind, .slice A x.bytes.length c, .slice B x.kids.length d] 58)) G x A B _ c d s (hrep.keep ((Keep.refl _ _).alloc _)) hn)
  obtain ⟨qi, hqi⟩ : ∃ q, q = findI x.kids s := ⟨_, rfl⟩
  obtain ⟨qb, hqb⟩ : ∃ q, q = findB x.kids s := ⟨_, rfl⟩
  rw [← hqi, ← hqb] at HC ⊢
  clear hrep hqi hqb
  go_enter Tryz.func201, Tryz.ntmps201
  go_wp2_with (go_at_call 223; go_must (refine (HC.out).mono ?_); rintro e w1 ⟨rfl, hk⟩; have K1 := Fact.mk (((Keep.refl All w).alloc _).trans hk); clear hk)
  go_ret2
  exact ⟨rfl, K1.out⟩
end Go.Proofs.YtddmbdigdnmfgaaGreatDoor
