/- What Put and Get answer, error or not, in one form; the texts that Get has told. -/
import Derived.Test.YtddmbdigdnmfgaaGreatDoorApart
import Derived.Test.YtddmbdigdnmfgaaGreatDoorRGet
import Derived.Test.YtddmbdigdnmfgaaGreatDoorWords
import Derived.Test.YtddmbdigdnmfgaaGreatDoorAwake
namespace Go.Proofs.YtddmbdigdnmfgaaGreatDoor
open Go.RowKit
set_option maxHeartbeats 400000
set_option maxRecDepth 100000

def outB (l : List POp) : List UInt8 := match putOps l with | .ok b => b | .bad _ => []
def outP (l : List POp) : Int := match putOps l with | .ok _ => 0 | .bad x => x
def outL (b : List UInt8) : List POp := match getOps b with | .ok l => l | .bad _ => []
def outG (b : List UInt8) : Int := match getOps b with | .ok _ => 0 | .bad x => x
theorem outB_size (l : List POp) : (outB l).length ≤ 1000 := by
  unfold outB
  cases h : putOps l with
  | ok b => exact putOps_size h
  | bad x => simp
theorem outL_room (b : List UInt8) : (outL b).length ≤ 1000 ∧ opsSize (outL b) ≤ 33000 := by
  unfold outL
  cases h : getOps b with
  | ok l => exact putOps_room (putOps_get h)
  | bad x => simp [opsSize]
theorem text_le {l : List POp} {k : Nat} (hk : k < l.length) : l[k].text.length ≤ opsSize l := by
  have := opsSize_take hk
  omega
theorem PutPostO.row {w w' : World} {l : List POp} {e : Ending} (h : PutPostO w l e w') :
    ∃ A c, e = .returned (.tuple #[.slice A (outB l).length c, .int .i64 (outP l)]) ∧ w'.ownsRow w.heap.size 5 1 (.slice A (outB l).length c) (outB l).length ((outB l).map u8v) ∧ Keep All w w' := by
  obtain ⟨h1, h2⟩ := h
  unfold outB outP
  cases hp : putOps l with
  | ok b => rw [hp] at h1; obtain ⟨A, c, h3, h4⟩ := h1; exact ⟨A, c, h3, h4, h2⟩
  | bad x => rw [hp] at h1; exact ⟨none, 0, h1, World.ownsRow_nil _ _ _ _, h2⟩
theorem GetPost.row {w w' : World} {b : List UInt8} {e : Ending} (h : GetPost w b e w') :
    ∃ A c, e = .returned (.tuple #[.slice A (outL b).length c, .int .i64 (outG b)]) ∧ OpsR w' (fun i => w.heap.size ≤ i) (.slice A (outL b).length c) (outL b) ∧ Keep All w w' := by
  obtain ⟨h1, h2⟩ := h
  unfold outL outG
  cases hp : getOps b with
  | ok l => rw [hp] at h1; obtain ⟨A, c, h3, h4⟩ := h1; exact ⟨A, c, h3, h4, h2⟩
  | bad x => rw [hp] at h1; exact ⟨none, 0, h1, OpsR.nil _ _, h2⟩
/-- The blocks of texts told. -/
def Tx2 (a b : Nat) (v : Value) (i : Nat) : Prop := a ≤ i ∧ i < b ∧ v.ownBlock ≠ some i
def Told (w : World) (a b : Nat) (v : Value) (l : List POp) : Prop := ∃ xs, w.ownsRow a 25 4 v l.length xs ∧ Reps (OpRepR w (Tx2 a b v)) l xs
theorem GetPostR.told {w w' : World} {b : List UInt8} {e : Ending} (h : GetPostR w b e w') :
    ∃ A c, e = .returned (.tuple #[.slice A (outL b).length c, .int .i64 (outG b)]) ∧ Told w' w.heap.size w'.heap.size (.slice A (outL b).length c) (outL b) ∧ Keep All w w' := by
  obtain ⟨h1, h2⟩ := h
  unfold outL outG
  cases hp : getOps b with
  | ok l => rw [hp] at h1; obtain ⟨A, c, xs, h3, h4, h5⟩ := h1; exact ⟨A, c, h3, ⟨xs, h4, h5.mono fun x c _ hx => hx.mono fun i hi hg => ⟨hg.1, hi, hg.2⟩⟩, h2⟩
  | bad x => rw [hp] at h1; exact ⟨none, 0, h1, ⟨[], World.ownsRow_nil _ _ _ _, rfl⟩, h2⟩
theorem get13t (w : World) (G : Nat → Prop) (v : Value) (b : List UInt8) (h : By w G v b) :
    Calls Tryz.prog 13 #[v] w fun e w' => ∃ A c, e = .returned (.tuple #[.slice A (outL b).length c, .int .i64 (outG b)]) ∧ Told w' w.heap.size w'.heap.size (.slice A (outL b).length c) (outL b) ∧ Keep All w w' := by
  by_cases hb : b.length ≤ 1000
  · exact (get13r w G v b h hb).mono fun _ _ h => h.told
  · obtain ⟨A, c, rfl, -⟩ := h.open
    refine (get13_long w A c b (by omega)).mono fun e w' hp => ?_
    obtain ⟨h1, h2⟩ := hp
    have hg : getOps b = .bad 3 := by rw [getOps, if_pos (by omega)]
    unfold outL outG
    rw [hg] at h1 ⊢
    exact ⟨none, 0, h1, ⟨[], World.ownsRow_nil _ _ _ _, rfl⟩, h2⟩
theorem Told.plain {w : World} {a b : Nat} {v : Value} {l : List POp} (h : Told w a b v l) : OpsR w (fun i => a ≤ i) v l := by
  obtain ⟨xs, h1, h2⟩ := h
  exact ⟨xs, Sl.of_own h1 (h2.all1 OpRepR.one), h2.mono fun x c _ h => h.plain.mono fun i _ hi => hi.1⟩
theorem Told.keep {w w' : World} {a b : Nat} {v : Value} {l : List POp} (h : Told w a b v l) (k : Keep (fun i => a ≤ i) w w') : Told w' a b v l := by
  obtain ⟨xs, h1, h2⟩ := h
  exact ⟨xs, own_keep h1 k fun g hg => (h1.lt g hg).1, h2.mono fun x c _ h => h.keep (k.mono fun i hi => hi.1)⟩
/-- A text told: its header stays where only texts are written, and it has room. -/
theorem Told.text {w : World} {a b c : Nat} {A : Option Addr} {l : List POp} (h : Told w a b (.slice A l.length c) l) {k : Nat} (hk : k < l.length) :
    ∃ g Ax cx, A = some ⟨g, 0, none⟩ ∧ (∀ w', Wrote (Tx2 a b (.slice A l.length c)) w w' → w'.cell? ⟨g, k * 4 + 3, none⟩ = some (.slice Ax l[k].text.length cx) ∧ Room w' (Tx2 a b (.slice A l.length c)) (.slice Ax l[k].text.length cx)) := by
  obtain ⟨xs, h1, h2⟩ := h
  obtain ⟨cs, ⟨v, rfl, hb, hr⟩, hg⟩ := h2.get (sz := 4) (fun x c h => OpRepR.len x c h) k hk
  obtain ⟨Ax, cx, rfl, -⟩ := hb.open
  rcases h1.2 with ⟨-, h0⟩ | ⟨g, cap, cur, e, hbg, -⟩
  · omega
  · simp only [Value.slice.injEq] at e
    obtain ⟨rfl, -, rfl⟩ := e
    refine ⟨g, Ax, cx, rfl, fun w' hw => ⟨hw.keep.cell (p := ⟨g, k * 4 + 3, none⟩) (fun h => h.2.2 rfl) ?_, Wrote.room hr hw⟩⟩
    rw [World.ownsRow.cellAt h1 (k * 4 + 3) (by omega)]
    exact hg 3 _ rfl
theorem sameBytesT (w : World) (G1 G2 : Nat → Prop) (v1 v2 : Value) (l : List UInt8) (h1 : By w G1 v1 l) (h2 : By w G2 v2 l) : Calls Tryz.prog 15 #[v1, v2] w (Quiet w (.bool true)) := by
  have := sameBytes15 w G1 G2 v1 v2 l l h1 h2
  rwa [beq_self_eq_true] at this
def pairF {α : Type} (a b : α) : Nat → α := fun r => if r = 0 then a else b
/-- Two rows of which the one was made before the other. -/
theorem St.two {w : World} {a b : Value} {x y : List UInt8} {m : Nat} (h1 : Row w a x) (h2 : Row w b y) (ha : ∀ g, a.ownBlock = some g → g < m) (hb : ∀ g, b.ownBlock = some g → m ≤ g) : St w w (pairF a b) (pairF x y) (pairF a b) (pairF x y) fun _ => False := by
  have hh : ∀ r g, Has (pairF a b) (pairF a b) r g → ((if r = 0 then a else b) : Value).ownBlock = some g := fun r g h => h.elim id id
  refine ⟨fun r hr => ?_, fun r s hr hs hn g h h' => ?_, fun _ _ _ _ h => h, fun _ _ _ h => .inl h, Keep.refl _ _, fun _ h => h.elim, fun _ h => h.elim⟩
  · by_cases h0 : r = 0
    · subst h0; exact Twin.refl h1
    · simp only [pairF, if_neg h0]; exact Twin.refl h2
  · have e1 := hh r g h
    have e2 := hh s g h'
    by_cases h0 : r = 0
    · have h3 : s ≠ 0 := by omega
      rw [if_pos h0] at e1
      rw [if_neg h3] at e2
      have := ha g e1
      have := hb g e2
      omega
    · have h3 : s = 0 := by omega
      rw [if_neg h0] at e1
      rw [if_pos h3] at e2
      have := ha g e2
      have := hb g e1
      omega
theorem free_pair {a b : Value} {i : Nat} (h1 : a.ownBlock ≠ some i) (h2 : b.ownBlock ≠ some i) : Free (pairF a b) i := fun r _ => by
  by_cases h0 : r = 0
  · simp only [pairF, if_pos h0]; exact h1
  · simp only [pairF, if_neg h0]; exact h2
end Go.Proofs.YtddmbdigdnmfgaaGreatDoor

/- RecipeBytes, walked: it is true, and what was there stays. -/
namespace Go.Proofs.YtddmbdigdnmfgaaGreatDoor
open Go.RowKit
set_option maxHeartbeats 1000000
set_option maxRecDepth 100000

theorem bytes3 (w : World) (v1 v3 : Value) (l : List POp) (b : List UInt8) (h1 : OpsR w All v1 l) (h3 : By w All v3 b)
    (r1 : l.length ≤ 140737488351232) (r3 : b.length ≤ 140737488351232) (t1 : ∀ k (hk : k < l.length), l[k].text.length ≤ 140737488351232) :
    Calls Tryz.prog 3 #[v1, v3] w (Truly w) := by
  obtain ⟨A1, c1, rfl, -, -, -, hat1⟩ := h1.open
  obtain ⟨A3, c3, rfl, -⟩ := h3.open
  have T1 := Fact.mk t1
  have H1 := Fact.mk h1
  have H3 := Fact.mk h3
  have AT1 := Fact.mk hat1
  clear h1 h3 hat1 t1
  go_enter Tryz.func3, Tryz.ntmps3
  go_upto_block 0 with (fail)
  go_cut [5] (fun x w' => ∃ s : Nat, x = .int .i64 s ∧ (s ≤ 2000 → s = l.length + b.length + sumText l) ∧ s ≤ 703687441756160 ∧ w = w')
  case first =>
    go_wp2
    go_loopg [5, 6] l.length (fun g x i w' => ∃ k s : Nat, k + g = l.length ∧ i = .int .i64 k ∧ x = .int .i64 s ∧ s = l.length + b.length + sumText (l.take k) ∧ s ≤ 703687441756160 ∧ w = w')
    case atStart => exact ⟨0, l.length + b.length, by omega, rfl, by simp, by simp [sumText], by omega, rfl⟩
    case round =>
      obtain ⟨k, s, hkg, rfl, rfl, hs, hb, rfl⟩ := hrel
      have HG := Fact.mk hkg
      have HS := Fact.mk hs
      clear hkg hs
      by_cases hk : k < l.length
      · by_cases hle : s ≤ 2000
        · obtain ⟨b1, off, Ax, cx, rfl, -, -, -, -, -, d3⟩ := AT1.out k hk
          have ht := T1.out k hk
          go_wp2
          go_roundg (gk - 1)
          case measure => have := HG.out; omega
          case rel => exact ⟨k + 1, s + l[k].text.length, by have := HG.out; omega, by go_num, by go_num, by rw [sumText_take hk, HS.out]; omega, by omega, rfl⟩
        · go_wp2
          go_meet
          case rel => exact ⟨s, rfl, fun h => by omega, by omega, rfl⟩
      · have hkl : k = l.length := by have := HG.out; omega
        go_wp2
        go_meet
        case rel => exact ⟨s, rfl, fun _ => by have := HS.out; rwa [hkl, List.take_length] at this, by omega, rfl⟩
  case rest =>
    obtain ⟨s, rfl, hs, hb, rfl⟩ := hcut
    by_cases hle : s ≤ 2000
    · have HSUM := Fact.mk (hs hle)
      have Z1 : Fact (Small (opsSize l + 64)) := ⟨Small.of (by rw [opsSize_sum]; have := HSUM.out; omega)⟩
      have Z3 : Fact (Small (b.length + 16)) := ⟨Small.of (by have := HSUM.out; omega)⟩
      have Z4 : Fact (Small (l.length + 1)) := ⟨Small.of (by have := HSUM.out; omega)⟩
      have Z5 : Fact (l.length ≤ 1048576) := ⟨by have := HSUM.out; omega⟩
      clear hs r1 r3 hb
      go_upto_region 9 with (go_at_call 9; go_must (refine (lent9 _ _ _ b H3.out Z3.out).mono ?_); rintro e wa ⟨r, rfl, hln, hk⟩; have KA := Fact.mk hk; have LN := Fact.mk (hln.mono (H := fun i => w.heap.size ≤ i ∧ i < wa.heap.size) fun i h1 h2 => ⟨h2, h1⟩); clear hln hk)
      go_upto_region 10 with (go_at_call 10; go_must (refine (put10o _ All _ l (H1.out.keep KA.out) Z1.out Z5.out).mono ?_); rintro e wb hp; obtain ⟨B1, d1, rfl, ho, hk⟩ := hp.row; have KB := Fact.mk hk; have O1 := Fact.mk ho; clear hp ho hk)
      go_upto_region 11 with (first
        | (go_at_call 12; go_must (refine (ops12 _ All _ l (H1.out.keep (KA.out.trans KB.out)) Z4.out).mono ?_); rintro e wc ⟨B2, d2, rfl, ho, hk⟩; have KC := Fact.mk hk; have O2 := Fact.mk ho; clear ho hk)
        | (go_at_call 11; go_must (refine (rput11 _ _ _ l O2.out Z1.out Z5.out).mono ?_); rintro e wd hp; obtain ⟨B3, d3, rfl, ho, hk⟩ := hp.row; have KD := Fact.mk hk; have O3 := Fact.mk ho; clear hp ho hk))
      have K1 := Fact.mk (KA.out.trans (KB.out.trans (KC.out.trans KD.out)))
      go_upto_region 12 with (go_at_call 10; go_must (refine (put10o _ All _ l (H1.out.keep K1.out) Z1.out Z5.out).mono ?_); rintro e we hp; obtain ⟨B4, d4, rfl, ho, hk⟩ := hp.row; have KE := Fact.mk hk; have O4 := Fact.mk ho; clear hp ho hk)
      have K2 := Fact.mk (KB.out.trans (KC.out.trans (KD.out.trans KE.out)))
      go_upto_region 13 with (go_at_call 13; go_must (refine (get13t _ _ _ b (LN.out.by.keep K2.out.all)).mono ?_); rintro e wf ⟨B5, d5, rfl, ho, hk⟩; have KF := Fact.mk hk; have O5 := Fact.mk ho; clear ho hk)
      have K3 := Fact.mk (KA.out.trans (K2.out.trans KF.out))
      go_upto_region 14 with (go_at_call 14; go_must (refine (rget14 _ _ _ b (H3.out.keep K3.out)).mono ?_); rintro e wg hp; obtain ⟨B6, d6, rfl, ho, hk⟩ := hp.row; have KG := Fact.mk hk; have O6 := Fact.mk ho; clear hp ho hk)
      have K4 := Fact.mk (KC.out.trans (KD.out.trans (KE.out.trans (KF.out.trans KG.out))))
      have P1 := Fact.mk (By.of_own (own_keep O1.out K4.out fun _ _ => trivial))
      have P3 := Fact.mk (By.of_own (own_keep O3.out (KE.out.trans (KF.out.trans KG.out)) fun _ _ => trivial))
      have P5 := Fact.mk (O5.out.plain.keep KG.out.all)
      have Z6 : Fact (Small ((outL b).length + 1)) := ⟨Small.of (by have := (outL_room b).1; omega)⟩
      go_upto_region 16 with (first
        | (go_at_call 15; go_must (refine (sameBytesT _ _ _ _ _ (outB l) P1.out P3.out).mono ?_); rintro e w1 ⟨rfl, q1, rfl⟩)
        | (go_at_call 16; go_must (refine (sameOps16 _ _ _ _ _ (outL b) (P5.out.keep ((Keep.refl _ _).drewN _)) (O6.out.keep ((Keep.refl _ _).drewN _)) Z6.out).mono ?_); rintro e w2 ⟨rfl, q2, rfl⟩))
      obtain ⟨wh, hwh⟩ : ∃ X, X = wg.drewN (q1 + q2) := ⟨_, rfl⟩
      rw [← hwh]
      have KH : Fact (Keep All wg wh) := ⟨hwh ▸ (Keep.refl _ _).drewN _⟩
      have HT := Fact.mk (O5.out.keep (KG.out.trans KH.out).all)
      have HR := outL_room b
      clear hwh
      go_upto_block 2 with (fail)
      go_cut [] (fun w' => Wrote (Tx2 we.heap.size wf.heap.size (.slice B5 (outL b).length d5)) wh w')
      case first =>
        go_wp2
        go_loopg [18] (outL b).length (fun g i w' => ∃ k, k + g = (outL b).length ∧ i = .int .i64 k ∧ Wrote (Tx2 we.heap.size wf.heap.size (.slice B5 (outL b).length d5)) wh w')
        case atStart => exact ⟨0, by omega, rfl, Wrote.refl _ _⟩
        case round =>
          obtain ⟨k, hk, rfl, hw⟩ := hrel
          have HK := Fact.mk hk
          have HW := Fact.mk hw
          clear hk hw
          by_cases hkl : (k : Int) < (outL b).length
          · obtain ⟨g, Ax, cx, rfl, hx⟩ := HT.out.text (k := k) (by omega)
            obtain ⟨c0, hroom⟩ := hx _ HW.out
            have HRM := Fact.mk hroom
            have HSZ : Fact (((outL b)[k]'(by omega)).text.length ≤ 1048576) := ⟨by have := text_le (l := outL b) (k := k) (by omega); have := HR.2; omega⟩
            clear hx hroom
            go_wp2_with (go_at_call 17; go_must (refine (over17 _ _ _ HRM.out (fun A n c e => by cases e; exact HSZ.out)).mono ?_); rintro e w1 ⟨rfl, hw⟩; have HW2 := Fact.mk (HW.out.trans hw); clear hw)
            go_roundg (gk - 1)
            case measure => have := HK.out; omega
            case rel => exact ⟨k + 1, by have := HK.out; omega, by go_num, HW2.out⟩
          · go_wp2
            go_meet
            case rel => exact HW.out
      case rest =>
        have HW := Fact.mk hcut
        clear hcut
        have z1 := KA.out.size
        have z2 := KB.out.size
        have z3 := KC.out.size
        have z4 := KD.out.size
        have z5 := KE.out.size
        have z6 := KF.out.size
        have z7 := KG.out.size
        have z8 := KH.out.size
        have z9 := HW.out.keep.size
        have KW : Fact (Keep (fun i => i < we.heap.size) we wc) := ⟨(KF.out.trans (KG.out.trans KH.out)).all.trans (HW.out.keep.mono fun i hi ht => by have := ht.1; omega)⟩
        have LN2 := Fact.mk ((LN.out.keep K2.out.all).keep (KW.out.mono fun i hi => by have := hi.2; omega))
        have R1 : Fact (wc.ownsRow wa.heap.size 5 1 (.slice B1 (outB l).length d1) (outB l).length ((outB l).map u8v)) := ⟨own_keep (own_keep O1.out (KC.out.trans (KD.out.trans KE.out)) fun _ _ => trivial) KW.out fun g hg => by have := (O1.out.lt g hg).2; omega⟩
        have R4 := Fact.mk (own_keep O4.out KW.out fun g hg => (O4.out.lt g hg).2)
        have P6 := Fact.mk ((O6.out.keep KH.out.all).keep (HW.out.keep.mono fun i hi ht => by have := ht.2.1; omega))
        have X1 : Fact (∀ g, (Value.slice B1 (outB l).length d1).ownBlock = some g → wa.heap.size ≤ g ∧ g < wb.heap.size) := ⟨fun g hg => O1.out.lt g hg⟩
        have X4 := Fact.mk fun g hg => O4.out.lt g hg
        have KALL : Fact (Keep All w wc) := ⟨((KA.out.trans K2.out).trans (KF.out.trans (KG.out.trans KH.out))).then_ HW.out.keep fun i hi _ ht => by have := ht.1; omega⟩
        clear KW LN O1 O4 O5 O6 HT HW KH KG KF KE KD KC KB KA K1 K2 K3 K4 P1 P3 P5 O2 O3
        go_upto_region 21 with (go_at_call 13; go_must (refine (get13t _ _ _ b LN2.out.by).mono ?_); rintro e wj ⟨B7, d7, rfl, ho, hk⟩; have KJ := Fact.mk hk; have P7 := Fact.mk ho.plain; clear ho hk)
        have P6' := Fact.mk (P6.out.keep KJ.out.all)
        have C18 : Fact (∀ q, Calls Tryz.prog 18 #[.slice (some ⟨wj.heap.size, 0, none⟩) 2 2] ((wj.drewN q).alloc (.cells #[.slice B1 (outB l).length d1, .slice B4 (outB l).length d4] 23)) fun e w' => e = .returned (.bool true) ∧ Keep (Free (pairF (.slice B1 (outB l).length d1) (.slice B4 (outB l).length d4))) wj w') := ⟨fun q => by
          have k : Keep All wc ((wj.drewN q).alloc (.cells #[.slice B1 (outB l).length d1, .slice B4 (outB l).length d4] 23)) := (KJ.out.drewN q).alloc _
          have hbk := Blk.new (wj.drewN q) [.slice B1 (outB l).length d1, .slice B4 (outB l).length d4] 23
          refine (apart18 _ wj.heap.size 0 2 (pairF (.slice B1 (outB l).length d1) (.slice B4 (outB l).length d4)) (pairF (outB l) (outB l)) (St.two (m := wb.heap.size) (own_base (own_keep R1.out k fun _ _ => trivial) (Nat.zero_le _)) (own_base (own_keep R4.out k fun _ _ => trivial) (Nat.zero_le _)) (fun g hg => (X1.out g hg).2) (fun g hg => by have := (X4.out g hg).1; omega)) (fun r hr => ?_) (fun r hr => ?_)).mono ?_
          · rcases r with _ | _ | r
            · exact hbk.cell 0 _ rfl
            · exact hbk.cell 1 _ rfl
            · omega
          · unfold pairF
            split <;> exact outB_size l
          · rintro e w' ⟨he, hk⟩
            exact ⟨he, (((Keep.refl _ _).drewN q).alloc _).trans hk⟩⟩
        have HFR : Fact (∀ i, i < wa.heap.size → Free (pairF (.slice B1 (outB l).length d1) (.slice B4 (outB l).length d4)) i) := ⟨fun i hi => free_pair (fun e => by have := (X1.out i e).1; omega) (fun e => by have := (X4.out i e).1; omega)⟩
        have HB : Fact (By wj (fun i => i < w.heap.size) (.slice A3 b.length c3) b) := ⟨((H3.out.mono (H := fun i => i < w.heap.size) fun i hi _ => hi).keep KALL.out.all).keep KJ.out.all⟩
        have HL := Fact.mk (LN2.out.keep KJ.out.all)
        have KALL2 := Fact.mk (KALL.out.trans KJ.out)
        have Z0 := Fact.mk z1
        clear z1 z2 z3 z4 z5 z6 z7 z8 z9 HR
        go_wp2_with (first
          | (go_at_call 16; go_must (refine (sameOps16 _ _ _ _ _ (outL b) P7.out P6'.out Z6.out).mono ?_); rintro e w2 ⟨rfl, q, rfl⟩)
          | (go_at_call 18; go_must (refine (C18.out _).mono ?_); rintro e w3 ⟨rfl, hk⟩; have K3 := Fact.mk hk; have HL3 := Fact.mk (HL.out.keep (hk.mono fun i hi => HFR.out i hi.2)); have HB3 := Fact.mk (HB.out.keep (hk.mono fun i hi => HFR.out i (by have := Z0.out; omega))); have KA3 := Fact.mk (KALL2.out.then_ hk fun i hi _ => HFR.out i (by have := Z0.out; omega)); clear hk)
          | (go_at_call 19; go_must (refine (kept19 _ _ _ _ _ b HL3.out HB3.out Z3.out).mono ?_); rintro e w4 ⟨rfl, q4, rfl⟩)
          | (go_at_call 8; go_must (refine (awake8 _).mono ?_); rintro e w5 ⟨rfl, hk⟩; have KE := Fact.mk ((KA3.out.drewN q4).trans hk); clear hk))
        go_ret
        exact ⟨rfl, KE.out⟩
    · have hgt : (2000 : Int) < s := by omega
      go_wp2_with (go_at_call 8; go_must (refine (awake8 _).mono ?_); rintro e w1 ⟨rfl, hk⟩; have K1 := Fact.mk hk; clear hk)
      go_ret
      exact ⟨rfl, K1.out⟩
end Go.Proofs.YtddmbdigdnmfgaaGreatDoor
