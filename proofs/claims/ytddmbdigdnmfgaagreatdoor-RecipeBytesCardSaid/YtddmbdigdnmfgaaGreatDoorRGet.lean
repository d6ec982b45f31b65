/- The reference's cursor: it reads what code's cursor reads. -/
import Derived.Test.YtddmbdigdnmfgaaGreatDoorRMaker
import Derived.Laws.IdiomStrings
import Derived.Laws.BytesArg
namespace Go.Proofs.YtddmbdigdnmfgaaGreatDoor
open Go.RowKit
set_option maxHeartbeats 400000
set_option maxRecDepth 100000

/-- The cursor at block b: the bytes that are left (in memory beside it), its error. -/
def RCur (w : World) (b : Nat) (rest : List UInt8) (wrong : Int) : Prop := ∃ v, Blk w b [v, .int .i64 wrong] 101 ∧ By w (fun i => i < b) v rest
theorem RCur.keep {w w' : World} {b : Nat} {rest : List UInt8} {wrong : Int} (h : RCur w b rest wrong) (k : Keep All w w') : RCur w' b rest wrong := by
  obtain ⟨v, h1, h2⟩ := h
  exact ⟨v, h1.keep k trivial, h2.keep k.all⟩
theorem RCur.drewN {w : World} {b : Nat} {rest : List UInt8} {wrong : Int} (h : RCur w b rest wrong) (n : Nat) : RCur (w.drewN n) b rest wrong := h.keep ((Keep.refl _ _).drewN n)

/-- What breaking the cursor leaves. -/
def RBroke (w : World) (b : Nat) (wrong : Int) (v : Value) (e : Ending) (w' : World) : Prop := e = .returned v ∧ RCur w' b [] wrong ∧ Keep (fun i => i ≠ b) w w'

def RNumPost (w : World) (b : Nat) (rest : List UInt8) (wrong most : Int) (e : Ending) (w' : World) : Prop :=
  (if numGood (numScan 0 0 rest) most = true then e = .returned (.int .i64 (numScan 0 0 rest).1) ∧ RCur w' b (rest.drop (numScan 0 0 rest).2) wrong
   else e = .returned (.int .i64 0) ∧ RCur w' b [] (broken wrong 4)) ∧ Keep (fun i => i ≠ b) w w'

theorem rnum_bad {w w1 : World} {b : Nat} {rest : List UInt8} {wrong most : Int} {r : Nat × Nat} (hr : r = numScan 0 0 rest) (hb : ¬ (¬ r.2 = 0 ∧ r.2 = numLen r.1 ∧ r.1 ≤ 1099511627776 ∧ 0 ≤ most ∧ (r.1 : Int) ≤ most))
    (hc : RCur w1 b [] (broken wrong 4)) (hk : Keep (fun i => i ≠ b) w w1) : RNumPost w b rest wrong most (.returned (.int .i64 0)) w1 := by
  subst hr
  exact ⟨by rw [if_neg (fun h => hb ((numGood_iff _ _).1 h))]; exact ⟨rfl, hc⟩, hk⟩
theorem rnum_good {w w1 : World} {b : Nat} {rest : List UInt8} {wrong most : Int} {r : Nat × Nat} (hr : r = numScan 0 0 rest) (hb : ¬ r.2 = 0 ∧ r.2 = numLen r.1 ∧ r.1 ≤ 1099511627776 ∧ 0 ≤ most ∧ (r.1 : Int) ≤ most)
    (hc : RCur w1 b (rest.drop r.2) wrong) (hk : Keep (fun i => i ≠ b) w w1) : RNumPost w b rest wrong most (.returned (.int .i64 r.1)) w1 := by
  subst hr
  exact ⟨by rw [if_pos ((numGood_iff _ _).2 hb)]; exact ⟨rfl, hc⟩, hk⟩
theorem RCur.set {w : World} {b : Nat} {v v' : Value} {rest : List UInt8} {wrong : Int} (h : Blk w b [v, .int .i64 wrong] 101) (hv : By w (fun i => i < b) v' rest) : RCur (w.setCell ⟨b, 0, none⟩ v') b rest wrong :=
  ⟨v', h.set 0 v', hv.keep ((Keep.refl _ _).setCell (.inr (by simp)) _)⟩

/-- What Raw hands out, and leaves. -/
def RRawPost (w : World) (b : Nat) (rest : List UInt8) (wrong many : Int) (e : Ending) (w' : World) : Prop :=
  (if wrong = 0 ∧ 0 ≤ many ∧ many ≤ rest.length then ∃ A c, e = .returned (.slice A many.toNat c) ∧ By w' (fun i => w.heap.size ≤ i) (.slice A many.toNat c) (rest.take many.toNat) ∧ RCur w' b (rest.drop many.toNat) wrong
   else e = .returned (.slice none 0 0) ∧ RCur w' b [] (broken wrong 4)) ∧ Keep (fun i => i ≠ b) w w'

theorem rraw_good {w w1 : World} {b k : Nat} {rest : List UInt8} {A1 : Option Addr} {c1 : Nat} {v v' : Value} (hk : k ≤ rest.length) (hl : (rest.take k).length = k)
    (h1 : By w1 (fun i => w.heap.size ≤ i) (.slice A1 (rest.take k).length c1) (rest.take k)) (hb : Blk w1 b [v, .int .i64 0] 101) (hd : By w (fun i => i < b) v' (rest.drop k)) (hk1 : Keep All w w1) (hlt : b < w.heap.size) :
    RRawPost w b rest 0 k (.returned (.slice A1 k c1)) (w1.setCell ⟨b, 0, none⟩ v') := by
  refine ⟨?_, hk1.all.setCell (.inr (by simp)) _⟩
  rw [if_pos ⟨rfl, by omega, by omega⟩]
  rw [hl] at h1
  exact ⟨A1, c1, rfl, h1.keep ((Keep.refl _ _).setCell (.inr (by simp; omega)) _), RCur.set hb (hd.keep hk1.all)⟩

def RTextPost (w : World) (b : Nat) (rest : List UInt8) (most : Int) (e : Ending) (w' : World) : Prop :=
  (match textGet rest most with
   | .ok l r => ∃ A c, e = .returned (.slice A l.length c) ∧ By w' (fun i => w.heap.size ≤ i) (.slice A l.length c) l ∧ RCur w' b r 0
   | .bad x => e = .returned (.slice none 0 0) ∧ RCur w' b [] x) ∧ Keep (fun i => i ≠ b) w w'
theorem RRawPost.form {w w' : World} {b : Nat} {rest : List UInt8} {wrong many : Int} {e : Ending} (h : RRawPost w b rest wrong many e w') : ∃ A c q, e = .returned (.slice A q c) := by
  obtain ⟨h, _⟩ := h
  split at h
  · obtain ⟨A, c, rfl, _⟩ := h; exact ⟨A, c, _, rfl⟩
  · obtain ⟨rfl, _⟩ := h; exact ⟨none, 0, 0, rfl⟩


theorem rfail79 (w : World) (b : Nat) (rest : List UInt8) (wrong x : Int) (h : RCur w b rest wrong) :
    Calls Tryz.prog 79 #[.pointer (some ⟨b, 0, none⟩), .int .i64 x] w (RBroke w b (broken wrong x) (.tuple #[])) := by
  obtain ⟨v, h1, h2⟩ := h
  obtain ⟨A, c, rfl, -⟩ := h2.open
  have g0 := h1.cell 0 _ rfl
  have g1 := h1.cell 1 _ rfl
  have f0 := h1.free 0
  have f1 := h1.free 1
  have H := Fact.mk h1
  clear h1 h2
  by_cases hw : wrong = 0
  · have hwb : (wrong == 0) = true := by simp [hw]
    go_enter Tryz.func79, Tryz.ntmps79
    go_wp2
    go_end0
    refine ⟨rfl, ⟨_, by rw [broken, if_pos hw]; exact (H.out.set 1 _).set 0 _, By.nil _ _⟩, (((Keep.refl _ _).setCell (.inr (by simp)) _).setCell (.inr (by simp)) _)⟩
  · have hwb : (wrong == 0) = false := by simp [hw]
    go_enter Tryz.func79, Tryz.ntmps79
    go_wp2
    go_end0
    refine ⟨rfl, ⟨_, by rw [broken, if_neg hw]; exact (H.out.set 0 _), By.nil _ _⟩, (Keep.refl _ _).setCell (.inr (by simp)) _⟩
theorem rend54 (w : World) (b : Nat) (rest : List UInt8) (wrong : Int) (h : RCur w b rest wrong) :
    Calls Tryz.prog 54 #[.pointer (some ⟨b, 0, none⟩)] w fun e w' => e = .returned (.int .i64 (endErr rest wrong)) ∧ w = w' := by
  obtain ⟨v, h1, h2⟩ := h
  obtain ⟨A, c, rfl, -⟩ := h2.open
  have g0 := h1.cell 0 _ rfl
  have g1 := h1.cell 1 _ rfl
  clear h1 h2
  by_cases hw : wrong = 0
  · have hwb : (wrong == 0) = true := by simp [hw]
    by_cases hl : 0 < rest.length
    · have HE : Fact (endErr rest wrong = 4) := ⟨by simp only [endErr, if_pos (And.intro hw hl)]⟩
      clear hw
      go_enter Tryz.func54, Tryz.ntmps54
      go_wp2
      go_ret
      exact ⟨by rw [HE.out]; rfl, rfl⟩
    · have HE : Fact (endErr rest wrong = wrong) := ⟨by simp only [endErr, if_neg (fun h : wrong = 0 ∧ 0 < rest.length => hl h.2)]⟩
      clear hw
      go_enter Tryz.func54, Tryz.ntmps54
      go_wp2
      go_ret
      exact ⟨by rw [HE.out]; rfl, rfl⟩
  · have hwb : (wrong == 0) = false := by simp [hw]
    have HE : Fact (endErr rest wrong = wrong) := ⟨by simp only [endErr, if_neg (fun h : wrong = 0 ∧ 0 < rest.length => hw h.1)]⟩
    clear hw
    go_enter Tryz.func54, Tryz.ntmps54
    go_wp2
    go_ret
    exact ⟨by rw [HE.out]; rfl, rfl⟩

theorem six_pow {k : Nat} (hk : k ≤ 5) : 2 ^ (7 * k) * 128 ≤ 4398046511104 := by
  have := pow35 hk
  omega
theorem rnum52 (w : World) (b : Nat) (rest : List UInt8) (wrong most : Int) (h : RCur w b rest wrong) (hw0 : 0 < rest.length → wrong = 0) (hm0 : 0 ≤ most) (hl : Small rest.length) :
    Calls Tryz.prog 52 #[.pointer (some ⟨b, 0, none⟩), .int .i64 most] w (RNumPost w b rest wrong most) := by
  have HC := Fact.mk h
  obtain ⟨v, h1, h2⟩ := h
  obtain ⟨A, c, rfl, hn, hc, hA, hat⟩ := h2.open
  have g0 := h1.cell 0 _ rfl
  have g1 := h1.cell 1 _ rfl
  have f0 := h1.free 0
  have H := Fact.mk h1
  have HB := Fact.mk h2
  have HT := Fact.mk hat
  have HW := Fact.mk hw0
  clear h1 h2 hat hw0
  obtain ⟨r, hr⟩ : ∃ r, r = numScan 0 0 rest := ⟨_, rfl⟩
  have HR := Fact.mk hr
  clear hr
  go_enter Tryz.func52, Tryz.ntmps52
  go_upto_block 0 with (fail)
  go_cut [] (fun w' => Fact (¬ (¬ r.2 = 0 ∧ r.2 = numLen r.1 ∧ r.1 ≤ 1099511627776 ∧ 0 ≤ most ∧ (r.1 : Int) ≤ most)) ∧ Keep All w w')
  case first =>
    go_wp2
    go_loopg [5, 6, 7] rest.length (fun g x u i w' => ∃ k acc : Nat, w' = w ∧ k + g = rest.length ∧ k ≤ 6 ∧ acc < 2 ^ (7 * k) ∧ x = .int .i64 acc ∧ u = .int .i64 (2 ^ (7 * k) : Nat) ∧ i = .int .i64 k ∧ numScan k acc (rest.drop k) = r)
    case atStart => exact ⟨0, 0, rfl, by omega, by omega, by simp, rfl, rfl, rfl, by simp [HR.out]⟩
    case round =>
      obtain ⟨k, acc, rfl, hkg, hk6, hacc, rfl, rfl, rfl, hs⟩ := hrel
      have HS := Fact.mk hs
      have HA := Fact.mk hacc
      have HK := Fact.mk hkg
      clear hs hacc hkg
      by_cases hlt : k < rest.length
      · have hwz := HW.out (by omega)
        subst hwz
        by_cases h6 : k = 6
        · subst h6
          have hx : r.2 = 0 := by
            rw [← HS.out, List.drop_eq_getElem_cons hlt, numScan_six]
          go_wp2
          go_meet
          case rel => exact ⟨⟨fun hh => hh.1 hx⟩, Keep.refl _ _⟩
        · obtain ⟨b1, off, rfl, hb1, hat⟩ := HT.out (by omega)
          have hx := hat k hlt
          obtain ⟨x, hxe⟩ : ∃ x, x = rest[k]?.getD 0 := ⟨_, rfl⟩
          rw [← hxe] at hx
          have hx8 : (x.toNat : Int) ≤ 255 := by have := x.toNat_lt; omega
          have hx0 : 0 ≤ (x.toNat : Int) := by omega
          have hdrop : rest.drop k = x :: rest.drop (k + 1) := by
            rw [List.drop_eq_getElem_cons hlt, hxe]; simp [List.getElem?_eq_getElem hlt]
          rw [hdrop] at HS
          have hk : k ≤ 1048576 := by have := hl.le; omega
          obtain ⟨p, hp⟩ : ∃ p, p = 2 ^ (7 * k) := ⟨_, rfl⟩
          have hp35 := pow35 (show k ≤ 5 by omega)
          have hacc' := HA.out
          rw [← hp] at hp35 hacc' ⊢
          have HP := Fact.mk hp
          obtain ⟨y, hy⟩ : ∃ y, y = x.toNat % 128 := ⟨_, rfl⟩
          have hy7 : y < 128 := by omega
          have hyp : y * p ≤ 127 * p := Nat.mul_le_mul_right p (by omega)
          obtain ⟨z, hz⟩ : ∃ z, z = y * p := ⟨_, rfl⟩
          rw [← hz] at hyp
          obtain ⟨nn, hnn⟩ : ∃ nn, nn = acc + z := ⟨_, rfl⟩
          have hsum : (acc : Int) + (z : Int) = (nn : Int) := by omega
          have HZ : Fact (nn < 2 ^ (7 * (k + 1)) ∧ acc + (x.toNat % 128) * 2 ^ (7 * k) = nn ∧ p * 128 = 2 ^ (7 * (k + 1))) := ⟨by
            have := acc_next HA.out hy7
            rw [← hp, ← hz] at this
            exact ⟨by rw [hnn]; exact this, by rw [hnn, hz, hy, hp], by rw [hp, pow7, Nat.mul_comm]⟩⟩
          have he : (x.toNat : Int) % 128 * (p : Int) = (z : Int) := by rw [hz, hy]; push_cast; rfl
          have hzb : (nn : Int) ≤ 4398046511103 := by omega
          have S6 : Fact (Six nn) := ⟨by show nn < _; omega⟩
          have hy0 : Fact (x.toNat < 128 → y = x.toNat) := ⟨fun hh => by rw [hy]; exact Nat.mod_eq_of_lt hh⟩
          clear hy hyp hz hp hxe hat hdrop hacc' hnn
          by_cases h128 : x.toNat < 128
          · have hrs : Fact (r = (nn, k + 1)) := ⟨by
              have h1 := HS.out
              rw [numScan_last h6 h128] at h1
              rw [← h1, ← HZ.out.2.1, Nat.mod_eq_of_lt h128]⟩
            have hle := numLen_six S6.out
            have hk2 : (k : Int) + 1 ≤ 6 := by omega
            have HD := Fact.mk (HB.out.drop (k := k + 1) (by omega))
            by_cases hgood : numLen nn = k + 1 ∧ nn ≤ 1099511627776 ∧ (nn : Int) ≤ most
            · have hc1 : ((numLen nn : Nat) : Int) = (k : Int) + 1 := by omega
              have hc2 : (nn : Int) ≤ 1099511627776 := by omega
              have hc3 : (nn : Int) ≤ most := hgood.2.2
              have HGOOD := Fact.mk hgood
              clear hgood
              go_wp2_with (go_at_call 73; go_must (refine (number73 _ nn S6.out).mono ?_); rintro e w1 ⟨A1, c1, rfl, ho1, hk1⟩; rw [numBytes_len]; have H1 := Fact.mk (H.out.keep hk1 trivial); have g01 := H1.out.cell 0 _ rfl; have f01 := H1.out.free 0; have K1 := Fact.mk hk1; clear ho1 hk1)
              · have hd := HD.out.1 ‹_›
                go_ret
                exact rnum_good (r := (nn, k + 1)) (by rw [← hrs.out, HR.out]) ⟨by show ¬ k + 1 = 0; omega, HGOOD.out.1.symm, HGOOD.out.2.1, hm0, HGOOD.out.2.2⟩ (RCur.set H1.out (hd.keep K1.out.all)) (K1.out.all.setCell (.inr (by simp)) _)
              · have hd := HD.out.2 ‹_›
                go_ret
                exact rnum_good (r := (nn, k + 1)) (by rw [← hrs.out, HR.out]) ⟨by show ¬ k + 1 = 0; omega, HGOOD.out.1.symm, HGOOD.out.2.1, hm0, HGOOD.out.2.2⟩ (RCur.set H1.out (hd.keep K1.out.all)) (K1.out.all.setCell (.inr (by simp)) _)
            · have HBAD : Fact (¬ (¬ r.2 = 0 ∧ r.2 = numLen r.1 ∧ r.1 ≤ 1099511627776 ∧ 0 ≤ most ∧ (r.1 : Int) ≤ most)) := ⟨by
                rw [hrs.out]
                rintro ⟨-, a2, a3, -, a5⟩
                exact hgood ⟨a2.symm, a3, a5⟩⟩
              by_cases q1 : numLen nn = k + 1
              · have hc1 : ((numLen nn : Nat) : Int) = (k : Int) + 1 := by omega
                by_cases q2 : nn ≤ 1099511627776
                · have hc2 : (nn : Int) ≤ 1099511627776 := by omega
                  have hc3 : most < (nn : Int) := by
                    rcases Int.lt_or_le most (nn : Int) with h | h
                    · exact h
                    · exact absurd ⟨q1, q2, h⟩ hgood
                  clear hgood q1 q2
                  go_wp2_with (go_at_call 73; go_must (refine (number73 _ nn S6.out).mono ?_); rintro e w1 ⟨A1, c1, rfl, ho1, hk1⟩; rw [numBytes_len]; have K1 := Fact.mk hk1; clear ho1 hk1)
                  go_meet
                  case rel => exact ⟨⟨HBAD.out⟩, K1.out⟩
                · have hc2 : 1099511627776 < (nn : Int) := by omega
                  clear hgood q1 q2
                  go_wp2_with (go_at_call 73; go_must (refine (number73 _ nn S6.out).mono ?_); rintro e w1 ⟨A1, c1, rfl, ho1, hk1⟩; rw [numBytes_len]; have K1 := Fact.mk hk1; clear ho1 hk1)
                  go_meet
                  case rel => exact ⟨⟨HBAD.out⟩, K1.out⟩
              · have hc1 : (((numLen nn : Nat) : Int) != (k : Int) + 1) = true := by simp only [bne_iff_ne, ne_eq]; omega
                clear hgood q1
                go_wp2_with (go_at_call 73; go_must (refine (number73 _ nn S6.out).mono ?_); rintro e w1 ⟨A1, c1, rfl, ho1, hk1⟩; rw [numBytes_len]; have K1 := Fact.mk hk1; clear ho1 hk1)
                go_meet
                case rel => exact ⟨⟨HBAD.out⟩, K1.out⟩
          · have hrs : Fact (numScan (k + 1) nn (rest.drop (k + 1)) = r) := ⟨by
              have h1 := HS.out
              rw [numScan_more h6 h128] at h1
              rw [← h1, HZ.out.2.1]⟩
            have h128' : ¬ (x.toNat : Int) < 128 := by omega
            go_wp2
            go_roundg (gk - 1)
            case measure => have := HK.out; omega
            case rel => exact ⟨k + 1, nn, rfl, by have := HK.out; omega, by omega, HZ.out.1, by go_num, by rw [← HZ.out.2.2]; go_num, by go_num, hrs.out⟩
      · have hkl : k = rest.length := by have := HK.out; omega
        have hx : r.2 = 0 := by rw [← HS.out, hkl]; simp [numScan]
        have HX := Fact.mk hx
        clear hx hkl
        go_wp2
        all_goals
          go_meet
          case rel => exact ⟨⟨fun hh => hh.1 HX.out⟩, Keep.refl _ _⟩
  case rest =>
    obtain ⟨HN, hk⟩ := hcut
    have HC2 := Fact.mk (HC.out.keep hk)
    have HK := Fact.mk hk
    clear hk
    go_wp2_with (go_at_call 79; go_must (refine (rfail79 _ _ _ _ _ HC2.out).mono ?_); rintro e w1 ⟨rfl, hcur, hk⟩)
    go_ret
    exact rnum_bad HR.out HN.out hcur (HK.out.all.trans hk)
theorem rraw80 (w : World) (b : Nat) (rest : List UInt8) (k : Nat) (h : RCur w b rest 0) (hk : k ≤ 1099511627776) (hl : Small rest.length) :
    Calls Tryz.prog 80 #[.pointer (some ⟨b, 0, none⟩), .int .i64 k] w (RRawPost w b rest 0 k) := by
  have HC := Fact.mk h
  obtain ⟨v, h1, h2⟩ := h
  obtain ⟨A, c, rfl, hn, hc, hA, hat⟩ := h2.open
  have g0 := h1.cell 0 _ rfl
  have g1 := h1.cell 1 _ rfl
  have f0 := h1.free 0
  have H := Fact.mk h1
  have HB := Fact.mk h2
  have hle := hl.le
  have hlt := h1.lt
  have g0a := ((Keep.refl All w).alloc (.cells #[] 5)).cell trivial g0
  clear h1 h2 hat
  have h0 : (0 : Int) ≤ k := by omega
  by_cases hkl : k ≤ rest.length
  · have HT := Fact.mk (HB.out.take hkl)
    have HD := Fact.mk (HB.out.drop hkl)
    have hlt : (rest.take k).length = k := by rw [List.length_take]; omega
    have HL := Fact.mk hlt
    have HF : Fact (Fits 0 k 1) := ⟨Fits.of (Small.of (by omega)) 1 (by decide)⟩
    have HTS : Fact (Sl w (fun i => i < b) 1 (.slice A k c) k ((rest.take k).map u8v)) := ⟨by have := HT.out; unfold By at this; rwa [hlt] at this⟩
    clear hlt
    go_enter Tryz.func80, Tryz.ntmps80
    go_wp2_with (at_builtin; go_must (refine wpList_ap rfl _ _ 23 5 1 1 w.heap.size 0 k (own_empty w 5 1) (Sl.keep HTS.out ((Keep.refl _ _).alloc _)) rfl T23 rfl rfl HF.out (alloc_le (Nat.le_refl _)) ?_); intro v' w1 ho hg hb; have K1 := Fact.mk (((Keep.refl All w).alloc _).grown hg fun j hj => .inl ((own_empty w 5 1).lt j hj).1); have HO := Fact.mk ho; obtain ⟨A1, c1, rfl⟩ := own_form ho; have H1 := Fact.mk (H.out.keep K1.out trivial); have g01 := H1.out.cell 0 _ rfl; have f01 := H1.out.free 0; clear ho hg hb)
    · have hd := HD.out.1 ‹_›
      go_ret
      exact rraw_good (by omega) HL.out (A1 := A1) (c1 := c1) (By.of_own (n := 0 + k) (by rw [HL.out]; simpa using HO.out)) H1.out hd K1.out H.out.lt
    · have hd := HD.out.2 ‹_›
      go_ret
      exact rraw_good (by omega) HL.out (A1 := A1) (c1 := c1) (By.of_own (n := 0 + k) (by rw [HL.out]; simpa using HO.out)) H1.out hd K1.out H.out.lt
  · have hgt : (rest.length : Int) < k := by omega
    go_enter Tryz.func80, Tryz.ntmps80
    go_wp2_with (go_at_call 79; refine (rfail79 _ _ _ _ _ HC.out).mono ?_; rintro e w1 ⟨rfl, hcur, hk⟩)
    go_ret
    exact ⟨by rw [if_neg (fun hh => absurd hh.2.2 (by omega))]; exact ⟨rfl, hcur⟩, hk⟩
theorem rtext53 (w : World) (b : Nat) (rest : List UInt8) (most : Int) (h : RCur w b rest 0) (hl : Small rest.length) :
    Calls Tryz.prog 53 #[.pointer (some ⟨b, 0, none⟩), .int .i64 most] w (RTextPost w b rest most) := by
  have H := Fact.mk h
  clear h
  have HZ : Fact (0 < rest.length → (0 : Int) = 0) := ⟨fun _ => rfl⟩
  by_cases hg : numGood (numScan 0 0 rest) 1099511627776 = true
  · have hr := (numGood_iff _ _).1 hg
    obtain ⟨n, hn⟩ : ∃ n, n = (numScan 0 0 rest).1 := ⟨_, rfl⟩
    obtain ⟨k, hk⟩ : ∃ k, k = (numScan 0 0 rest).2 := ⟨_, rfl⟩
    rw [← hn] at hr
    have hb : n ≤ 1099511627776 := hr.2.2.1
    have HB := Fact.mk hb
    have hsm : Small (rest.drop k).length := hl.mono (by simp)
    have HG := Fact.mk hg
    have HN := Fact.mk hn
    have HK := Fact.mk hk
    clear hr hb hg hn hk
    have TG : Fact (textGet rest most = if most < (n : Int) then .bad 3 else if n ≤ (rest.drop k).length then .ok ((rest.drop k).take n) ((rest.drop k).drop n) else .bad 4) := ⟨by
      unfold textGet
      simp only [if_pos HG.out, ← HN.out, ← HK.out]⟩
    by_cases hm : most < (n : Int)
    · go_enter Tryz.func53, Tryz.ntmps53
      go_wp2_with (first
        | (go_at_call 52; refine (rnum52 _ _ _ _ _ H.out HZ.out (by decide) hl).mono ?_; rintro e w1 ⟨hp, hk1⟩; rw [if_pos HG.out, ← HN.out, ← HK.out] at hp; obtain ⟨rfl, hc⟩ := hp; have HC := Fact.mk hc; obtain ⟨v, h1, h2⟩ := hc; have g1 := h1.cell 1 _ rfl; clear h1 h2)
        | (go_at_call 79; refine (rfail79 _ _ _ _ _ HC.out).mono ?_; rintro e w2 ⟨rfl, hcur, hk2⟩; have HC2 := Fact.mk hcur; obtain ⟨v2, h12, h22⟩ := hcur; have g12 := h12.cell 1 _ rfl; rw [broken, if_pos rfl] at g12; clear h12 h22))
      go_ret
      exact ⟨by rw [TG.out, if_pos hm]; exact ⟨rfl, HC2.out⟩, hk1.trans hk2⟩
    · have hm' : (n : Int) ≤ most := by omega
      go_enter Tryz.func53, Tryz.ntmps53
      go_wp2_with (first
        | (go_at_call 52; refine (rnum52 _ _ _ _ _ H.out HZ.out (by decide) hl).mono ?_; rintro e w1 ⟨hp, hk1⟩; rw [if_pos HG.out, ← HN.out, ← HK.out] at hp; obtain ⟨rfl, hc⟩ := hp; have HC := Fact.mk hc; obtain ⟨v, h1, h2⟩ := hc; have g1 := h1.cell 1 _ rfl; clear h1 h2)
        | (go_at_call 80; refine (rraw80 _ _ _ _ HC.out HB.out hsm).mono ?_; rintro e w2 hp2; have HP := Fact.mk hp2; clear hp2; obtain ⟨A, c, q, rfl⟩ : ∃ A c q, e = .returned (.slice A q c) := RRawPost.form HP.out))
      go_ret
      obtain ⟨hp2, hk2⟩ := HP.out
      refine ⟨?_, hk1.trans hk2⟩
      rw [TG.out, if_neg (by omega)]
      by_cases hle : n ≤ (rest.drop k).length
      · rw [if_pos ⟨rfl, by omega, by exact_mod_cast hle⟩] at hp2
        rw [if_pos hle]
        obtain ⟨A', c', he, h3, h4⟩ := hp2
        have hlt : ((rest.drop k).take n).length = n := by rw [List.length_take]; omega
        refine ⟨A', c', ?_, ?_, h4⟩
        · rw [hlt]; exact he
        · rw [hlt]; exact h3.mono fun i _ h => Nat.le_trans hk1.size h
      · rw [if_neg (by rintro ⟨_, _, h⟩; exact hle (by exact_mod_cast h))] at hp2
        rw [if_neg hle]
        exact hp2
  · have HG := Fact.mk hg
    clear hg
    go_enter Tryz.func53, Tryz.ntmps53
    go_wp2_with (go_at_call 52; refine (rnum52 _ _ _ _ _ H.out HZ.out (by decide) hl).mono ?_; rintro e w1 ⟨hp, hk⟩; rw [if_neg HG.out] at hp; obtain ⟨rfl, hc⟩ := hp; have HC := Fact.mk hc; obtain ⟨v, h1, h2⟩ := hc; have g1 := h1.cell 1 _ rfl; rw [broken, if_pos rfl] at g1; clear h1 h2)
    go_ret
    exact ⟨by unfold textGet; rw [if_neg HG.out]; exact ⟨rfl, HC.out⟩, hk⟩
end Go.Proofs.YtddmbdigdnmfgaaGreatDoor

/- The reference's Put: it answers what recipe's does. -/
namespace Go.Proofs.YtddmbdigdnmfgaaGreatDoor
open Go.RowKit
set_option maxHeartbeats 400000
set_option maxRecDepth 100000

theorem RMk.mine_old {w : World} {b i : Nat} {v : Value} {l : List UInt8} {bad : Bool} (h : RMk w b v l bad) (hi : i < b) : Mine b v i :=
  ⟨by omega, fun e => by have := (h.2.lt i e).1; omega⟩
/-- Amid the reference's Put: its maker. -/
def RIn (w wx : World) (v : Value) (l : List UInt8) : Prop := RMk wx w.heap.size v l false ∧ Keep All w wx
theorem RIn.next {w wx w2 : World} {v : Value} {l l2 : List UInt8} (h : RIn w wx v l) (hm : RMade wx w.heap.size v l2 false w2) : ∃ v2, RIn w w2 v2 l2 := by
  obtain ⟨v2, h1, h2, h3⟩ := hm
  exact ⟨v2, h1, h.2.then_ h2 fun i hi _ => h.1.mine_old hi⟩
theorem RIn.all {w wx w2 : World} {v : Value} {l : List UInt8} (h : RIn w wx v l) (k : Keep All wx w2) : RIn w w2 v l :=
  ⟨⟨h.1.1.keep k trivial, own_keep h.1.2 k fun _ _ => trivial⟩, h.2.trans k⟩
theorem hasOf_text {k : Int} (h : hasText k = true) : hasOf k = 1 := (hasOf_one k).1.2 h
theorem numbersOf_text {k : Int} (h : hasText k = true) : numbersOf k = 0 := by
  simp only [hasText, Bool.or_eq_true, beq_iff_eq] at h
  unfold numbersOf
  rw [if_neg (by omega), if_neg (by omega)]
theorem hasOf_nums {k : Int} (h : hasText k = false) : (numbersOf k = 0 ∧ hasOf k = 0) ∨ (numbersOf k = 1 ∧ hasOf k = 2) ∨ (numbersOf k = 2 ∧ hasOf k = 3) := by
  unfold hasOf
  rw [h]
  rcases numbersOf_le k with e | e | e <;> rw [e] <;> simp
theorem rput11 (w : World) (G : Nat → Prop) (v : Value) (l : List POp) (h : OpsR w G v l) (hs : Small (opsSize l + 64)) (hlen : l.length ≤ 1048576) :
    Calls Tryz.prog 11 #[v] w (PutPostO w l) := by
  obtain ⟨A, c, rfl, -, -, -, hat⟩ := h.open
  have HAT := Fact.mk hat
  clear h hat
  go_enter Tryz.func11, Tryz.ntmps11
  go_wp2
  go_loopg [5] l.length (fun g i w' => ∃ k : Nat, k + g = l.length ∧ i = .int .i64 k ∧ (l.take k).all opRight = true ∧ ∃ v1, RIn w w' v1 (opsBytes (l.take k)))
  case atStart =>
    refine ⟨0, by omega, rfl, by simp, .slice none 0 0, ⟨Blk.new w [_, _] 86, ?_⟩, (Keep.refl _ _).alloc _⟩
    exact World.ownsRow_nil _ _ _ _
  case round =>
    obtain ⟨k, hkg, rfl, hall, v1, hin⟩ := hrel
    have HK := Fact.mk hkg
    have HI := Fact.mk hin
    have HA := Fact.mk hall
    clear hkg hin hall
    by_cases hk : k < l.length
    · obtain ⟨b1, off, Ax, cx, rfl, hb1, hbt, c0, c1, c2, c3⟩ := HAT.out k hk
      have htake : l.take (k + 1) = l.take k ++ [l[k]] := List.take_succ_eq_append_getElem hk
      obtain ⟨o, ho⟩ : ∃ o, o = l[k] := ⟨_, rfl⟩
      rw [← ho] at hbt c0 c1 c2 c3 htake
      have hb1w : b1 < w.heap.size := World.block_lt_of_cell? w _ c0
      have HO := Fact.mk ho
      have HTK := Fact.mk htake
      have hsz : (opsBytes (l.take k)).length + o.text.length + 64 ≤ opsSize l + 64 := by
        have h1 := opsBytes_len HA.out
        have h2 := opsSize_take hk
        rw [← ho] at h2
        omega
      have HSZ := Fact.mk (hs.mono hsz)
      -- the operation's cells, wherever the walk stands
      have HC : Fact (∀ w', Keep All w w' → w'.cell? ⟨b1, off + k * 4, none⟩ = some (.int .i64 o.kind) ∧ w'.cell? ⟨b1, off + k * 4 + 1, none⟩ = some (.int .i64 o.n) ∧ w'.cell? ⟨b1, off + k * 4 + 2, none⟩ = some (.int .i64 o.m) ∧ w'.cell? ⟨b1, off + k * 4 + 3, none⟩ = some (.slice Ax o.text.length cx)) :=
        ⟨fun w' hw => ⟨hw.cell trivial c0, hw.cell trivial c1, hw.cell trivial c2, hw.cell trivial c3⟩⟩
      have HBT : Fact (∀ w' vx lx, RIn w w' vx lx → By w' (Mine w.heap.size vx) (.slice Ax o.text.length cx) o.text) :=
        ⟨fun w' vx lx hr => ((hbt.mono (H := fun i => i < w.heap.size) fun i hi _ => hi).keep (hr.2.mono fun _ _ => trivial)).mono fun i _ hi => hr.1.mine_old hi⟩
      obtain ⟨d0, d1, d2, d3⟩ := HC.out _ HI.out.2
      clear hbt c0 c1 c2 c3 ho htake hsz
      by_cases hr : opRight o = true
      · have HR := Fact.mk hr
        obtain ⟨kd, n, m, t⟩ := o
        have hright : OpRight ⟨kd, n, m, t⟩ := by simpa [opRight] using hr
        obtain ⟨kn, rfl⟩ := Int.eq_ofNat_of_zero_le (show 0 ≤ kd from Int.le_trans (by decide) (show 1 ≤ kd from hright.1))
        obtain ⟨nn, rfl⟩ := Int.eq_ofNat_of_zero_le (show 0 ≤ n by exact hright.2.2.2.2.1)
        obtain ⟨mn, rfl⟩ := Int.eq_ofNat_of_zero_le (show 0 ≤ m by exact hright.2.2.2.2.2.1)
        have hkn : kn ≤ 20 := by have : (kn : Int) ≤ 20 := hright.2.1; omega
        have HN := Fact.mk (show nn ≤ 4096 ∧ mn ≤ 4096 by have := hright.2.2.2.2.2.2; simp only at this; omega)
        have N0 : Fact (kn ≤ 1099511627776) := ⟨by omega⟩
        have N1 : Fact (nn ≤ 1099511627776) := ⟨by have := HN.out; omega⟩
        have N2 : Fact (mn ≤ 1099511627776) := ⟨by have := HN.out; omega⟩
        have hlk : (numBytes kn).length ≤ 6 := by rw [numBytes_len]; exact numLen_six (show kn < _ by omega)
        have hln : (numBytes nn).length ≤ 6 := by rw [numBytes_len]; exact numLen_six (show nn < _ by have := HN.out; omega)
        have S0 : Fact (Small ((opsBytes (l.take k)).length + 8)) := ⟨HSZ.out.mono (by omega)⟩
        have S1 : Fact (Small ((opsBytes (l.take k) ++ numBytes kn).length + t.length + 16)) := ⟨HSZ.out.mono (by rw [List.length_append]; show _ ≤ (opsBytes (l.take k)).length + t.length + 64; omega)⟩
        have S2 : Fact (Small ((opsBytes (l.take k) ++ numBytes kn).length + 8)) := ⟨HSZ.out.mono (by rw [List.length_append]; omega)⟩
        have S3 : Fact (Small ((opsBytes (l.take k) ++ numBytes kn ++ numBytes nn).length + 8)) := ⟨HSZ.out.mono (by rw [List.length_append, List.length_append]; omega)⟩
        have HSN := Fact.mk (opsBytes_snoc (l.take k) kn nn mn t)
        clear hr hright hlk hln
        by_cases ht : hasText (kn : Int) = true
        · have HQ := Fact.mk (hasOf_text ht)
          have HE : Fact (opsBytes (l.take (k + 1)) = opsBytes (l.take k) ++ numBytes kn ++ (numBytes t.length ++ t)) := ⟨by
            rw [HTK.out, HSN.out, ht, textPart_true, numbersOf_text ht]; simp [numsBytes]⟩
          clear ht
          go_wp2_with (first
            | (go_at_call 39; go_must (refine (rright39 _ ⟨kn, nn, mn, t⟩ _ _).mono ?_); rintro e w1 ⟨rfl, hk1⟩; rw [HR.out]; have I1 := Fact.mk (HI.out.all hk1); obtain ⟨d0, d1, d2, d3⟩ := HC.out _ I1.out.2; clear hk1)
            | (go_at_call 40; go_must (refine (rnum40 _ _ _ _ _ kn I1.out.1 N0.out S0.out).mono ?_); rintro e w2 ⟨rfl, hm2⟩; obtain ⟨v2, i2⟩ := I1.out.next hm2; have I2 := Fact.mk i2; obtain ⟨d0, d1, d2, d3⟩ := HC.out _ i2.2; clear hm2 i2)
            | (go_at_call 41; go_must (refine (has41 _ _).mono ?_); rintro e w' ⟨rfl, rfl⟩; rw [HQ.out])
            | (go_at_call 42; go_must (refine (rtext42 _ _ _ _ t _ _ I2.out.1 (HBT.out _ _ _ I2.out) S1.out).mono ?_); rintro e w3 ⟨rfl, hm3⟩; obtain ⟨v3, i3⟩ := I2.out.next hm3; have I3 := Fact.mk i3; clear hm3 i3))
          go_roundg (gk - 1)
          case measure => have := HK.out; omega
          case rel => exact ⟨k + 1, by have := HK.out; omega, by go_num, by rw [HTK.out]; simp [HA.out, HR.out], v3, by rw [HE.out]; exact I3.out⟩
        · rcases hasOf_nums (by simpa using ht : hasText (kn : Int) = false) with ⟨e1, e2⟩ | ⟨e1, e2⟩ | ⟨e1, e2⟩
          · have HQ := Fact.mk e2
            have HE : Fact (opsBytes (l.take (k + 1)) = opsBytes (l.take k) ++ numBytes kn) := ⟨by
              rw [HTK.out, HSN.out, (by simpa using ht : hasText (kn : Int) = false), textPart_false, e1]; simp [numsBytes]⟩
            clear ht e1 e2
            go_wp2_with (first
              | (go_at_call 39; go_must (refine (rright39 _ ⟨kn, nn, mn, t⟩ _ _).mono ?_); rintro e w1 ⟨rfl, hk1⟩; rw [HR.out]; have I1 := Fact.mk (HI.out.all hk1); obtain ⟨d0, d1, d2, d3⟩ := HC.out _ I1.out.2; clear hk1)
              | (go_at_call 40; go_must (refine (rnum40 _ _ _ _ _ kn I1.out.1 N0.out S0.out).mono ?_); rintro e w2 ⟨rfl, hm2⟩; obtain ⟨v2, i2⟩ := I1.out.next hm2; have I2 := Fact.mk i2; obtain ⟨d0, d1, d2, d3⟩ := HC.out _ i2.2; clear hm2 i2)
              | (go_at_call 41; go_must (refine (has41 _ _).mono ?_); rintro e w' ⟨rfl, rfl⟩; rw [HQ.out]))
            go_roundg (gk - 1)
            case measure => have := HK.out; omega
            case rel => exact ⟨k + 1, by have := HK.out; omega, by go_num, by rw [HTK.out]; simp [HA.out, HR.out], v2, by rw [HE.out]; exact I2.out⟩
          · have HQ := Fact.mk e2
            have HE : Fact (opsBytes (l.take (k + 1)) = opsBytes (l.take k) ++ numBytes kn ++ numBytes nn) := ⟨by
              rw [HTK.out, HSN.out, (by simpa using ht : hasText (kn : Int) = false), textPart_false, e1]; simp [numsBytes]⟩
            clear ht e1 e2
            go_wp2_with (first
              | (go_at_call 39; go_must (refine (rright39 _ ⟨kn, nn, mn, t⟩ _ _).mono ?_); rintro e w1 ⟨rfl, hk1⟩; rw [HR.out]; have I1 := Fact.mk (HI.out.all hk1); obtain ⟨d0, d1, d2, d3⟩ := HC.out _ I1.out.2; clear hk1)
              | (go_at_call 40; refine (rnum40 _ _ _ _ _ nn I2.out.1 N1.out S2.out).mono ?_; rintro e w3 ⟨rfl, hm3⟩; obtain ⟨v3, i3⟩ := I2.out.next hm3; have I3 := Fact.mk i3; clear hm3 i3)
              | (go_at_call 40; refine (rnum40 _ _ _ _ _ kn I1.out.1 N0.out S0.out).mono ?_; rintro e w2 ⟨rfl, hm2⟩; obtain ⟨v2, i2⟩ := I1.out.next hm2; have I2 := Fact.mk i2; obtain ⟨d0, d1, d2, d3⟩ := HC.out _ i2.2; clear hm2 i2)
              | (go_at_call 41; go_must (refine (has41 _ _).mono ?_); rintro e w' ⟨rfl, rfl⟩; rw [HQ.out]))
            go_roundg (gk - 1)
            case measure => have := HK.out; omega
            case rel => exact ⟨k + 1, by have := HK.out; omega, by go_num, by rw [HTK.out]; simp [HA.out, HR.out], v3, by rw [HE.out]; exact I3.out⟩
          · have HQ := Fact.mk e2
            have HE : Fact (opsBytes (l.take (k + 1)) = opsBytes (l.take k) ++ numBytes kn ++ numBytes nn ++ numBytes mn) := ⟨by
              rw [HTK.out, HSN.out, (by simpa using ht : hasText (kn : Int) = false), textPart_false, e1]; simp [numsBytes]⟩
            clear ht e1 e2
            go_wp2_with (first
              | (go_at_call 39; go_must (refine (rright39 _ ⟨kn, nn, mn, t⟩ _ _).mono ?_); rintro e w1 ⟨rfl, hk1⟩; rw [HR.out]; have I1 := Fact.mk (HI.out.all hk1); obtain ⟨d0, d1, d2, d3⟩ := HC.out _ I1.out.2; clear hk1)
              | (go_at_call 40; refine (rnum40 _ _ _ _ _ mn I3.out.1 N2.out S3.out).mono ?_; rintro e w4 ⟨rfl, hm4⟩; obtain ⟨v4, i4⟩ := I3.out.next hm4; have I4 := Fact.mk i4; clear hm4 i4)
              | (go_at_call 40; refine (rnum40 _ _ _ _ _ nn I2.out.1 N1.out S2.out).mono ?_; rintro e w3 ⟨rfl, hm3⟩; obtain ⟨v3, i3⟩ := I2.out.next hm3; have I3 := Fact.mk i3; obtain ⟨d0, d1, d2, d3⟩ := HC.out _ i3.2; clear hm3 i3)
              | (go_at_call 40; refine (rnum40 _ _ _ _ _ kn I1.out.1 N0.out S0.out).mono ?_; rintro e w2 ⟨rfl, hm2⟩; obtain ⟨v2, i2⟩ := I1.out.next hm2; have I2 := Fact.mk i2; obtain ⟨d0, d1, d2, d3⟩ := HC.out _ i2.2; clear hm2 i2)
              | (go_at_call 41; go_must (refine (has41 _ _).mono ?_); rintro e w' ⟨rfl, rfl⟩; rw [HQ.out]))
            go_roundg (gk - 1)
            case measure => have := HK.out; omega
            case rel => exact ⟨k + 1, by have := HK.out; omega, by go_num, by rw [HTK.out]; simp [HA.out, HR.out], v4, by rw [HE.out]; exact I4.out⟩
      · have hr' : opRight o = false := by simpa using hr
        have HR := Fact.mk hr'
        clear hr hr'
        have HPO : Fact (putOps l = .bad 2) := ⟨by
          unfold putOps
          rw [if_neg]
          intro hall
          have := List.all_eq_true.1 hall l[k] (List.getElem_mem hk)
          rw [← HO.out, HR.out] at this
          cases this⟩
        go_wp2_with (go_at_call 39; go_must (refine (rright39 _ o _ _).mono ?_); rintro e w1 ⟨rfl, hk1⟩; rw [HR.out]; have HK1 := Fact.mk hk1; clear hk1)
        go_ret2
        exact ⟨by rw [HPO.out]; rfl, HI.out.2.trans HK1.out⟩
    · have hkl : k = l.length := by have := HK.out; omega
      subst hkl
      have HALL : Fact (l.all opRight = true) := ⟨by have := HA.out; rwa [List.take_length] at this⟩
      have HM' : Fact (RIn w wr v1 (opsBytes l)) := ⟨by have := HI.out; rwa [List.take_length] at this⟩
      have HSM : Small (opsBytes l).length := hs.mono (by have := opsBytes_len HALL.out; omega)
      by_cases hlong : (opsBytes l).length > 1000
      · have HPO : Fact (putOps l = .bad 3) := ⟨by unfold putOps; rw [if_pos HALL.out, if_pos hlong]⟩
        go_wp2_with (go_at_call 43; go_must (refine (rdone43 _ _ _ _ HM'.out.1 HSM).mono ?_); rintro e w1 ⟨A1, c1, rfl, h1, hk1⟩)
        go_ret2
        exact ⟨by rw [HPO.out]; rfl, HI.out.2.trans hk1⟩
      · have HPO : Fact (putOps l = .ok (opsBytes l)) := ⟨by unfold putOps; rw [if_pos HALL.out, if_neg hlong]⟩
        go_wp2_with (go_at_call 43; go_must (refine (rdone43 _ _ _ _ HM'.out.1 HSM).mono ?_); rintro e w1 ⟨A1, c1, rfl, h1, hk1⟩)
        go_ret2
        exact ⟨by rw [HPO.out]; exact ⟨A1, c1, rfl, own_base h1 HI.out.2.size⟩, HI.out.2.trans hk1⟩
end Go.Proofs.YtddmbdigdnmfgaaGreatDoor

/- The reference's Get: it answers what recipe's does. -/
namespace Go.Proofs.YtddmbdigdnmfgaaGreatDoor
open Go.RowKit
set_option maxHeartbeats 400000
set_option maxRecDepth 100000

/-- Amid Get: the cursor at bc, the row v of what has been got. -/
structure RInGet (w wx : World) (bc : Nat) (rest : List UInt8) (wrong : Int) (v : Value) (l : List POp) (S : Nat → Prop) : Prop where
  cur : RCur wx bc rest wrong
  keep : Keep All w wx
  base : w.heap.size ≤ bc
  small : rest.length ≤ 1000
  row : ∃ xs, wx.ownsRow (bc + 1) 88 4 v l.length xs ∧ Reps (OpRep wx (Tx bc v S)) l xs
section
variable {w wx w2 : World} {bc : Nat} {rest rest' : List UInt8} {wrong wrong' : Int} {v : Value} {l : List POp} {S : Nat → Prop}
theorem RInGet.own_ne (h : RInGet w wx bc rest wrong v l S) (g : Nat) (hg : v.ownBlock = some g) : bc < g ∧ g < wx.heap.size := by
  obtain ⟨xs, h1, _⟩ := h.row
  have := h1.lt g hg
  omega
/-- The cursor has been turned. -/
theorem RInGet.step (h : RInGet w wx bc rest wrong v l S) (k : Keep (fun i => i ≠ bc) wx w2) (hc : RCur w2 bc rest' wrong') (hs : rest'.length ≤ 1000) : RInGet w w2 bc rest' wrong' v l S := by
  obtain ⟨xs, h1, h2⟩ := h.row
  refine ⟨hc, h.keep.then_ k fun i hi _ => ?_, h.base, hs, xs, own_keep h1 k fun g hg => ?_, h2.mono fun x c _ hx => hx.keep (k.mono fun i hi => ?_)⟩
  · have := h.base; omega
  · have := h.own_ne g hg; omega
  · have := hi.1; omega
theorem RInGet.all (h : RInGet w wx bc rest wrong v l S) (k : Keep All wx w2) : RInGet w w2 bc rest wrong v l S := by
  obtain ⟨xs, h1, h2⟩ := h.row
  exact ⟨h.cur.keep k, h.keep.trans k, h.base, h.small, xs, own_keep h1 k fun _ _ => trivial, h2.mono fun x c _ hx => hx.keep k.all⟩
theorem RInGet.alloc (h : RInGet w wx bc rest wrong v l S) (o : Obj) : RInGet w (wx.alloc o) bc rest wrong v l S := h.all ((Keep.refl _ _).alloc o)
/-- What lies from here on is none of it. -/
theorem RInGet.fresh (h : RInGet w wx bc rest wrong v l S) : RInGet w wx bc rest wrong v l (fun i => S i ∧ i < wx.heap.size) := by
  obtain ⟨xs, h1, h2⟩ := h.row
  exact ⟨h.cur, h.keep, h.base, h.small, xs, h1, h2.mono fun x c _ hx => hx.mono fun i hi hg => ⟨hg.1, hg.2.1, hg.2.2, hi⟩⟩
theorem RInGet.wide {S' : Nat → Prop} (h : RInGet w wx bc rest wrong v l S) (hi : ∀ i, S i → S' i) : RInGet w wx bc rest wrong v l S' := by
  obtain ⟨xs, h1, h2⟩ := h.row
  exact ⟨h.cur, h.keep, h.base, h.small, xs, h1, h2.mono fun x c _ hx => hx.mono fun i _ hg => ⟨hg.1, hg.2.1, hi i hg.2.2⟩⟩
end
/-- The operation's own variable at bt. -/
structure RInT (wx : World) (bc bt : Nat) (v : Value) (k n m : Nat) (vt : Value) (t : List UInt8) : Prop where
  blk : Blk wx bt [.int .i64 k, .int .i64 n, .int .i64 m, vt] 88
  gt : bc < bt
  row : ∀ g, v.ownBlock = some g → g < bt
  txt : By wx (fun i => bt < i) vt t
section
variable {w wx w2 : World} {bc bt : Nat} {rest rest' : List UInt8} {wrong wrong' : Int} {v vt : Value} {l : List POp} {k n m : Nat} {t : List UInt8}
theorem RInT.step (h : RInT wx bc bt v k n m vt t) (kp : Keep (fun i => i ≠ bc) wx w2) : RInT w2 bc bt v k n m vt t :=
  ⟨h.blk.keep kp (by have := h.gt; omega), h.gt, h.row, h.txt.keep (kp.mono fun i hi => by have := h.gt; omega)⟩
theorem RInT.all (h : RInT wx bc bt v k n m vt t) (kp : Keep All wx w2) : RInT w2 bc bt v k n m vt t :=
  ⟨h.blk.keep kp trivial, h.gt, h.row, h.txt.keep kp.all⟩
theorem RInT.alloc (h : RInT wx bc bt v k n m vt t) (o : Obj) : RInT (wx.alloc o) bc bt v k n m vt t := h.all ((Keep.refl _ _).alloc o)
theorem RInT.set3 {vt' : Value} {t' : List UInt8} (h : RInT wx bc bt v k n m vt t) (hb : By wx (fun i => bt < i) vt' t') : RInT (wx.setCell ⟨bt, 3, none⟩ vt') bc bt v k n m vt' t' :=
  ⟨h.blk.set 3 _, h.gt, h.row, hb.keep ((Keep.refl _ _).setCell (.inr (by simp)) _)⟩
theorem RInT.set1 (h : RInT wx bc bt v k n m vt t) (x : Nat) : RInT (wx.setCell ⟨bt, 1, none⟩ (.int .i64 x)) bc bt v k x m vt t :=
  ⟨h.blk.set 1 _, h.gt, h.row, h.txt.keep ((Keep.refl _ _).setCell (.inr (by simp)) _)⟩
theorem RInT.set2 (h : RInT wx bc bt v k n m vt t) (x : Nat) : RInT (wx.setCell ⟨bt, 2, none⟩ (.int .i64 x)) bc bt v k n x vt t :=
  ⟨h.blk.set 2 _, h.gt, h.row, h.txt.keep ((Keep.refl _ _).setCell (.inr (by simp)) _)⟩
theorem RInGet.set (h : RInGet w wx bc rest wrong v l (fun i => i < bt)) (hT : RInT wx bc bt v k n m vt t) (j : Nat) (u : Value) : RInGet w (wx.setCell ⟨bt, j, none⟩ u) bc rest wrong v l (fun i => i < bt) := by
  have kp : Keep (fun i => i ≠ bt) wx (wx.setCell ⟨bt, j, none⟩ u) := (Keep.refl _ _).setCell (.inr (by simp)) _
  obtain ⟨xs, h1, h2⟩ := h.row
  have hbase := h.base
  have hgt := hT.gt
  refine ⟨?_, h.keep.then_ kp fun i hi _ => by omega, h.base, h.small, xs, own_keep h1 kp fun g hg => ?_, h2.mono fun x c _ hx => hx.keep (kp.mono fun i hi => ?_)⟩
  · obtain ⟨v0, c1, c2⟩ := h.cur
    exact ⟨v0, c1.keep kp (by omega), c2.keep (kp.mono fun i hi => by omega)⟩
  · have := hT.row g hg; omega
  · have := hi.2.2; omega
end

theorem RInGet.push {w wx w3 : World} {bc bt : Nat} {rest : List UInt8} {wrong : Int} {v v' vt : Value} {l : List POp} {k n m : Nat} {t : List UInt8} {xs : List Value} {S : Nat → Prop} {o : Obj}
    (h : RInGet w wx bc rest wrong v l S) (it : RInT wx bc bt v k n m vt t) (hr : Reps (OpRep wx (Tx bc v S)) l xs)
    (ho : w3.ownsRow (bc + 1) 88 4 v' (l.length + 1) (xs ++ [.int .i64 k, .int .i64 n, .int .i64 m, vt])) (hg : (wx.alloc o).grownBy w3 v.ownBlock) (hb : v'.ownBlock = v.ownBlock ∨ v'.ownBlock = some (wx.alloc o).heap.size) :
    RInGet w w3 bc rest wrong v' (l ++ [⟨k, n, m, t⟩]) (fun _ => True) := by
  have kp : Keep (fun i => v.ownBlock ≠ some i) wx w3 := ((Keep.refl _ _).alloc o).grown hg fun k hk => .inr fun hn => hn hk
  have hne : ∀ i, i ≤ bc → v.ownBlock ≠ some i := fun i hi e => by have := (h.own_ne i e).1; omega
  have hv' : ∀ i, i < wx.heap.size → v.ownBlock ≠ some i → v'.ownBlock ≠ some i := fun i hi hn => by
    rcases hb with e | e
    · rw [e]; exact hn
    · rw [e]; intro e2; cases e2; simp at hi; omega
  obtain ⟨v0, c1, c2⟩ := h.cur
  refine ⟨⟨v0, c1.keep kp (hne bc (Nat.le_refl _)), c2.keep (kp.mono fun i hi => hne i (Nat.le_of_lt hi))⟩, h.keep.then_ kp fun i hi _ => hne i (by have := h.base; omega), h.base, h.small, _, by simpa using ho, Reps.append ?_ (Reps.one ?_)⟩
  · exact hr.mono fun x c _ ⟨u, e, hu⟩ => ⟨u, e, (hu.keep (kp.mono fun i hi => hi.2.1)).mono' hu fun i hi hg => ⟨hg.1, hv' i hi hg.2.1, trivial⟩⟩
  · have hrow : ∀ i, bt < i → v.ownBlock ≠ some i := fun i hi e => by have := it.row i e; omega
    exact ⟨vt, rfl, (it.txt.keep (kp.mono hrow)).mono' it.txt fun i hi hg => ⟨by have := it.gt; omega, hv' i hi (hrow i hg), trivial⟩⟩


theorem RNumPost.res {w w' : World} {b : Nat} {rest : List UInt8} {wrong most : Int} {e : Ending} (h : RNumPost w b rest wrong most e w') :
    e = .returned (.int .i64 (numRes rest wrong most).1) ∧ RCur w' b (numRes rest wrong most).2.1 (numRes rest wrong most).2.2 ∧ Keep (fun i => i ≠ b) w w' := by
  obtain ⟨h1, h2⟩ := h
  unfold numRes
  split at h1
  · rename_i hg
    rw [if_pos hg]
    exact ⟨h1.1, h1.2, h2⟩
  · rename_i hg
    rw [if_neg hg]
    exact ⟨h1.1, h1.2, h2⟩
theorem RNumPost.res20 {w w' : World} {b : Nat} {rest : List UInt8} {wrong : Int} {most : Nat} {e : Ending} (h : RNumPost w b rest wrong most e w') :
    ∃ a, Fact (a = numRes rest wrong most) ∧ e = .returned (.int .i64 a.1) ∧ a.1 ≤ most ∧ RCur w' b a.2.1 a.2.2 ∧ Keep (fun i => i ≠ b) w w' ∧ a.2.1.length ≤ rest.length := by
  obtain ⟨h1, h2, h3⟩ := h.res
  exact ⟨_, ⟨rfl⟩, h1, numRes_le rest wrong most, h2, h3, numRes_small⟩
theorem RTextPost.res {w w' : World} {b : Nat} {rest : List UInt8} {most : Int} {e : Ending} (h : RTextPost w b rest most e w') :
    ∃ a A c, Fact (a = textRes rest most) ∧ e = .returned (.slice A a.1.length c) ∧ By w' (fun i => w.heap.size ≤ i) (.slice A a.1.length c) a.1 ∧ RCur w' b a.2.1 a.2.2 ∧ Keep (fun i => i ≠ b) w w' ∧ a.1.length ≤ rest.length ∧ a.2.1.length ≤ rest.length := by
  obtain ⟨h1, h2⟩ := h
  have hs := textRes_small rest most
  unfold textRes at *
  split at h1
  · rename_i t r ht
    rw [ht] at hs
    obtain ⟨A, c, h3, h4, h5⟩ := h1
    exact ⟨(t, r, 0), A, c, ⟨by rw [ht]⟩, h3, h4, h5, h2, hs⟩
  · rename_i x ht
    rw [ht] at hs
    exact ⟨([], [], x), none, 0, ⟨by rw [ht]⟩, h1.1, By.nil _ _, h1.2, h2, hs⟩
/-- What has been read, put again: just these bytes, if nothing went wrong. -/
theorem reread {b : List UInt8} {l : List POp} {wrong : Int} (hb : b.length ≤ 1000) (h : readAll b.length b 0 = (l, wrong)) :
    (wrong = 0 → l.all opRight = true → getOps b = .ok l ∧ putOps l = .ok b) ∧ (¬ (wrong = 0 ∧ l.all opRight = true) → getOps b = .bad 4) := by
  have hg : getOps b = if wrong = 0 ∧ l.all opRight = true then .ok l else .bad 4 := by
    rw [getOps, if_neg (by omega), h]
  constructor
  · intro h1 h2
    rw [if_pos ⟨h1, h2⟩] at hg
    exact ⟨hg, putOps_get hg⟩
  · intro h1
    rw [if_neg h1] at hg
    exact hg
theorem textRes_sum (rest : List UInt8) (most : Int) : (textRes rest most).1.length + (textRes rest most).2.1.length ≤ rest.length := by
  unfold textRes
  split
  · rename_i t r h
    unfold textGet at h
    simp only at h
    split at h
    · split at h
      · cases h
      · split at h
        · cases h; simp only [List.length_drop, List.length_take]; omega
        · cases h
    · cases h
  · simp
theorem readOp_sum {rest : List UInt8} (h : 0 < rest.length) : (readOp rest).1.text.length + (readOp rest).2.1.length + 1 ≤ rest.length := by
  have h1 : (numRes rest 0 20).2.1.length + 1 ≤ rest.length := numRes_less h
  have h2 := textRes_sum (numRes rest 0 20).2.1 1000
  have h3 := readNums_small (numbersOf (readHead rest).1) (readHead rest).2.2.1 (readHead rest).2.2.2
  have h4 : (readHead rest).2.1.length + (readHead rest).2.2.1.length ≤ (numRes rest 0 20).2.1.length := by
    unfold readHead
    split
    · exact h2
    · simp
  show (readHead rest).2.1.length + (readNums (numbersOf (readHead rest).1) (readHead rest).2.2.1 (readHead rest).2.2.2).2.2.1.length + 1 ≤ _
  omega
theorem readAll_size : ∀ (n : Nat) (rest : List UInt8) (wrong : Int), rest.length ≤ n → (readAll n rest wrong).1.length ≤ rest.length ∧ sumText (readAll n rest wrong).1 ≤ rest.length
  | 0, rest, wrong, h => by simp [readAll, sumText]
  | n + 1, rest, wrong, h => by
    rw [readAll]
    by_cases hr : rest.length = 0
    · rw [if_pos hr]; simp [sumText]
    · rw [if_neg hr]
      have h1 := readOp_less (rest := rest) (by omega)
      have h2 := readAll_size n (readOp rest).2.1 (readOp rest).2.2 (by omega)
      have h3 := readOp_sum (rest := rest) (by omega)
      simp only [List.length_cons, sumText, List.map_cons, List.sum_cons] at *
      omega
theorem head_wrong {rest : List UInt8} (h : 0 < (readHead rest).2.2.1.length) : (readHead rest).2.2.2 = 0 := by
  unfold readHead at *
  split
  · rename_i ht; rw [if_pos ht] at h; exact textRes_ok h
  · rename_i ht; rw [if_neg ht] at h; exact numRes_ok h
theorem string_of {w : World} {G : Nat → Prop} {v : Value} {l : List UInt8} (h : By w G v l) : (convert 23 9 v).run Tryz.prog w = .ok (.string ⟨l.toArray⟩) w := by
  obtain ⟨A, c, rfl, _, _, _, hat⟩ := h.open
  cases A with
  | some a =>
    refine run_convert_bytes_back w 23 9 5 a c l Tryz.underlying23 Tryz.underlying5 Tryz.underlying9 fun j hj => ?_
    obtain ⟨b, off, e, _, hc⟩ := hat (by omega)
    cases e
    rw [add_at]
    have := hc j hj
    simpa [List.getElem?_eq_getElem hj] using this
  | none =>
    cases l with
    | nil => exact run_convert_bytes_nil w 23 5 Tryz.underlying23 Tryz.underlying5 _ _ 9 Tryz.underlying9
    | cons x l =>
      obtain ⟨b, off, e, _⟩ := hat (by simp)
      cases e
theorem readAll_sizes {b : List UInt8} {ops : List POp} {wrong : Int} (hb : b.length ≤ 1000) (h : readAll b.length b 0 = (ops, wrong)) : ops.length ≤ 1000 ∧ opsSize ops ≤ 33000 := by
  have h1 := readAll_size b.length b 0 (Nat.le_refl _)
  rw [h] at h1
  simp only at h1
  rw [opsSize_sum]
  omega
theorem rget14 (w : World) (G : Nat → Prop) (v : Value) (b : List UInt8) (h : By w G v b) : Calls Tryz.prog 14 #[v] w (GetPost w b) := by
  obtain ⟨A, c, rfl, -⟩ := h.open
  have H := Fact.mk h
  by_cases hlen : b.length ≤ 1000
  case neg =>
    have HG : Fact (getOps b = .bad 3) := ⟨by rw [getOps, if_pos (by omega)]⟩
    have hgt : (1000 : Int) < b.length := by omega
    clear h hlen
    go_enter Tryz.func14, Tryz.ntmps14
    go_wp2
    go_ret2
    exact ⟨by rw [HG.out]; rfl, Keep.refl _ _⟩
  have hgt : (b.length : Int) ≤ 1000 := by omega
  have HF0 : Fact (Fits 0 b.length 1) := ⟨Fits.of (Small.of (by omega)) 1 (by decide)⟩
  clear h
  go_enter Tryz.func14, Tryz.ntmps14
  go_upto_region 4 with (at_builtin; go_must (refine wpList_ap rfl _ _ 23 5 1 1 w.heap.size 0 b.length (own_empty w 5 1) (Sl.keep H.out ((Keep.refl _ _).alloc _).all) rfl T23 rfl rfl HF0.out (alloc_le (Nat.le_refl _)) ?_); intro v' w1 ho hg hb; have K1 := Fact.mk (((Keep.refl All w).alloc _).grown hg fun j hj => .inl ((own_empty w 5 1).lt j hj).1); have HO1 := Fact.mk ho; obtain ⟨A1, c1, rfl⟩ := own_form ho; clear ho hg hb)
  obtain ⟨bc, hbc⟩ : ∃ n, n = w1.heap.size := ⟨_, rfl⟩
  obtain ⟨W, hW⟩ : ∃ X, X = w1.alloc (.cells #[.slice A1 b.length c1, .int .i64 0] 101) := ⟨_, rfl⟩
  rw [← hW, ← hbc]
  have HC : Fact (RCur W bc b 0) := ⟨by
    rw [hW, hbc]
    refine ⟨_, Blk.new w1 [_, _] 101, ?_⟩
    have h1 : By w1 (fun i => w.heap.size ≤ i) (.slice A1 b.length c1) b := by
      have := By.of_own (n := 0 + b.length) (l := b) (by simpa using HO1.out)
      exact this
    exact (h1.keep ((Keep.refl _ _).alloc _)).mono' h1 fun i hi _ => hi⟩
  have HK : Fact (Keep All w W) := ⟨hW ▸ K1.out.alloc _⟩
  have HB : Fact (w.heap.size ≤ bc) := ⟨hbc ▸ K1.out.size⟩
  clear HO1 K1 hW hbc
  go_upto_block 0 with (fail)
  go_cut [5] (fun x w' => ∃ l wrong A c, x = .slice A l.length c ∧ RInGet w w' bc [] wrong (.slice A l.length c) l (fun _ => True) ∧ readAll b.length b 0 = (l, wrong))
  case first =>
    go_wp2
    go_loopg [5] b.length (fun g x w' => ∃ l rest wrong A c, x = .slice A l.length c ∧ RInGet w w' bc rest wrong (.slice A l.length c) l (fun _ => True) ∧ (0 < rest.length → wrong = 0) ∧ rest.length ≤ g ∧ l.length + rest.length ≤ 1000 ∧ readAll b.length b 0 = (l ++ (readAll g rest wrong).1, (readAll g rest wrong).2))
    case atStart => exact ⟨[], b, 0, none, 0, rfl, ⟨HC.out, HK.out, HB.out, hlen, [], World.ownsRow_nil _ _ _ _, rfl⟩, fun _ => rfl, Nat.le_refl _, by simpa using hlen, by simp⟩
    case round =>
      obtain ⟨l, rest, wrong, A2, c2, rfl, hin, hw0, hrg, hlr, hall⟩ := hrel
      have HI := Fact.mk hin
      have HALL := Fact.mk hall
      have HW0 := Fact.mk hw0
      obtain ⟨vv, hv1, hv2⟩ := hin.cur
      obtain ⟨Ac, cc, rfl, -⟩ := hv2.open
      have g0 := hv1.cell 0 _ rfl
      have hbcl := hv1.lt
      clear hin hall hw0 hv1 hv2
      by_cases hr : 0 < rest.length
      · have hw := HW0.out hr
        subst hw
        have HSM2 : Small rest.length := Small.of (by have := HI.out.small; omega)
        have HZ : Fact (0 < rest.length → (0 : Int) = 0) := ⟨fun _ => rfl⟩
        go_upto_block 2 with (first
          | (go_at_call 52; go_must (refine (rnum52 _ _ _ _ (20 : Nat) HI.out.cur HZ.out (by decide) HSM2).mono ?_); rintro e w2 hp; obtain ⟨a, HA', rfl, ha20, hc2, hk2, hs2⟩ := hp.res20; have HA : Fact (a = numRes rest 0 20) := ⟨HA'.out⟩; clear HA'; have I2 := Fact.mk (HI.out.step hk2 hc2 (Nat.le_trans hs2 HI.out.small)); clear hp hc2 hk2 hs2)
          | (go_at_call 41; go_must (refine (has41 _ _).mono ?_); rintro e w' ⟨rfl, rfl⟩))
        have IT0 : Fact (RInT (w2.alloc (.cells #[.int .i64 a.1, .int .i64 0, .int .i64 0, .slice none 0 0] 88)) bc w2.heap.size (.slice A2 l.length c2) a.1 0 0 (.slice none 0 0) []) :=
          ⟨⟨Blk.new _ [_, _, _, _] _, (by have := I2.out.cur; obtain ⟨v0, hv, -⟩ := this; exact hv.lt), fun g hg => (I2.out.own_ne g hg).2, By.nil _ _⟩⟩
        have I3 := Fact.mk ((I2.out.fresh.alloc (.cells #[.int .i64 a.1, .int .i64 0, .int .i64 0, .slice none 0 0] 88)).wide (S' := fun i => i < w2.heap.size) fun i h => h.2)
        obtain ⟨hd, hhd⟩ : ∃ h, h = readHead rest := ⟨_, rfl⟩
        have HHD := Fact.mk hhd
        clear hhd
        have HD1 : Fact (hd.1 = a.1) := ⟨by rw [HHD.out, readHead, ← HA.out]; split <;> rfl⟩
        obtain ⟨q, hq⟩ : ∃ q, q = hasOf (a.1 : Int) := ⟨_, rfl⟩
        rw [← hq]
        have HQ := Fact.mk hq
        clear hq
        go_cut [6] (fun x6 w' => ∃ vt n m rest' wrong', x6 = .pointer (some ⟨w2.heap.size, 0, none⟩) ∧ RInT w' bc w2.heap.size (.slice A2 l.length c2) a.1 n m vt hd.2.1 ∧ RInGet w w' bc rest' wrong' (.slice A2 l.length c2) l (fun i => i < w2.heap.size) ∧ readNums (numbersOf a.1) hd.2.2.1 hd.2.2.2 = (n, m, rest', wrong'))
        case first =>
          by_cases htx : hasText (a.1 : Int) = true
          · have HD : Fact (hd = (a.1, textRes a.2.1 1000)) := ⟨by rw [HHD.out, readHead, ← HA.out, if_pos htx]⟩
            have hw2 : a.2.2 = 0 := by rw [HA.out]; exact numRes_wrong (by rw [← HA.out]; exact htx)
            have C3 := Fact.mk (hw2 ▸ I3.out.cur)
            have HSM3 : Small a.2.1.length := Small.of (by have := I2.out.small; omega)
            have HN0 := Fact.mk (numbersOf_text htx)
            have e2 := hasOf_text htx
            rw [← HQ.out] at e2
            subst e2
            clear hw2 htx
            go_wp2_with (first
              | (go_at_call 53; go_must (refine (rtext53 _ _ _ _ C3.out HSM3).mono ?_); rintro e w3 hp; obtain ⟨d, Ad, cd, HDD, rfl, hby, hc3, hk3, hs3, hs4⟩ := hp.res; have I4 := Fact.mk (I3.out.step hk3 hc3 (Nat.le_trans hs4 I3.out.small)); have IT1 := Fact.mk (IT0.out.step hk3); have HBY := Fact.mk hby; have q3 := IT1.out.blk.cell 3 _ rfl; have f3 := IT1.out.blk.free 3; clear hp hby hc3 hk3 hs3 hs4))
            go_meet
            case rel => exact ⟨_, 0, 0, _, _, rfl, by rw [HD.out, ← HDD.out]; exact IT1.out.set3 (HBY.out.mono fun i _ h => Nat.lt_of_lt_of_le (by simp) h), I4.out.set IT1.out 3 _, by rw [HN0.out, HD.out, ← HDD.out]; rfl⟩
          · have HD : Fact (hd = (a.1, [], a.2.1, a.2.2)) := ⟨by rw [HHD.out, readHead, ← HA.out, if_neg htx]⟩
            have htx' : hasText (a.1 : Int) = false := by simpa using htx
            have HZ1 : Fact (0 < a.2.1.length → a.2.2 = 0) := ⟨fun h0 => by
              have := head_wrong (rest := rest) (by rw [← HHD.out, HD.out]; exact h0)
              rw [← HHD.out, HD.out] at this
              exact this⟩
            have HSM3 : Small a.2.1.length := Small.of (by have := I2.out.small; omega)
            rcases hasOf_nums htx' with ⟨e1, e2⟩ | ⟨e1, e2⟩ | ⟨e1, e2⟩
            · have HN := Fact.mk e1
              rw [← HQ.out] at e2
              subst e2
              clear e1 htx htx'
              go_wp2
              go_meet
              case rel => exact ⟨_, 0, 0, _, _, rfl, by rw [HD.out]; exact IT0.out, I3.out, by rw [HN.out, HD.out]; rfl⟩
            · have HN := Fact.mk e1
              rw [← HQ.out] at e2
              subst e2
              clear e1 htx htx'
              go_wp2_with (go_at_call 52; go_must (refine (rnum52 _ _ _ _ (4096 : Nat) I3.out.cur HZ1.out (by decide) HSM3).mono ?_); rintro e w3 hp; obtain ⟨d, HD', rfl, hd4, hc3, hk3, hs3⟩ := hp.res20; have HD2 : Fact (d = readNum a.2.1 a.2.2) := ⟨HD'.out⟩; have IT2 := Fact.mk (IT0.out.step hk3); have IG2 := Fact.mk (I3.out.step hk3 hc3 (Nat.le_trans hs3 I3.out.small)); have n1 := IT2.out.blk.cell 1 _ rfl; have m1 := IT2.out.blk.free 1; clear hp hc3 hk3 hs3 HD')
              go_meet
              case rel => exact ⟨_, d.1, 0, _, _, rfl, by rw [HD.out]; exact IT2.out.set1 d.1, IG2.out.set IT2.out 1 (.int .i64 d.1), by rw [HN.out, HD.out, readNums, if_neg (by decide), if_pos rfl, ← HD2.out]⟩
            · have HN := Fact.mk e1
              rw [← HQ.out] at e2
              subst e2
              clear e1 htx htx'
              go_upto_region 14 with (go_at_call 52; go_must (refine (rnum52 _ _ _ _ (4096 : Nat) I3.out.cur HZ1.out (by decide) HSM3).mono ?_); rintro e w3 hp; obtain ⟨d, HD', rfl, hd4, hc3, hk3, hs3⟩ := hp.res20; have HD2 : Fact (d = readNum a.2.1 a.2.2) := ⟨HD'.out⟩; have IT2 := Fact.mk (IT0.out.step hk3); have IG2 := Fact.mk (I3.out.step hk3 hc3 (Nat.le_trans hs3 I3.out.small)); have n1 := IT2.out.blk.cell 1 _ rfl; have m1 := IT2.out.blk.free 1; have HS3 := Fact.mk hs3; clear hp hc3 hk3 hs3 HD')
              have IT3 := Fact.mk (IT2.out.set1 d.1)
              have IG3 := Fact.mk (IG2.out.set IT2.out 1 (.int .i64 d.1))
              have HZ2 : Fact (0 < d.2.1.length → d.2.2 = 0) := ⟨fun h0 => by
                have h1 : d.2.2 = a.2.2 := by rw [HD2.out]; exact numRes_ok (by rw [HD2.out] at h0; exact h0)
                rw [h1]
                exact HZ1.out (by have := HS3.out; omega)⟩
              have HSM5 : Small d.2.1.length := Small.of (by have := IG3.out.small; omega)
              go_wp2_with (go_at_call 52; go_must (refine (rnum52 _ _ _ _ (4096 : Nat) IG3.out.cur HZ2.out (by decide) HSM5).mono ?_); rintro e w4 hp; obtain ⟨f, HF', rfl, hf4, hc3, hk3, hs3⟩ := hp.res20; have HF2 : Fact (f = readNum d.2.1 d.2.2) := ⟨HF'.out⟩; have IT4 := Fact.mk (IT3.out.step hk3); have IG4 := Fact.mk (IG3.out.step hk3 hc3 (Nat.le_trans hs3 IG3.out.small)); have n2 := IT4.out.blk.cell 2 _ rfl; have m2 := IT4.out.blk.free 2; clear hp hc3 hk3 hs3 HF')
              go_meet
              case rel => exact ⟨_, d.1, f.1, _, _, rfl, by rw [HD.out]; exact IT4.out.set2 f.1, IG4.out.set IT4.out 2 (.int .i64 f.1), by rw [HN.out, HD.out, readNums, if_neg (by decide), if_neg (by decide), ← HD2.out, ← HF2.out]⟩
        case rest =>
          obtain ⟨vt, n, m, rest', wrong', rfl, it, ig, hrn⟩ := hcut
          obtain ⟨At, ct, rfl, -⟩ := it.txt.open
          have e0 := it.blk.cell 0 _ rfl
          have e1 := it.blk.cell 1 _ rfl
          have e2 := it.blk.cell 2 _ rfl
          have e3 := it.blk.cell 3 _ rfl
          have IT5 := Fact.mk it
          have IG5 := Fact.mk ig
          have HRN := Fact.mk hrn
          obtain ⟨xs, hrow, hreps⟩ := ig.row
          have HROW := Fact.mk hrow
          have HREPS := Fact.mk hreps
          have hcl : bc < wc.heap.size := by obtain ⟨v0, hv, -⟩ := ig.cur; exact hv.lt
          clear it ig hrn hrow hreps
          have HF := Fact.mk (Fits.of (n := l.length) (m := 1) (Small.of (by omega)) 48 (by decide))
          have hone : ∀ u ∈ [Value.int .i64 a.1, .int .i64 n, .int .i64 m, .slice At hd.2.1.length ct], u.oneCell' = true := by simp [Value.oneCell']
          have HO := Fact.mk hone
          clear hone
          go_wp2_with (at_builtin; go_must (refine wpList_ap rfl _ _ 32 88 4 48 (bc + 1) l.length 1 (HROW.out.alloc _) (Sl.new wc 88 4 1 [.int .i64 a.1, .int .i64 n, .int .i64 m, .slice At hd.2.1.length ct] rfl (by decide) HO.out) rfl T32 rfl rfl HF.out (alloc_le hcl) ?_); intro v' w6 ho hg hb; have I6 := Fact.mk (IG5.out.push IT5.out HREPS.out ho hg hb); obtain ⟨A6, c6, rfl⟩ := own_form ho; clear ho hg hb)
          have HOP : Fact (readOp rest = (⟨a.1, n, m, hd.2.1⟩, rest', wrong')) := ⟨by
            show ((⟨(readHead rest).1, (readNums (numbersOf (readHead rest).1) (readHead rest).2.2.1 (readHead rest).2.2.2).1, (readNums (numbersOf (readHead rest).1) (readHead rest).2.2.1 (readHead rest).2.2.2).2.1, (readHead rest).2.1⟩, (readNums (numbersOf (readHead rest).1) (readHead rest).2.2.1 (readHead rest).2.2.2).2.2.1, (readNums (numbersOf (readHead rest).1) (readHead rest).2.2.1 (readHead rest).2.2.2).2.2.2) : POp × List UInt8 × Int) = _
            rw [← HHD.out, HD1.out, HRN.out]⟩
          have hless := readOp_less hr
          rw [HOP.out] at hless
          simp only at hless
          go_roundg (gk - 1)
          case measure => omega
          case rel =>
            refine ⟨l ++ [⟨a.1, n, m, hd.2.1⟩], rest', wrong', A6, c6, by simp, by simpa using I6.out, ?_, by omega, by simp; omega, ?_⟩
            · intro hp
              have := readOp_wrong (rest := rest) (by rw [HOP.out]; exact hp)
              rw [HOP.out] at this
              exact this
            · rw [HALL.out]
              obtain ⟨g1, rfl⟩ : ∃ g1, gk = g1 + 1 := ⟨gk - 1, by omega⟩
              rw [readAll, if_neg (by omega), HOP.out]
              simp
      · have hr0 : rest = [] := List.eq_nil_of_length_eq_zero (by omega)
        subst hr0
        go_wp2
        go_meet
        case rel => exact ⟨l, wrong, A2, c2, rfl, HI.out, by rw [HALL.out, readAll_nil]; simp⟩
  case rest =>
    obtain ⟨l, wrong, A2, c2, rfl, hin, hall⟩ := hcut
    obtain ⟨hz1, hz2⟩ := readAll_sizes hlen hall
    obtain ⟨hr1, hr2⟩ := reread hlen hall
    obtain ⟨xs, hrow, hreps⟩ := hin.row
    have HO : Fact (OpsR wc (fun i => w.heap.size ≤ i) (.slice A2 l.length c2) l) := ⟨xs, (Sl.of_own hrow (hreps.all1 OpRep.one)).mono fun i _ hi => Nat.le_trans hin.base (Nat.le_of_lt hi), hreps.mono fun x c _ hx => hx.mono fun i _ hg => Nat.le_trans hin.base (Nat.le_of_lt hg.1)⟩
    have HC2 := Fact.mk hin.cur
    have HK2 := Fact.mk hin.keep
    have HSZ : Fact (Small (opsSize l + 64)) := ⟨Small.of (by omega)⟩
    have HSL : Fact (l.length ≤ 1048576) := ⟨by omega⟩
    have HR1 := Fact.mk hr1
    have HR2 := Fact.mk hr2
    have HALL := Fact.mk hall
    clear hin hrow hreps hr1 hr2 hall hz1 hz2
    go_upto_region 17 with (go_at_call 11; go_must (refine (rput11 _ _ _ _ HO.out HSZ.out HSL.out).mono ?_); rintro e w3 hp; obtain ⟨A3, n3, c3, x3, rfl, HP, HK3⟩ := hp.plain.form; clear hp)
    obtain ⟨k3, hk3⟩ : ∃ k, k = Keep.trans HK2.out HK3.out := ⟨_, rfl⟩
    have hcb := string_of (H.out.keep k3.all)
    rcases HP.out with ⟨b3, hp, rfl, rfl, hby⟩ | ⟨hp, hx, rfl, rfl, rfl⟩
    · have hca := string_of hby
      have hend : Calls Tryz.prog 54 #[.pointer (some ⟨bc, 0, none⟩)] w3 fun e w' => e = .returned (.int .i64 wrong) ∧ w3 = w' := by
        refine (rend54 _ _ _ _ (HC2.out.keep HK3.out)).mono ?_
        rintro e w' ⟨rfl, rfl⟩
        exact ⟨by rw [endErr, if_neg (fun h => absurd h.2 (by simp))], rfl⟩
      by_cases hw : wrong = 0
      · subst hw
        obtain ⟨hg, hpb⟩ := HR1.out rfl ((putOps_ok.1 hp).1)
        rw [hpb] at hp
        cases hp
        go_wp2_with (go_at_call 54; go_must (refine hend.mono ?_); rintro e w4 ⟨rfl, rfl⟩)
        go_ret2
        exact ⟨by rw [hg]; exact ⟨A2, c2, rfl, HO.out.keep HK3.out.all⟩, HK2.out.trans HK3.out⟩
      · have hg := HR2.out fun h => hw h.1
        go_wp2_with (go_at_call 54; go_must (refine hend.mono ?_); rintro e w4 ⟨rfl, rfl⟩)
        go_ret2
        exact ⟨by rw [hg]; rfl, HK2.out.trans HK3.out⟩
    · have hg := HR2.out fun h => by
        have := HR1.out h.1 h.2
        rw [this.2] at hp
        cases hp
      go_wp2_with (fail)
      go_ret2
      exact ⟨by rw [hg]; rfl, HK2.out.trans HK3.out⟩
end Go.Proofs.YtddmbdigdnmfgaaGreatDoor
