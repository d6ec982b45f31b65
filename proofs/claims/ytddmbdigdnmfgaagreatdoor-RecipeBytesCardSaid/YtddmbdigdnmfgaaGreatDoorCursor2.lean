import Derived.Test.YtddmbdigdnmfgaaGreatDoorCursor
namespace Go.Proofs.YtddmbdigdnmfgaaGreatDoor
open Go.RowKit
set_option maxHeartbeats 400000
set_option maxRecDepth 100000

/-- Over: a cursor over a copy. -/
def OverPost (w : World) (l : List UInt8) (e : Ending) (w' : World) : Prop := ∃ b, e = .returned (.pointer (some ⟨b, 0, none⟩)) ∧ w.heap.size ≤ b ∧ Cur w' b l 0 ∧ Keep All w w'
theorem over44 (w : World) (G : Nat → Prop) (v : Value) (l : List UInt8) (h : By w G v l) (hl : Small l.length) :
    Calls Tryz.prog 44 #[v] w (OverPost w l) := by
  have H := Fact.mk h
  clear h
  go_enter Tryz.func44, Tryz.ntmps44
  go_wp2_with (go_at_call 72; refine (clone72 _ _ _ _ H.out hl).mono ?_; rintro e w1 ⟨A, c, rfl, h1, hk⟩)
  go_ret
  refine ⟨w1.heap.size, rfl, hk.size, ⟨_, Blk.new w1 [_, _] 157, (h1.keep ((Keep.refl _ _).alloc _)).mono' h1 fun i hi _ => by omega⟩, hk.alloc _⟩

/-- What Raw hands out, and leaves. -/
def RawPost (w : World) (b : Nat) (rest : List UInt8) (wrong many : Int) (e : Ending) (w' : World) : Prop :=
  (if wrong = 0 ∧ 0 ≤ many ∧ many ≤ rest.length then ∃ A c, e = .returned (.slice A many.toNat c) ∧ By w' (fun i => w.heap.size ≤ i) (.slice A many.toNat c) (rest.take many.toNat) ∧ Cur w' b (rest.drop many.toNat) wrong
   else e = .returned (.slice none 0 0) ∧ Cur w' b [] (broken wrong 4)) ∧ Keep (fun i => i ≠ b) w w'

theorem u64_above {many : Int} (hm : -9223372036854775808 ≤ many ∧ many ≤ 9223372036854775807) (n : Nat) (h : ¬ (0 ≤ many ∧ many ≤ n)) (hn : (n : Int) ≤ 1048576) : (n : Int) < IntKind.u64.wrap many := by
  simp only [IntKind.wrap, IntKind.bits, IntKind.signed, Bool.false_and, Bool.false_eq_true, if_false]
  omega
theorem raw_good {w w1 : World} {b k : Nat} {rest : List UInt8} {A1 : Option Addr} {c1 : Nat} {v v' : Value} (hk : k ≤ rest.length) (hl : (rest.take k).length = k)
    (h1 : By w1 (fun i => w.heap.size ≤ i) (.slice A1 (rest.take k).length c1) (rest.take k)) (hb : Blk w1 b [v, .int .i64 0] 157) (hd : By w (fun i => i < b) v' (rest.drop k)) (hk1 : Keep All w w1) (hlt : b < w.heap.size) :
    RawPost w b rest 0 k (.returned (.slice A1 k c1)) (w1.setCell ⟨b, 0, none⟩ v') := by
  refine ⟨?_, hk1.all.setCell (.inr (by simp)) _⟩
  rw [if_pos ⟨rfl, by omega, by omega⟩]
  rw [hl] at h1
  exact ⟨A1, c1, rfl, h1.keep ((Keep.refl _ _).setCell (.inr (by simp; omega)) _), Cur.set hb (hd.keep hk1.all)⟩

theorem raw77 (w : World) (b : Nat) (rest : List UInt8) (wrong many : Int) (h : Cur w b rest wrong) (hm : -9223372036854775808 ≤ many ∧ many ≤ 9223372036854775807) (hl : Small rest.length) :
    Calls Tryz.prog 77 #[.pointer (some ⟨b, 0, none⟩), .int .i64 many] w (RawPost w b rest wrong many) := by
  have HC := Fact.mk h
  obtain ⟨v, h1, h2⟩ := h
  obtain ⟨A, c, rfl, hn, hc, hA, hat⟩ := h2.open
  have g0 := h1.cell 0 _ rfl
  have g1 := h1.cell 1 _ rfl
  have f0 := h1.free 0
  have H := Fact.mk h1
  have HB := Fact.mk h2
  clear h1 h2 hat
  by_cases hgood : wrong = 0 ∧ 0 ≤ many ∧ many ≤ rest.length
  · obtain ⟨rfl, h0, hle⟩ := hgood
    obtain ⟨k, rfl⟩ := Int.eq_ofNat_of_zero_le h0
    have hk : k ≤ rest.length := by omega
    have hw := u64_pos h0 hm.2
    have hwl : IntKind.u64.wrap (rest.length : Int) = rest.length := u64_pos (by omega) (by have := hl.le; omega)
    have hsm := hl.mono (show (rest.take k).length ≤ rest.length by rw [List.length_take]; omega)
    have HT := Fact.mk (HB.out.take hk)
    have HD := Fact.mk (HB.out.drop hk)
    have hlt : (rest.take k).length = k := by rw [List.length_take]; omega
    have HL := Fact.mk hlt
    clear hm h0 hle hlt
    go_enter Tryz.func77, Tryz.ntmps77
    go_wp2_with (go_at_call 72; refine (clone72 _ _ _ _ HT.out hsm).mono ?_; rintro e w1 ⟨A1, c1, rfl, h1, hk1⟩; have H1 := Fact.mk (H.out.keep hk1 trivial); have g01 := H1.out.cell 0 _ rfl; have f01 := H1.out.free 0)
    · have hd := HD.out.1 ‹_›
      go_ret
      exact raw_good (by omega) HL.out h1 H1.out hd hk1 H.out.lt
    · have hd := HD.out.2 ‹_›
      go_ret
      exact raw_good (by omega) HL.out h1 H1.out hd hk1 H.out.lt
  · have HG := Fact.mk hgood
    have hwl : IntKind.u64.wrap (rest.length : Int) = rest.length := u64_pos (by omega) (by have := hl.le; omega)
    have hbad := u64_above hm (rest.length)
    clear hgood
    by_cases hw0 : wrong = 0
    · have hwb : (wrong != 0) = false := by simp [hw0]
      have hgt : (rest.length : Int) < IntKind.u64.wrap many := hbad (fun h => HG.out ⟨hw0, h⟩) (by have := hl.le; omega)
      clear hbad hm
      go_enter Tryz.func77, Tryz.ntmps77
      go_wp2_with (go_at_call 76; refine (fail76 _ _ _ _ _ HC.out).mono ?_; rintro e w1 ⟨rfl, hcur, hk⟩)
      go_ret
      exact ⟨by rw [if_neg HG.out]; exact ⟨rfl, hcur⟩, hk⟩
    · have hwb : (wrong != 0) = true := by simp [hw0]
      clear hbad hm
      go_enter Tryz.func77, Tryz.ntmps77
      go_wp2_with (go_at_call 76; refine (fail76 _ _ _ _ _ HC.out).mono ?_; rintro e w1 ⟨rfl, hcur, hk⟩)
      go_ret
      exact ⟨by rw [if_neg HG.out]; exact ⟨rfl, hcur⟩, hk⟩

/-! ### Text -/
/-- What Text hands out, and leaves: the pure side. -/
inductive TextRes where
  | ok (l rest : List UInt8)
  | bad (e : Int)
def textGet (rest : List UInt8) (most : Int) : TextRes :=
  let r := numScan 0 0 rest
  if numGood r 1099511627776 = true then
    if most < (r.1 : Int) then .bad 3 else
    if r.1 ≤ (rest.drop r.2).length then .ok ((rest.drop r.2).take r.1) ((rest.drop r.2).drop r.1) else .bad 4
  else .bad 4
def TextPost (w : World) (b : Nat) (rest : List UInt8) (most : Int) (e : Ending) (w' : World) : Prop :=
  (match textGet rest most with
   | .ok l r => ∃ A c, e = .returned (.slice A l.length c) ∧ By w' (fun i => w.heap.size ≤ i) (.slice A l.length c) l ∧ Cur w' b r 0
   | .bad x => e = .returned (.slice none 0 0) ∧ Cur w' b [] x) ∧ Keep (fun i => i ≠ b) w w'
/-- A cursor that is broken stays so. -/
def Dead (w : World) (b : Nat) (wrong : Int) (e : Ending) (w' : World) : Prop := e = .returned (.slice none 0 0) ∧ Cur w' b [] wrong ∧ Keep (fun i => i ≠ b) w w'
theorem numGood_nil (most : Int) : numGood (numScan 0 0 []) most = false := by simp [numScan, numGood]

theorem RawPost.form {w w' : World} {b : Nat} {rest : List UInt8} {wrong many : Int} {e : Ending} (h : RawPost w b rest wrong many e w') : ∃ A c q, e = .returned (.slice A q c) := by
  obtain ⟨h, _⟩ := h
  split at h
  · obtain ⟨A, c, rfl, _⟩ := h; exact ⟨A, c, _, rfl⟩
  · obtain ⟨rfl, _⟩ := h; exact ⟨none, 0, 0, rfl⟩

theorem textDead48 (w : World) (b : Nat) (wrong most : Int) (h : Cur w b [] wrong) (hw : ¬ wrong = 0) :
    Calls Tryz.prog 48 #[.pointer (some ⟨b, 0, none⟩), .int .i64 most] w (Dead w b wrong) := by
  have H := Fact.mk h
  have HW := Fact.mk hw
  clear h
  have hwb : (wrong != 0) = true := by simp [hw]
  clear hw
  go_enter Tryz.func48, Tryz.ntmps48
  go_wp2_with (go_at_call 46; refine (num46 _ _ _ _ _ H.out (by decide) (Small.of (by simp))).mono ?_; rintro e w1 ⟨hp, hk⟩; rw [if_neg (by rw [numGood_nil]; simp)] at hp; obtain ⟨rfl, hc⟩ := hp; rw [broken, if_neg HW.out] at hc; have HC := Fact.mk hc; obtain ⟨v, h1, h2⟩ := hc; have g1 := h1.cell 1 _ rfl)
  go_ret
  exact ⟨rfl, HC.out, hk⟩

theorem text48 (w : World) (b : Nat) (rest : List UInt8) (most : Int) (h : Cur w b rest 0) (hl : Small rest.length) :
    Calls Tryz.prog 48 #[.pointer (some ⟨b, 0, none⟩), .int .i64 most] w (TextPost w b rest most) := by
  have H := Fact.mk h
  clear h
  by_cases hg : numGood (numScan 0 0 rest) 1099511627776 = true
  · have hr := (numGood_iff _ _).1 hg
    obtain ⟨n, hn⟩ : ∃ n, n = (numScan 0 0 rest).1 := ⟨_, rfl⟩
    obtain ⟨k, hk⟩ : ∃ k, k = (numScan 0 0 rest).2 := ⟨_, rfl⟩
    rw [← hn] at hr
    have hb : (-9223372036854775808 : Int) ≤ n ∧ (n : Int) ≤ 9223372036854775807 := by omega
    have HB := Fact.mk hb
    have hsm : Small (rest.drop k).length := hl.mono (by simp)
    have HG := Fact.mk hg
    have HN := Fact.mk hn
    have HK := Fact.mk hk
    clear hr hb hg hn hk
    have TG : Fact (textGet rest most = if most < (n : Int) then .bad 3 else if n ≤ (rest.drop k).length then .ok ((rest.drop k).take n) ((rest.drop k).drop n) else .bad 4) := ⟨by
      unfold textGet
      simp only [if_pos HG.out, ← HN.out, ← HK.out]⟩
    by_cases hm : most < (n : Int)
    · go_enter Tryz.func48, Tryz.ntmps48
      go_wp2_with (first
        | (go_at_call 46; refine (num46 _ _ _ _ _ H.out (by decide) hl).mono ?_; rintro e w1 ⟨hp, hk1⟩; rw [if_pos HG.out, ← HN.out, ← HK.out] at hp; obtain ⟨rfl, hc⟩ := hp; have HC := Fact.mk hc; obtain ⟨v, h1, h2⟩ := hc; have g1 := h1.cell 1 _ rfl; clear h1 h2)
        | (go_at_call 76; refine (fail76 _ _ _ _ _ HC.out).mono ?_; rintro e w2 ⟨rfl, hcur, hk2⟩))
      go_ret
      exact ⟨by rw [TG.out, if_pos hm]; exact ⟨rfl, hcur⟩, hk1.trans hk2⟩
    · have hm' : (n : Int) ≤ most := by omega
      go_enter Tryz.func48, Tryz.ntmps48
      go_wp2_with (first
        | (go_at_call 46; refine (num46 _ _ _ _ _ H.out (by decide) hl).mono ?_; rintro e w1 ⟨hp, hk1⟩; rw [if_pos HG.out, ← HN.out, ← HK.out] at hp; obtain ⟨rfl, hc⟩ := hp; have HC := Fact.mk hc; obtain ⟨v, h1, h2⟩ := hc; have g1 := h1.cell 1 _ rfl; clear h1 h2)
        | (go_at_call 77; refine (raw77 _ _ _ _ _ HC.out HB.out hsm).mono ?_; rintro e w2 hp2; have HP := Fact.mk hp2; clear hp2; obtain ⟨A, c, q, rfl⟩ : ∃ A c q, e = .returned (.slice A q c) := RawPost.form HP.out))
      go_ret
      obtain ⟨hp2, hk2⟩ := HP.out
      refine ⟨?_, hk1.trans hk2⟩
      rw [TG.out, if_neg (by omega)]
      by_cases hle : n ≤ (rest.drop k).length
      · rw [if_pos ⟨rfl, by omega, by exact_mod_cast hle⟩] at hp2
        rw [if_pos hle]
        obtain ⟨A', c', he, h3, h4⟩ := hp2
        have hlt : ((rest.drop k).take n).length = n := by rw [List.length_take]; omega
        refine ⟨A', c', ?_, ?_, h4⟩
        · rw [hlt]; exact he
        · rw [hlt]; exact h3.mono fun i _ h => Nat.le_trans hk1.size h
      · rw [if_neg (by rintro ⟨_, _, h⟩; exact hle (by exact_mod_cast h))] at hp2
        rw [if_neg hle]
        exact hp2
  · have HG := Fact.mk hg
    clear hg
    go_enter Tryz.func48, Tryz.ntmps48
    go_wp2_with (go_at_call 46; refine (num46 _ _ _ _ _ H.out (by decide) hl).mono ?_; rintro e w1 ⟨hp, hk⟩; rw [if_neg HG.out] at hp; obtain ⟨rfl, hc⟩ := hp; have HC := Fact.mk hc; obtain ⟨v, h1, h2⟩ := hc; have g1 := h1.cell 1 _ rfl; rw [broken, if_pos rfl] at g1; clear h1 h2)
    go_ret
    exact ⟨by unfold textGet; rw [if_neg HG.out]; exact ⟨rfl, HC.out⟩, hk⟩

/-- The error at the end: none is missing. -/
def endErr (rest : List UInt8) (wrong : Int) : Int := if wrong = 0 ∧ 0 < rest.length then 4 else wrong
theorem end50 (w : World) (b : Nat) (rest : List UInt8) (wrong : Int) (h : Cur w b rest wrong) :
    Calls Tryz.prog 50 #[.pointer (some ⟨b, 0, none⟩)] w fun e w' => e = .returned (.int .i64 (endErr rest wrong)) ∧ w = w' := by
  obtain ⟨v, h1, h2⟩ := h
  obtain ⟨A, c, rfl, -⟩ := h2.open
  have g0 := h1.cell 0 _ rfl
  have g1 := h1.cell 1 _ rfl
  clear h1 h2
  by_cases hw : wrong = 0
  · have hwb : (wrong == 0) = true := by simp [hw]
    by_cases hl : 0 < rest.length
    · have HE : Fact (endErr rest wrong = 4) := ⟨by simp only [endErr, if_pos (And.intro hw hl)]⟩
      clear hw
      go_enter Tryz.func50, Tryz.ntmps50
      go_wp2
      go_ret
      exact ⟨by rw [HE.out]; rfl, rfl⟩
    · have HE : Fact (endErr rest wrong = wrong) := ⟨by simp only [endErr, if_neg (fun h : wrong = 0 ∧ 0 < rest.length => hl h.2)]⟩
      clear hw
      go_enter Tryz.func50, Tryz.ntmps50
      go_wp2
      go_ret
      exact ⟨by rw [HE.out]; rfl, rfl⟩
  · have hwb : (wrong == 0) = false := by simp [hw]
    have HE : Fact (endErr rest wrong = wrong) := ⟨by simp only [endErr, if_neg (fun h : wrong = 0 ∧ 0 < rest.length => hw h.1)]⟩
    clear hw
    go_enter Tryz.func50, Tryz.ntmps50
    go_wp2
    go_ret
    exact ⟨by rw [HE.out]; rfl, rfl⟩
end Go.Proofs.YtddmbdigdnmfgaaGreatDoor
