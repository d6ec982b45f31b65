import Derived.Test.YtddmbdigdnmfgaaGreatDoorReps
namespace Go.Proofs.YtddmbdigdnmfgaaGreatDoor
open Go.RowKit
set_option maxHeartbeats 400000
set_option maxRecDepth 100000

/-- An operation's bytes. -/
def opBytes (o : POp) : List UInt8 :=
  numBytes o.kind.toNat ++ (if hasText o.kind = true then numBytes o.text.length ++ o.text else []) ++ numsBytes ([o.n.toNat, o.m.toNat].take (numbersOf o.kind))
def opsBytes (l : List POp) : List UInt8 := l.flatMap opBytes
inductive Bytes? where
  | ok (b : List UInt8)
  | bad (e : Int)
def putOps (l : List POp) : Bytes? := if l.all opRight = true then (if (opsBytes l).length > 1000 then .bad 3 else .ok (opsBytes l)) else .bad 2
/-- How much room operations take. -/
def opsSize (l : List POp) : Nat := (l.map fun o => o.text.length + 32).sum

theorem done38o (w : World) (b : Nat) (v : Value) (l : List UInt8) (h : Mk w b v l false) (hl : Small l.length) :
    Calls Tryz.prog 38 #[.pointer (some ⟨b, 0, none⟩)] w fun e w' => ∃ A c, e = .returned (.tuple #[.slice A l.length c, .int .i64 0]) ∧ w'.ownsRow w.heap.size 5 1 (.slice A l.length c) l.length (l.map u8v) ∧ Keep All w w' := by
  obtain ⟨A, c, rfl⟩ := h.form
  have g0 := h.1.cell 0 _ rfl
  have g1 := h.1.cell 1 _ rfl
  have HB := Fact.mk (By.of_own h.2)
  clear h
  go_enter Tryz.func38, Tryz.ntmps38
  go_wp2_with (go_at_call 72; go_must (refine (clone72o _ _ _ _ HB.out hl).mono ?_); rintro e w1 ⟨A1, c1, rfl, h1, hk1⟩)
  go_ret2
  exact ⟨A1, c1, rfl, h1, hk1⟩

theorem Cur.lt {w : World} {b : Nat} {rest : List UInt8} {wrong : Int} (h : Cur w b rest wrong) : b < w.heap.size := by obtain ⟨v, h1, _⟩ := h; exact h1.lt
theorem numbersOf_le (k : Int) : numbersOf k = 0 ∨ numbersOf k = 1 ∨ numbersOf k = 2 := by unfold numbersOf; split <;> (try split) <;> simp
theorem kind_nat {o : POp} (h : OpRight o) : ∃ k : Nat, o.kind = k ∧ k ≤ 20 := ⟨o.kind.toNat, by have := h.1; omega, by have := h.1; have := h.2.1; omega⟩

def PutPost (w : World) (l : List POp) (e : Ending) (w' : World) : Prop :=
  (match putOps l with
   | .ok b => ∃ A c, e = .returned (.tuple #[.slice A b.length c, .int .i64 0]) ∧ By w' (fun i => w.heap.size ≤ i) (.slice A b.length c) b
   | .bad x => e = .returned (.tuple #[.slice none 0 0, .int .i64 x])) ∧ Keep All w w'

/-- .. and owns what it hands out. -/
def PutPostO (w : World) (l : List POp) (e : Ending) (w' : World) : Prop :=
  (match putOps l with
   | .ok b => ∃ A c, e = .returned (.tuple #[.slice A b.length c, .int .i64 0]) ∧ w'.ownsRow w.heap.size 5 1 (.slice A b.length c) b.length (b.map u8v)
   | .bad x => e = .returned (.tuple #[.slice none 0 0, .int .i64 x])) ∧ Keep All w w'
theorem PutPostO.plain {w w' : World} {l : List POp} {e : Ending} (h : PutPostO w l e w') : PutPost w l e w' := by
  obtain ⟨h1, h2⟩ := h
  refine ⟨?_, h2⟩
  cases hp : putOps l with
  | ok b =>
    rw [hp] at h1
    obtain ⟨A, c, rfl, h3⟩ := h1
    exact ⟨A, c, rfl, By.of_own h3⟩
  | bad x => rw [hp] at h1; exact h1

theorem opBytes_len {o : POp} (h : OpRight o) : (opBytes o).length ≤ o.text.length + 30 := by
  have hk : Six o.kind.toNat := by have := h.2.1; show o.kind.toNat < _; omega
  have h1 := numLen_six hk
  have h2 := numLen_six (show Six o.text.length by have := h.2.2.2.1; show o.text.length < _; omega)
  have h3 := numsBytes_len ([o.n.toNat, o.m.toNat].take (numbersOf o.kind)) (fun x hx => by
    have hx := List.mem_of_mem_take hx
    have a1 := h.2.2.2.2.2.2.1
    have a2 := h.2.2.2.2.2.2.2.1
    simp only [List.mem_cons, List.not_mem_nil, or_false] at hx
    omega)
  have h4 := List.length_take_le (numbersOf o.kind) [o.n.toNat, o.m.toNat]
  have h5 : ([o.n.toNat, o.m.toNat].take (numbersOf o.kind)).length ≤ 2 := by rw [List.length_take]; simp; omega
  unfold opBytes
  simp only [List.length_append, numBytes_len]
  split
  · simp only [List.length_append, numBytes_len]; omega
  · simp only [List.length_nil]; omega
theorem opsBytes_len {l : List POp} (h : l.all opRight = true) : (opsBytes l).length ≤ opsSize l := by
  induction l with
  | nil => simp [opsBytes, opsSize]
  | cons o l ih =>
    simp only [List.all_cons, Bool.and_eq_true] at h
    have h1 := opBytes_len (by simpa [opRight] using h.1 : OpRight o)
    have h2 := ih h.2
    simp only [opsBytes, opsSize, List.flatMap_cons, List.length_append, List.map_cons, List.sum_cons] at *
    omega
theorem opsSize_take {l : List POp} {k : Nat} (hk : k < l.length) : opsSize (l.take k) + (l[k].text.length + 32) ≤ opsSize l := by
  have : l = l.take k ++ (l[k] :: l.drop (k + 1)) := by rw [← List.drop_eq_getElem_cons hk, List.take_append_drop]
  have h2 : opsSize l = opsSize (l.take k) + ((l[k].text.length + 32) + opsSize (l.drop (k + 1))) := by
    conv => lhs; rw [this]
    simp only [opsSize, List.map_append, List.sum_append, List.map_cons, List.sum_cons]
  omega
/-- What stands ahead of an operation's numbers. -/
def textPart (l : List UInt8) (k : Nat) (ht : Bool) (t : List UInt8) : List UInt8 := if ht = true then l ++ numsBytes [k] ++ (numBytes t.length ++ t) else l ++ numsBytes [k]
theorem textPart_true (l : List UInt8) (k : Nat) (t : List UInt8) : textPart l k true t = l ++ numsBytes [k] ++ (numBytes t.length ++ t) := by unfold textPart; rw [if_pos rfl]
theorem textPart_false (l : List UInt8) (k : Nat) (t : List UInt8) : textPart l k false t = l ++ numsBytes [k] := by unfold textPart; rw [if_neg (by simp)]
theorem opsBytes_snoc (l : List POp) (k n m : Nat) (t : List UInt8) :
    opsBytes (l ++ [⟨k, n, m, t⟩]) = textPart (opsBytes l) k (hasText k) t ++ numsBytes ([n, m].take (numbersOf k)) := by
  simp only [opsBytes, List.flatMap_append, List.flatMap_cons, List.flatMap_nil, List.append_nil, opBytes, textPart, numsBytes, Int.toNat_natCast]
  split <;> simp
theorem Mk.mine_old {w : World} {b i : Nat} {v : Value} {l : List UInt8} {bad : Bool} (h : Mk w b v l bad) (hi : i < b) : Mine b v i :=
  ⟨by omega, fun e => by have := (h.2.lt i e).1; omega⟩
/-- Amid a round of Put: the maker, the operation's own variable, its text. -/
structure InPut (w wx : World) (v : Value) (bt : Nat) (l : List UInt8) (cs : List Value) (x : Value) (t : List UInt8) : Prop where
  maker : Mk wx w.heap.size v l false
  keep : Keep All w wx
  blk : Blk wx bt cs 25
  mine : Mine w.heap.size v bt
  txt : By wx (fun i => i < w.heap.size) x t
theorem InPut.next {w wx w2 : World} {v x : Value} {bt : Nat} {l l2 t : List UInt8} {cs : List Value} (h : InPut w wx v bt l cs x t) (hm : Made wx w.heap.size v l2 false w2) : ∃ v2, InPut w w2 v2 bt l2 cs x t := by
  obtain ⟨v2, h1, h2, h3⟩ := hm
  have hold : ∀ i, i < w.heap.size → Mine w.heap.size v i := fun i hi => h.maker.mine_old hi
  refine ⟨v2, h1, h.keep.then_ h2 fun i hi _ => hold i hi, h.blk.keep h2 h.mine, h.mine.moved h3 h.blk.lt, (h.txt.keep (h2.mono hold))⟩
theorem InPut.alloc {w wx : World} {v x : Value} {bt : Nat} {l t : List UInt8} {cs : List Value} (h : InPut w wx v bt l cs x t) (o : Obj) : InPut w (wx.alloc o) v bt l cs x t :=
  ⟨h.maker.alloc o, h.keep.alloc o, h.blk.alloc o, h.mine, h.txt.keep ((Keep.refl _ _).alloc o)⟩
theorem InPut.drew {w wx : World} {v x : Value} {bt : Nat} {l t : List UInt8} {cs : List Value} (h : InPut w wx v bt l cs x t) : InPut w wx.drew v bt l cs x t :=
  ⟨⟨h.maker.1.drew, h.maker.2.drew⟩, h.keep.drew, h.blk.drew, h.mine, h.txt.keep (Keep.refl _ _).drew⟩
theorem InPut.all {w wx w2 : World} {v x : Value} {bt : Nat} {l t : List UInt8} {cs : List Value} (h : InPut w wx v bt l cs x t) (k : Keep All wx w2) : InPut w w2 v bt l cs x t :=
  ⟨⟨h.maker.1.keep k trivial, h.maker.2.kept k.grownBy (by cases v.ownBlock <;> simp)⟩, h.keep.trans k, h.blk.keep k trivial, h.mine, h.txt.keep k.all⟩

theorem put10o (w : World) (G : Nat → Prop) (v : Value) (l : List POp) (h : OpsR w G v l) (hs : Small (opsSize l + 64)) (hlen : l.length ≤ 1048576) :
    Calls Tryz.prog 10 #[v] w (PutPostO w l) := by
  obtain ⟨A, c, rfl, -, -, -, hat⟩ := h.open
  have H := Fact.mk h
  have HAT := Fact.mk hat
  clear h hat
  go_enter Tryz.func10, Tryz.ntmps10
  go_wp2
  go_loopg [13] l.length (fun g i w' => ∃ k : Nat, k + g = l.length ∧ i = .int .i64 k ∧ (l.take k).all opRight = true ∧ ∃ v1, Mk w' w.heap.size v1 (opsBytes (l.take k)) false ∧ Keep All w w')
  case atStart =>
    refine ⟨0, by omega, rfl, by simp, .slice none 0 0, ⟨Blk.new w [_, _] 77, ?_⟩, (Keep.refl _ _).alloc _⟩
    exact World.ownsRow_nil _ _ _ _
  case round =>
    obtain ⟨k, hkg, rfl, hall, v1, hmk, hkp⟩ := hrel
    have HK := Fact.mk hkg
    have HM := Fact.mk hmk
    have HP := Fact.mk hkp
    have HA := Fact.mk hall
    clear hkg hmk hkp hall
    by_cases hk : k < l.length
    · obtain ⟨b1, off, Ax, cx, rfl, hb1, hbt, c0, c1, c2, c3⟩ := HAT.out k hk
      have htake : l.take (k + 1) = l.take k ++ [l[k]] := List.take_succ_eq_append_getElem hk
      obtain ⟨o, ho⟩ : ∃ o, o = l[k] := ⟨_, rfl⟩
      rw [← ho] at hbt c0 c1 c2 c3 htake
      have d0 := HP.out.cell trivial c0
      have d1 := HP.out.cell trivial c1
      have d2 := HP.out.cell trivial c2
      have d3 := HP.out.cell trivial c3
      have hb1w : b1 < w.heap.size := World.block_lt_of_cell? w _ c0
      have HO := Fact.mk ho
      have HTK := Fact.mk htake
      have hsz : (opsBytes (l.take k)).length + o.text.length + 64 ≤ opsSize l + 64 := by
        have h1 := opsBytes_len HA.out
        have h2 := opsSize_take hk
        rw [← ho] at h2
        omega
      have HSZ := Fact.mk (hs.mono hsz)
      have I0 : Fact (InPut w (wr.alloc (.cells #[.int .i64 o.kind, .int .i64 o.n, .int .i64 o.m, .slice Ax o.text.length cx] 25)) v1 wr.heap.size (opsBytes (l.take k)) [.int .i64 o.kind, .int .i64 o.n, .int .i64 o.m, .slice Ax o.text.length cx] (.slice Ax o.text.length cx) o.text) :=
        ⟨⟨HM.out.alloc _, HP.out.alloc _, Blk.new _ _ _, HM.out.mine_new (Nat.le_refl _), ((hbt.mono fun i hi _ => hi).keep HP.out.all).keep ((Keep.refl _ _).alloc _)⟩⟩
      clear hbt c0 c1 c2 c3 ho htake hsz
      by_cases hr : opRight o = true
      · have HR := Fact.mk hr
        obtain ⟨kd, n, m, t⟩ := o
        have hright : OpRight ⟨kd, n, m, t⟩ := by simpa [opRight] using hr
        obtain ⟨kn, rfl⟩ := Int.eq_ofNat_of_zero_le (show 0 ≤ kd from Int.le_trans (by decide) (show 1 ≤ kd from hright.1))
        obtain ⟨nn, rfl⟩ := Int.eq_ofNat_of_zero_le (show 0 ≤ n by exact hright.2.2.2.2.1)
        obtain ⟨mn, rfl⟩ := Int.eq_ofNat_of_zero_le (show 0 ≤ m by exact hright.2.2.2.2.2.1)
        have hkn : kn ≤ 20 := by have : (kn : Int) ≤ 20 := hright.2.1; omega
        have HN := Fact.mk (show nn ≤ 4096 ∧ mn ≤ 4096 by have := hright.2.2.2.2.2.2; simp only at this; omega)
        have HKN : Fact (∀ n ∈ [kn], n ≤ 1099511627776) := ⟨by simp; omega⟩
        have HS1 : Fact (Small ((opsBytes (l.take k)).length + 8 * [kn].length + 8)) := ⟨HSZ.out.mono (by simp; omega)⟩
        have HS2 : Fact (Small ((opsBytes (l.take k) ++ numsBytes [kn]).length + t.length + 16)) := ⟨HSZ.out.mono (by
          have := numsBytes_len [kn] HKN.out
          show _ ≤ (opsBytes (l.take k)).length + t.length + 64
          rw [List.length_append]
          simp only [List.length_cons, List.length_nil] at this
          omega)⟩
        clear hr hright
        have T34 : ∀ (w' : World), InPut w w' v1 wr.heap.size (opsBytes (l.take k)) [.int .i64 kn, .int .i64 nn, .int .i64 mn, .slice Ax t.length cx] (.slice Ax t.length cx) t →
            Sl (w'.alloc (.cells #[numV kn] 3)) (Mine w.heap.size v1) 1 (.slice (some ⟨w'.heap.size, 0, none⟩) 1 1) 1 [numV kn] :=
          fun w' h => (Sl.new w' 3 1 1 [numV kn] rfl (by decide) (by simp [numV, Value.oneCell'])).mono fun i _ hi => h.maker.mine_new hi
        have HT34 := Fact.mk T34
        clear T34
        obtain ⟨ht, hht⟩ : ∃ b, b = hasText (kn : Int) := ⟨_, rfl⟩
        have HHT := Fact.mk hht
        clear hht
        go_upto_if 27 with (first
          | (go_at_call 33; go_must (refine (right33 _ ⟨kn, nn, mn, t⟩ _ _).mono ?_); rintro e w1 ⟨rfl, hk1⟩; rw [HR.out]; have I1 := Fact.mk (I0.out.all hk1); clear hk1; have t0 := I1.out.blk.cell 0 _ rfl)
          | (go_at_call 34; go_must (refine (num34 _ _ _ _ [kn] _ _ (I1.out.alloc _).maker HKN.out (HT34.out _ I1.out) HS1.out).mono ?_); rintro e w2 ⟨rfl, hm2⟩; obtain ⟨v2, i2⟩ := (I1.out.alloc _).next hm2; have I2 := Fact.mk i2; clear hm2 i2; have r0 := I2.out.blk.cell 0 _ rfl; have r3 := I2.out.blk.cell 3 _ rfl)
          | (go_at_call 35; go_must (refine (text35 _ _ hkn).mono ?_); rintro e w' ⟨rfl, rfl⟩; rw [← HHT.out]))
        go_cut [] (fun w' => ∃ v', InPut w w' v' wr.heap.size (textPart (opsBytes (l.take k)) kn ht t) [.int .i64 kn, .int .i64 nn, .int .i64 mn, .slice Ax t.length cx] (.slice Ax t.length cx) t)
        case first =>
          go_wp2_with (go_at_call 36; go_must (refine (mtext36 _ _ _ _ t _ _ _ (I2.out.alloc _).maker ((Sl.new w2 23 1 1 [_] rfl (by decide) (by simp [Value.oneCell'])).mono fun i _ hi => I2.out.maker.mine_new hi) ((I2.out.alloc _).txt.mono fun i _ hi => I2.out.maker.mine_old hi) HS2.out).mono ?_); rintro e w3 ⟨rfl, hm3⟩; obtain ⟨v3, i3⟩ := (I2.out.alloc _).next hm3; have I3 := Fact.mk i3; clear hm3 i3)
          · go_meet
            case rel => exact ⟨v3, by rename_i hh; rw [hh, textPart_true]; exact I3.out⟩
          · go_meet
            case rel => exact ⟨v2, by rename_i hh; rw [hh, textPart_false]; exact I2.out⟩
        case rest =>
          obtain ⟨v3, i3⟩ := hcut
          have I3 := Fact.mk i3
          have s0 := i3.blk.cell 0 _ rfl
          have s1 := i3.blk.cell 1 _ rfl
          have s2 := i3.blk.cell 2 _ rfl
          obtain ⟨q, hq⟩ : ∃ q, q = numbersOf (kn : Int) := ⟨_, rfl⟩
          have HQ := Fact.mk hq
          have hq3 := numbersOf_le (kn : Int)
          rw [← hq] at hq3
          have HEQ : Fact (opsBytes (l.take (k + 1)) = textPart (opsBytes (l.take k)) kn ht t ++ numsBytes ([nn, mn].take q)) := ⟨by
            rw [HTK.out, HHT.out, hq]; exact opsBytes_snoc _ _ _ _ _⟩
          have hlenT : (textPart (opsBytes (l.take k)) kn ht t).length + 32 ≤ (opsBytes (l.take k)).length + t.length + 64 := by
            have h1 := numsBytes_len [kn] HKN.out
            have h2 := numLen_six (show Six t.length by have : (opsBytes (l.take k)).length + t.length + 64 ≤ 1048576 := HSZ.out.le; show t.length < _; omega)
            unfold textPart
            split <;> simp only [List.length_append, numBytes_len, List.length_cons, List.length_nil] at * <;> omega
          have HSM : Fact (Small ((textPart (opsBytes (l.take k)) kn ht t).length + 32)) := ⟨HSZ.out.mono hlenT⟩
          have HNN : Fact (∀ n ∈ [nn, mn].take q, n ≤ 1099511627776) := ⟨fun n hn => by
            have := List.mem_of_mem_take hn
            have := HN.out
            simp only [List.mem_cons, List.not_mem_nil, or_false] at *
            omega⟩
          clear hq i3 hlenT
          rcases hq3 with rfl | rfl | rfl
          · go_wp2_with fail
            go_region_held3 (fun w' => w'.cell? ⟨wr.heap.size, 0, none⟩ = some (.int .i64 kn) ∧ w'.cell? ⟨wr.heap.size, 1, none⟩ = some (.int .i64 nn) ∧ w'.cell? ⟨wr.heap.size, 2, none⟩ = some (.int .i64 mn)) (go_keep)
              (first
                | (go_at_call 37; go_must (refine (numbers37 _ _).mono ?_); rintro e w' ⟨rfl, rfl⟩; rw [← HQ.out])
                | (go_at_call 34; refine (num34 _ _ _ _ ([nn, mn].take 0) _ _ (I3.out.alloc _).drew.maker HNN.out (((Sl.new wc 3 1 2 [numV nn, numV mn] rfl (by decide) (by simp [numV, Value.oneCell'])).take (k := 0) (by decide)).mono fun i _ hi => I3.out.maker.mine_new hi) (HSM.out.mono (by simp))).mono ?_; rintro e w4 ⟨rfl, hm4⟩; obtain ⟨v4, i4⟩ := (I3.out.alloc _).drew.next hm4; have I4 := Fact.mk i4; clear hm4 i4; have y0 := I4.out.blk.cell 0 _ rfl; have y1 := I4.out.blk.cell 1 _ rfl; have y2 := I4.out.blk.cell 2 _ rfl))
            all_goals
              go_wp2
              go_roundg (gk - 1)
              case measure => have := HK.out; omega
              case rel => exact ⟨k + 1, by have := HK.out; omega, by go_num, by rw [HTK.out]; simp [HA.out, HR.out], v4, by rw [HEQ.out]; exact I4.out.maker, I4.out.keep⟩
          · go_wp2_with fail
            go_region_held3 (fun w' => w'.cell? ⟨wr.heap.size, 0, none⟩ = some (.int .i64 kn) ∧ w'.cell? ⟨wr.heap.size, 1, none⟩ = some (.int .i64 nn) ∧ w'.cell? ⟨wr.heap.size, 2, none⟩ = some (.int .i64 mn)) (go_keep)
              (first
                | (go_at_call 37; go_must (refine (numbers37 _ _).mono ?_); rintro e w' ⟨rfl, rfl⟩; rw [← HQ.out])
                | (go_at_call 34; refine (num34 _ _ _ _ ([nn, mn].take 1) _ _ (I3.out.alloc _).drew.maker HNN.out (((Sl.new wc 3 1 2 [numV nn, numV mn] rfl (by decide) (by simp [numV, Value.oneCell'])).take (k := 1) (by decide)).mono fun i _ hi => I3.out.maker.mine_new hi) (HSM.out.mono (by simp))).mono ?_; rintro e w4 ⟨rfl, hm4⟩; obtain ⟨v4, i4⟩ := (I3.out.alloc _).drew.next hm4; have I4 := Fact.mk i4; clear hm4 i4; have y0 := I4.out.blk.cell 0 _ rfl; have y1 := I4.out.blk.cell 1 _ rfl; have y2 := I4.out.blk.cell 2 _ rfl))
            all_goals
              go_wp2
              go_roundg (gk - 1)
              case measure => have := HK.out; omega
              case rel => exact ⟨k + 1, by have := HK.out; omega, by go_num, by rw [HTK.out]; simp [HA.out, HR.out], v4, by rw [HEQ.out]; exact I4.out.maker, I4.out.keep⟩
          · go_wp2_with fail
            go_region_held3 (fun w' => w'.cell? ⟨wr.heap.size, 0, none⟩ = some (.int .i64 kn) ∧ w'.cell? ⟨wr.heap.size, 1, none⟩ = some (.int .i64 nn) ∧ w'.cell? ⟨wr.heap.size, 2, none⟩ = some (.int .i64 mn)) (go_keep)
              (first
                | (go_at_call 37; go_must (refine (numbers37 _ _).mono ?_); rintro e w' ⟨rfl, rfl⟩; rw [← HQ.out])
                | (go_at_call 34; refine (num34 _ _ _ _ ([nn, mn].take 2) _ _ (I3.out.alloc _).drew.maker HNN.out (((Sl.new wc 3 1 2 [numV nn, numV mn] rfl (by decide) (by simp [numV, Value.oneCell'])).take (k := 2) (by decide)).mono fun i _ hi => I3.out.maker.mine_new hi) (HSM.out.mono (by simp))).mono ?_; rintro e w4 ⟨rfl, hm4⟩; obtain ⟨v4, i4⟩ := (I3.out.alloc _).drew.next hm4; have I4 := Fact.mk i4; clear hm4 i4; have y0 := I4.out.blk.cell 0 _ rfl; have y1 := I4.out.blk.cell 1 _ rfl; have y2 := I4.out.blk.cell 2 _ rfl))
            all_goals
              go_wp2
              go_roundg (gk - 1)
              case measure => have := HK.out; omega
              case rel => exact ⟨k + 1, by have := HK.out; omega, by go_num, by rw [HTK.out]; simp [HA.out, HR.out], v4, by rw [HEQ.out]; exact I4.out.maker, I4.out.keep⟩
      · have hr' : opRight o = false := by simpa using hr
        have HR := Fact.mk hr'
        clear hr hr'
        have HPO : Fact (putOps l = .bad 2) := ⟨by
          unfold putOps
          rw [if_neg]
          intro hall
          have := List.all_eq_true.1 hall l[k] (List.getElem_mem hk)
          rw [← HO.out, HR.out] at this
          cases this⟩
        go_wp2_with (go_at_call 33; go_must (refine (right33 _ o _ _).mono ?_); rintro e w1 ⟨rfl, hk1⟩; rw [HR.out]; have HK1 := Fact.mk hk1; clear hk1)
        go_ret2
        exact ⟨by rw [HPO.out]; rfl, (HP.out.alloc _).trans HK1.out⟩
    · have hkl : k = l.length := by have := HK.out; omega
      subst hkl
      have HALL : Fact (l.all opRight = true) := ⟨by have := HA.out; rwa [List.take_length] at this⟩
      have HM' : Fact (Mk wr w.heap.size v1 (opsBytes l) false) := ⟨by have := HM.out; rwa [List.take_length] at this⟩
      have HSM : Small (opsBytes l).length := hs.mono (by have := opsBytes_len HALL.out; omega)
      by_cases hlong : (opsBytes l).length > 1000
      · have HPO : Fact (putOps l = .bad 3) := ⟨by unfold putOps; rw [if_pos HALL.out, if_pos hlong]⟩
        go_wp2_with (go_at_call 38; go_must (refine (done38o _ _ _ _ HM'.out HSM).mono ?_); rintro e w1 ⟨A1, c1, rfl, h1, hk1⟩)
        go_ret2
        exact ⟨by rw [HPO.out]; rfl, HP.out.trans hk1⟩
      · have HPO : Fact (putOps l = .ok (opsBytes l)) := ⟨by unfold putOps; rw [if_pos HALL.out, if_neg hlong]⟩
        go_wp2_with (go_at_call 38; go_must (refine (done38o _ _ _ _ HM'.out HSM).mono ?_); rintro e w1 ⟨A1, c1, rfl, h1, hk1⟩)
        go_ret2
        exact ⟨by rw [HPO.out]; exact ⟨A1, c1, rfl, own_base h1 HP.out.size⟩, HP.out.trans hk1⟩
theorem put10 (w : World) (G : Nat → Prop) (v : Value) (l : List POp) (h : OpsR w G v l) (hs : Small (opsSize l + 64)) (hlen : l.length ≤ 1048576) : Calls Tryz.prog 10 #[v] w (PutPost w l) := (put10o w G v l h hs hlen).mono fun _ _ h => h.plain
end Go.Proofs.YtddmbdigdnmfgaaGreatDoor
