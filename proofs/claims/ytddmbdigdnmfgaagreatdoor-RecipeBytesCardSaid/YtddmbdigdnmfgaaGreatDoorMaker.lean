import Derived.Test.YtddmbdigdnmfgaaGreatDoorCursor2
namespace Go.Proofs.YtddmbdigdnmfgaaGreatDoor
open Go.RowKit
set_option maxHeartbeats 400000
set_option maxRecDepth 100000

/-- A number's bytes. -/
def numBytes (n : Nat) : List UInt8 := if n < 128 then [UInt8.ofNat n] else UInt8.ofNat (n % 128 + 128) :: numBytes (n / 128)
theorem numBytes_small {n : Nat} (h : n < 128) : numBytes n = [UInt8.ofNat n] := by rw [numBytes, if_pos h]
theorem numBytes_big {n : Nat} (h : ¬ n < 128) : numBytes n = UInt8.ofNat (n % 128 + 128) :: numBytes (n / 128) := by rw [numBytes, if_neg h]
theorem numBytes_len (n : Nat) : (numBytes n).length = numLen n := by
  induction n using Nat.strongRecOn with
  | _ n ih =>
    rw [numBytes, numLen]; split
    · rfl
    · simp [ih (n / 128) (by omega)]

/-- The blocks that are neither the maker's nor its row's. -/
def Mine (b : Nat) (v : Value) : Nat → Prop := fun i => i ≠ b ∧ v.ownBlock ≠ some i
/-- The maker at block b: its row v holds l. -/
def Mk (w : World) (b : Nat) (v : Value) (l : List UInt8) (bad : Bool) : Prop := Blk w b [v, .bool bad] 77 ∧ w.ownsRow (b + 1) 5 1 v l.length (l.map u8v)
/-- The row is the old one, or a new one. -/
def Moved (w : World) (v v' : Value) : Prop := ∀ g, v'.ownBlock = some g → v.ownBlock = some g ∨ w.heap.size ≤ g
theorem Moved.refl (w : World) (v : Value) : Moved w v v := fun _ h => .inl h
theorem Moved.trans {w w1 : World} {v v1 v2 : Value} (h : Moved w v v1) (k : Moved w1 v1 v2) (hs : w.heap.size ≤ w1.heap.size) : Moved w v v2 := fun g hg => by
  rcases k g hg with h1 | h1
  · exact h g h1
  · exact .inr (Nat.le_trans hs h1)
theorem Keep.mine {w w1 w2 : World} {b : Nat} {v v1 : Value} (h : Keep (Mine b v) w w1) (k : Keep (Mine b v1) w1 w2) (hm : Moved w v v1) : Keep (Mine b v) w w2 :=
  h.then_ k fun i hi hg => ⟨hg.1, fun e => by
    rcases hm i e with h1 | h1
    · exact hg.2 h1
    · omega⟩
/-- What a maker's call leaves. -/
def Made (w : World) (b : Nat) (v : Value) (l : List UInt8) (bad : Bool) (w' : World) : Prop := ∃ v', Mk w' b v' l bad ∧ Keep (Mine b v) w w' ∧ Moved w v v'
theorem Made.refl {w : World} {b : Nat} {v : Value} {l : List UInt8} {bad : Bool} (h : Mk w b v l bad) : Made w b v l bad w := ⟨v, h, Keep.refl _ _, Moved.refl _ _⟩
theorem Made.then_ {w w1 w2 : World} {b : Nat} {v v1 : Value} {l : List UInt8} {bad : Bool} (k : Keep (Mine b v) w w1) (hm : Moved w v v1) (h2 : Made w1 b v1 l bad w2) : Made w b v l bad w2 := by
  obtain ⟨v2, h, k2, m2⟩ := h2
  exact ⟨v2, h, k.mine k2 hm, hm.trans m2 k.size⟩
theorem Mk.alloc {w : World} {b : Nat} {v : Value} {l : List UInt8} {bad : Bool} (h : Mk w b v l bad) (o : Obj) : Mk (w.alloc o) b v l bad := ⟨h.1.alloc o, h.2.alloc o⟩
/-- The row's value after an append: stored. -/
theorem Mk.stored {w w1 : World} {b : Nat} {v v1 : Value} {l l1 : List UInt8} {bad : Bool} (h : Mk w b v l bad) (ho : w1.ownsRow (b + 1) 5 1 v1 l1.length (l1.map u8v)) (hg : w.grownBy w1 v.ownBlock) :
    Mk (w1.setCell ⟨b, 0, none⟩ v1) b v1 l1 bad := by
  have hb : v.ownBlock ≠ some b := fun e => by have := (h.2.lt b e).1; omega
  exact ⟨(h.1.grown hg hb).set 0 v1, ownsRow_setCell_below ho (by simp) _⟩
theorem Mk.form {w : World} {b : Nat} {v : Value} {l : List UInt8} {bad : Bool} (h : Mk w b v l bad) : ∃ A c, v = .slice A l.length c := by
  rcases h.2.2 with ⟨rfl, h0⟩ | ⟨g, cap, cur, rfl, _⟩
  · exact ⟨none, 0, by rw [h0]⟩
  · exact ⟨_, cap, rfl⟩

/-- Behind an append onto the maker's row, ahead of its store. -/
def Pushed (w w1 : World) (b : Nat) (v v' : Value) (l : List UInt8) (bad : Bool) : Prop :=
  Blk w1 b [v, .bool bad] 77 ∧ (∃ A c q, v' = .slice A q c) ∧ Mk (w1.setCell ⟨b, 0, none⟩ v') b v' l bad ∧ Keep (Mine b v) w (w1.setCell ⟨b, 0, none⟩ v') ∧ Moved w v v'
theorem Pushed.form {w w1 : World} {b : Nat} {v v' : Value} {l : List UInt8} {bad : Bool} (h : Pushed w w1 b v v' l bad) : ∃ A c q, v' = .slice A q c ∧ True := by
  obtain ⟨A, c, q, e⟩ := h.2.1
  exact ⟨A, c, q, e, trivial⟩
theorem Mk.pushed {w w1 : World} {b m : Nat} {v v' : Value} {l ys : List UInt8} {bad : Bool} (h : Mk w b v l bad) (ho : w1.ownsRow (b + 1) 5 1 v' (l.length + m) (l.map u8v ++ ys.map u8v)) (hg : w.grownBy w1 v.ownBlock)
    (hv : v'.ownBlock = v.ownBlock ∨ v'.ownBlock = some w.heap.size) :
    Pushed w w1 b v v' (l ++ ys) bad := by
  have hb : v.ownBlock ≠ some b := fun e => by have := (h.2.lt b e).1; omega
  have hm : ys.length = m := by have := ho.1; simp at this; omega
  subst hm
  refine ⟨h.1.grown hg hb, (by obtain ⟨A, c, e⟩ := own_form ho; exact ⟨A, c, _, e⟩), Mk.stored h (by rw [List.length_append, List.map_append]; exact ho) hg, (((Keep.refl _ _).grown hg fun k hk => .inr fun hM => hM.2 hk).setCell (.inr (by simp [Mine])) _), fun g hg' => ?_⟩
  rcases hv with hv | hv
  · exact .inl (hv ▸ hg')
  · rw [hv] at hg'; cases hg'; exact .inr (Nat.le_refl _)
theorem Keep.alloc_mine {w w2 : World} {b : Nat} {v : Value} {o : Obj} (k : Keep (Mine b v) (w.alloc o) w2) : Keep (Mine b v) w w2 := ((Keep.refl _ w).alloc o).trans k
theorem Moved.of_alloc {w : World} {v v' : Value} {o : Obj} (h : Moved (w.alloc o) v v') : Moved w v v' := fun g hg => by
  rcases h g hg with h | h
  · exact .inl h
  · exact .inr (by simp at h; omega)
theorem u8v_ofNat {n : Nat} (h : n < 256) : u8v (UInt8.ofNat n) = .int .u8 (n : Int) := by
  simp [u8v]; omega

/-- Its row's length under a name of its own: the walk would take a sum apart. -/
theorem Mk.form' {w : World} {b : Nat} {v : Value} {l : List UInt8} {bad : Bool} (h : Mk w b v l bad) : ∃ A c q, v = .slice A q c ∧ Fact (q = l.length) := by
  obtain ⟨A, c, rfl⟩ := h.form
  exact ⟨A, c, _, rfl, ⟨rfl⟩⟩

theorem allow69 (w : World) (b : Nat) (v : Value) (l : List UInt8) (n most : Int) (h : Mk w b v l false) (h0 : 0 ≤ n) (hm : n ≤ most) (h9 : most ≤ 9223372036854775807) :
    Calls Tryz.prog 69 #[.pointer (some ⟨b, 0, none⟩), .int .i64 n, .int .i64 most] w fun e w' => e = .returned (.bool true) ∧ w = w' := by
  have g1 := h.1.cell 1 _ rfl
  have hw1 := u64_pos h0 (Int.le_trans hm h9)
  have hw2 := u64_pos (Int.le_trans h0 hm) h9
  have hlt : ¬ most < n := by omega
  clear h h0 hm h9
  go_enter Tryz.func69, Tryz.ntmps69
  go_wp2
  go_ret
  exact ⟨rfl, rfl⟩

theorem or128 (k : Nat) : bits .or .u8 (IntKind.u8.wrap (k : Int)) 128 = ((k % 128 + 128 : Nat) : Int) := by
  have e : IntKind.u8.wrap (k : Int) = ((k % 256 : Nat) : Int) := by rw [IntKind.wrap_u8]; omega
  rw [e]
  have h := u8_or_nat (k % 256) 128 (by omega) (by omega)
  have h' : bits .or .u8 ((k % 256 : Nat) : Int) 128 = (((k % 256) ||| 128 : Nat) : Int) := h
  rw [h']
  have h2 : ∀ m : Fin 256, (m.val ||| 128) = m.val % 128 + 128 := by decide
  have := h2 ⟨k % 256, Nat.mod_lt _ (by omega)⟩
  simp only at this
  rw [this]
  omega
theorem wrap_small {k : Nat} (h : k < 128) : IntKind.u8.wrap (k : Int) = (k : Int) := by rw [IntKind.wrap_u8]; omega

theorem number70 (w : World) (b : Nat) (v : Value) (l : List UInt8) (bad : Bool) (n : Nat) (h : Mk w b v l bad) (hn : Six n) (hl : Small (l.length + 8)) :
    Calls Tryz.prog 70 #[.pointer (some ⟨b, 0, none⟩), .int .u64 n] w fun e w' => e = .returned (.tuple #[]) ∧ Made w b v (l ++ numBytes n) bad w' := by
  have H := Fact.mk h
  have HS := Fact.mk hn
  have H6 := Fact.mk (numLen_six hn)
  clear h hn
  go_enter Tryz.func70, Tryz.ntmps70
  go_upto_block 0 with (fail)
  go_cut [1] (fun x w' => ∃ k : Nat, k < 128 ∧ x = .int .u64 k ∧ ∃ v1 d, numBytes n = d ++ numBytes k ∧ Mk w' b v1 (l ++ d) bad ∧ Keep (Mine b v) w w' ∧ Moved w v v1)
  case first =>
    go_wp2
    go_loopg [1] n (fun g x w' => ∃ k : Nat, k = g ∧ x = .int .u64 k ∧ ∃ v1 d, numBytes n = d ++ numBytes k ∧ Mk w' b v1 (l ++ d) bad ∧ Keep (Mine b v) w w' ∧ Moved w v v1)
    case atStart => exact ⟨n, rfl, rfl, v, [], rfl, by simpa using H.out, Keep.refl _ _, Moved.refl _ _⟩
    case round =>
      obtain ⟨k, rfl, rfl, v1, d, hd, hmk, hkp, hmv⟩ := hrel
      obtain ⟨A, c, q, rfl, hq⟩ := hmk.form'
      have g0 := hmk.1.cell 0 _ rfl
      have f0 := hmk.1.free 0
      have HD := Fact.mk hd
      have HM := Fact.mk hmk
      have hdl : Small (l.length + d.length + 1) := by
        have := congrArg List.length hd
        rw [List.length_append, numBytes_len, numBytes_len] at this
        have h1 := numLen_pos k
        have h6 := H6.out
        exact hl.mono (by omega)
      clear hd hmk
      by_cases hk : k < 128
      · go_wp2
        go_meet
        case rel => exact ⟨k, hk, rfl, _, d, HD.out, HM.out, hkp, hmv⟩
      · have ho := or128 k
        rw [IntKind.wrap_u8] at ho
        have HN := Fact.mk (numBytes_big hk)
        have HF := Fact.mk (Fits.of (n := (l ++ d).length) (m := 1) (by simpa using hdl) 1 (by decide))
        go_wp2_with (at_builtin; go_must (refine wpList_ap rfl _ _ 23 5 1 1 (b + 1) (l ++ d).length 1 (HM.out.2.alloc _) (Sl.new wr 5 1 1 [_] rfl (by decide) (by simp [Value.oneCell'])) rfl T23 rfl rfl HF.out (alloc_le HM.out.1.lt) ?_); intro v' w1 ho hg hb; have HP := Fact.mk (Mk.pushed (HM.out.alloc _) (ys := [UInt8.ofNat (k % 128 + 128)]) (by rw [List.map_cons, u8v_ofNat (show k % 128 + 128 < 256 by omega), Int.natCast_add, Int.natCast_emod]; exact ho) hg hb); clear ho hg hb; obtain ⟨A', c', q', rfl, hq'⟩ := HP.out.form; have g1 := HP.out.1.cell 0 _ rfl; have f1 := HP.out.1.free 0)
        obtain ⟨hB, _, hmk', hk', hm'⟩ := HP.out
        go_roundg (k / 128)
        case measure => omega
        case rel => exact ⟨k / 128, rfl, by go_num, _, d ++ [UInt8.ofNat (k % 128 + 128)], by rw [HD.out, HN.out]; simp, by rw [← List.append_assoc]; exact hmk', hkp.mine hk'.alloc_mine hmv, hmv.trans hm'.of_alloc hkp.size⟩
  case rest =>
    obtain ⟨k, hk, rfl, v1, d, hd, hmk, hkp, hmv⟩ := hcut
    obtain ⟨A, c, q, rfl, hq⟩ := hmk.form'
    have g0 := hmk.1.cell 0 _ rfl
    have f0 := hmk.1.free 0
    have HD := Fact.mk hd
    have HM := Fact.mk hmk
    have hdl : Small (l.length + d.length + 1) := by
      have := congrArg List.length hd
      rw [List.length_append, numBytes_len, numBytes_len] at this
      have h1 := numLen_pos k
      have h6 := H6.out
      exact hl.mono (by omega)
    clear hd hmk
    have ho := wrap_small hk
    rw [IntKind.wrap_u8] at ho
    have HN := Fact.mk (numBytes_small hk)
    have HF := Fact.mk (Fits.of (n := (l ++ d).length) (m := 1) (by simpa using hdl) 1 (by decide))
    go_wp2_with (at_builtin; go_must (refine wpList_ap rfl _ _ 23 5 1 1 (b + 1) (l ++ d).length 1 (HM.out.2.alloc _) (Sl.new wc 5 1 1 [_] rfl (by decide) (by simp [Value.oneCell'])) rfl T23 rfl rfl HF.out (alloc_le HM.out.1.lt) ?_); intro v' w1 ho hg hb; have HP := Fact.mk (Mk.pushed (HM.out.alloc _) (ys := [UInt8.ofNat k]) (by rw [List.map_cons, u8v_ofNat (show k < 256 by omega)]; exact ho) hg hb); clear ho hg hb; obtain ⟨A', c', q', rfl, hq'⟩ := HP.out.form; have g1 := HP.out.1.cell 0 _ rfl; have f1 := HP.out.1.free 0)
    obtain ⟨hB, _, hmk', hk', hm'⟩ := HP.out
    go_end0
    exact ⟨rfl, _, by rw [HD.out, HN.out, ← List.append_assoc]; exact hmk', hkp.mine hk'.alloc_mine hmv, hmv.trans hm'.of_alloc hkp.size⟩

/-- The bytes of numbers, one behind the other. -/
def numsBytes (l : List Nat) : List UInt8 := l.flatMap numBytes
theorem numsBytes_len (l : List Nat) (h : ∀ n ∈ l, n ≤ 1099511627776) : (numsBytes l).length ≤ 6 * l.length := by
  induction l with
  | nil => simp [numsBytes]
  | cons n l ih =>
    have h1 := ih fun m hm => h m (List.mem_cons_of_mem _ hm)
    have h2 := numLen_six (show Six n by have := h n (List.mem_cons_self ..); show n < _; omega)
    simp only [numsBytes, List.flatMap_cons, List.length_append, numBytes_len, List.length_cons] at *
    omega
theorem numsBytes_snoc (l : List Nat) (n : Nat) : numsBytes (l ++ [n]) = numsBytes l ++ numBytes n := by simp [numsBytes]
def numV (n : Nat) : Value := .int .i64 n
/-- Num: of numbers that may all be. -/
theorem num34 (w : World) (b : Nat) (v : Value) (l : List UInt8) (ns : List Nat) (A : Option Addr) (c : Nat) (h : Mk w b v l false) (hn : ∀ n ∈ ns, n ≤ 1099511627776)
    (hs : Sl w (Mine b v) 1 (.slice A ns.length c) ns.length (ns.map numV)) (hl : Small (l.length + 8 * ns.length + 8)) :
    Calls Tryz.prog 34 #[.pointer (some ⟨b, 0, none⟩), .slice A ns.length c] w fun e w' => e = .returned (.pointer (some ⟨b, 0, none⟩)) ∧ Made w b v (l ++ numsBytes ns) false w' := by
  have H := Fact.mk h
  have HN := Fact.mk hn
  have HS := Fact.mk hs
  have hlen : ns.length ≤ 1048576 := by have := hl.le; omega
  clear h hn hs
  go_enter Tryz.func34, Tryz.ntmps34
  go_wp2
  go_loopg [11] ns.length (fun g i w' => ∃ k : Nat, k + g = ns.length ∧ i = .int .i64 k ∧ Made w b v (l ++ numsBytes (ns.take k)) false w')
  case atStart => exact ⟨0, by omega, rfl, by simpa [numsBytes] using Made.refl H.out⟩
  case round =>
    obtain ⟨k, hkg, rfl, hmade⟩ := hrel
    have HK := Fact.mk hkg
    have HM := Fact.mk hmade
    clear hkg hmade
    by_cases hk : k < ns.length
    · obtain ⟨v1, hmk, hkp, hmv⟩ := HM.out
      obtain ⟨_, A', c', he, hl1, _, _, _, hat⟩ := HS.out.keep hkp
      cases he
      obtain ⟨b1, off, rfl, hb1, hat⟩ := hat (by simp; omega)
      obtain ⟨n, hne⟩ : ∃ n, n = ns[k] := ⟨_, rfl⟩
      have hcell := hat.get k (numV n) (by simp [hne, List.getElem?_eq_getElem hk])
      unfold numV at hcell
      have hn40 := HN.out n (by rw [hne]; exact List.getElem_mem hk)
      have hsm : Small ((l ++ numsBytes (ns.take k)).length + 8) := by
        have h1 := numsBytes_len (ns.take k) fun m hm => HN.out m (List.mem_of_mem_take hm)
        have h2 := List.length_take_le k ns
        exact hl.mono (by rw [List.length_append]; omega)
      have HT : Fact (numsBytes (ns.take (k + 1)) = numsBytes (ns.take k) ++ numBytes n) := ⟨by
        rw [List.take_succ_eq_append_getElem hk, numsBytes_snoc, hne]⟩
      have hi : ((n : Int) ≤ 9223372036854775807) := by omega
      have hi0 : (0 : Int) ≤ n := by omega
      have HI := Fact.mk (show (n : Int) ≤ 1099511627776 by omega)
      have hw := u64_pos hi0 hi
      have H6 := Fact.mk (show Six n by show n < _; omega)
      have HMK := Fact.mk hmk
      have HKP := Fact.mk hkp
      have HMV := Fact.mk hmv
      clear hne hat hl1 hn40 hmk hkp hmv hi
      go_wp2_with (first
        | (go_at_call 69; refine (allow69 _ _ _ _ _ _ HMK.out hi0 HI.out (by decide)).mono ?_; rintro e w' ⟨rfl, rfl⟩)
        | (go_at_call 70; refine (number70 _ _ _ _ _ _ HMK.out H6.out hsm).mono ?_; rintro e w2 ⟨rfl, hm2⟩))
      go_roundg (gk - 1)
      case measure => have := HK.out; omega
      case rel => exact ⟨k + 1, by have := HK.out; omega, by go_num, by rw [HT.out, ← List.append_assoc]; exact Made.then_ HKP.out HMV.out hm2⟩
    · go_wp2
      go_ret
      have hk : k = ns.length := by have := HK.out; omega
      subst hk
      refine ⟨rfl, ?_⟩
      have := HM.out
      rwa [List.take_length] at this

/-- Raw: bytes that lie apart from the maker. -/
theorem raw71 (w : World) (b : Nat) (v : Value) (l t : List UInt8) (x : Value) (bad : Bool) (h : Mk w b v l bad) (hs : By w (Mine b v) x t) (hl : Small (l.length + t.length)) :
    Calls Tryz.prog 71 #[.pointer (some ⟨b, 0, none⟩), x] w fun e w' => e = .returned (.pointer (some ⟨b, 0, none⟩)) ∧ Made w b v (l ++ t) bad w' := by
  obtain ⟨A, c, q, rfl, hq⟩ := h.form'
  have H := Fact.mk h
  have HS := Fact.mk hs
  have g0 := h.1.cell 0 _ rfl
  have f0 := h.1.free 0
  have HF := Fact.mk (Fits.of hl 1 (by decide))
  clear h hs
  go_enter Tryz.func71, Tryz.ntmps71
  go_wp2_with (at_builtin; go_must (refine wpList_ap rfl _ _ 23 5 1 1 (b + 1) l.length t.length H.out.2 HS.out rfl T23 rfl rfl HF.out H.out.1.lt ?_); intro v' w1 ho hg hb; have HP := Fact.mk (Mk.pushed H.out (ys := t) ho hg hb); clear ho hg hb; obtain ⟨A', c', q', rfl, hq'⟩ := HP.out.form; have g1 := HP.out.1.cell 0 _ rfl; have f1 := HP.out.1.free 0)
  obtain ⟨hB, _, hmk', hk', hm'⟩ := HP.out
  go_ret
  exact ⟨rfl, _, hmk', hk', hm'⟩

theorem Mine.moved {w : World} {b i : Nat} {v v1 : Value} (hm : Moved w v v1) (hi : i < w.heap.size) (h : Mine b v i) : Mine b v1 i :=
  ⟨h.1, fun e => by
    rcases hm i e with h1 | h1
    · exact h.2 h1
    · omega⟩
theorem Mk.mine_new {w : World} {b i : Nat} {v : Value} {l : List UInt8} {bad : Bool} (h : Mk w b v l bad) (hi : w.heap.size ≤ i) : Mine b v i := by
  have h1 := h.1.lt
  exact ⟨by omega, fun e => by have := (h.2.lt i e).2; omega⟩
theorem By.made {w w2 : World} {b : Nat} {v v2 x : Value} {t : List UInt8} (hx : By w (Mine b v) x t) (hk : Keep (Mine b v) w w2) (hm : Moved w v v2) : By w2 (Mine b v2) x t :=
  (hx.keep hk).mono' hx fun _ hi h => h.moved hm hi
/-- Text: of one text. -/
theorem mtext36 (w : World) (b : Nat) (v : Value) (l t : List UInt8) (x : Value) (A : Option Addr) (c : Nat) (h : Mk w b v l false) (hs : Sl w (Mine b v) 1 (.slice A 1 c) 1 [x]) (hx : By w (Mine b v) x t) (hl : Small (l.length + t.length + 16)) :
    Calls Tryz.prog 36 #[.pointer (some ⟨b, 0, none⟩), .slice A 1 c] w fun e w' => e = .returned (.pointer (some ⟨b, 0, none⟩)) ∧ Made w b v (l ++ (numBytes t.length ++ t)) false w' := by
  obtain ⟨Ax, cx, rfl, -⟩ := hx.open
  obtain ⟨_, A', c', he, _, _, _, _, hat⟩ := hs
  cases he
  obtain ⟨b1, off, rfl, hb1, hat⟩ := hat (by simp)
  have hcell := hat.get 0 _ rfl
  rw [Nat.add_zero] at hcell
  have hlt := hl.le
  have HI := Fact.mk (show (t.length : Int) ≤ 1048576 by omega)
  have H := Fact.mk h
  have HX := Fact.mk hx
  have HA : Fact (Mk (w.alloc (.cells #[numV t.length] 3)) b v l false) := ⟨h.alloc _⟩
  have HN : Fact (Sl (w.alloc (.cells #[numV t.length] 3)) (Mine b v) 1 (.slice (some ⟨w.heap.size, 0, none⟩) 1 1) 1 [numV t.length]) :=
    ⟨(Sl.new w 3 1 1 [numV t.length] rfl (by decide) (by simp [numV, Value.oneCell'])).mono fun i _ hi => h.mine_new hi⟩
  have HL1 : Small (l.length + 8 * [t.length].length + 8) := hl.mono (by simp)
  have HT : Fact (∀ n ∈ [t.length], n ≤ 1099511627776) := ⟨by simp; omega⟩
  have hi0 : (0 : Int) ≤ t.length := by omega
  unfold numV at HA HN
  have HL2 : Fact (Small ((l ++ numsBytes [t.length]).length + t.length)) := ⟨hl.mono (by
    have := numsBytes_len [t.length] HT.out
    rw [List.length_append]
    simp only [List.length_cons, List.length_nil] at this
    omega)⟩
  have HE : Fact (l ++ numsBytes [t.length] ++ t = l ++ (numBytes t.length ++ t)) := ⟨by simp [numsBytes]⟩
  clear h hx hat hlt
  go_enter Tryz.func36, Tryz.ntmps36
  go_wp2
  refine wp_loop_rounds 2 ?_
  rw [rounds_succ]
  go_wp2_with (first
    | (go_at_call 69; refine (allow69 _ _ _ _ _ _ H.out hi0 HI.out (by decide)).mono ?_; rintro e w' ⟨rfl, rfl⟩)
    | (go_at_call 34; go_must (refine (num34 _ _ _ _ [t.length] _ _ HA.out HT.out HN.out HL1).mono ?_); rintro e w2 ⟨rfl, v2, hmk2, hkp2, hmv2⟩; have HMK2 := Fact.mk hmk2; have HX2 := Fact.mk (HX.out.made hkp2.alloc_mine hmv2.of_alloc))
    | (go_at_call 71; go_must (refine (raw71 _ _ _ _ _ _ _ HMK2.out HX2.out ?_).mono ?_); exact HL2.out; rintro e w3 ⟨rfl, hm3⟩))
  rw [rounds_succ]
  go_wp2
  go_ret
  exact ⟨rfl, by rw [← HE.out]; exact Made.then_ hkp2.alloc_mine hmv2.of_alloc hm3⟩
end Go.Proofs.YtddmbdigdnmfgaaGreatDoor
