/- Words that the laws' walks share: sums of texts, what Put and Get have answered, appends. -/
import Derived.Test.YtddmbdigdnmfgaaGreatDoorSame
namespace Go.Proofs.YtddmbdigdnmfgaaGreatDoor
open Go.RowKit
set_option maxHeartbeats 1000000
set_option maxRecDepth 100000

def Truly (w : World) (e : Ending) (w' : World) : Prop := e = .returned (.bool true) ∧ Keep All w w'
def sumText (l : List POp) : Nat := (l.map fun o => o.text.length).sum
theorem sumText_take {l : List POp} {k : Nat} (hk : k < l.length) : sumText (l.take (k + 1)) = sumText (l.take k) + l[k].text.length := by
  rw [List.take_succ_eq_append_getElem hk]
  simp only [sumText, List.map_append, List.sum_append, List.map_cons, List.map_nil, List.sum_cons, List.sum_nil, Nat.add_zero]
theorem sumText_le {l : List POp} {k : Nat} : sumText (l.take k) ≤ sumText l := by
  conv => rhs; rw [← List.take_append_drop k l]
  simp only [sumText, List.map_append, List.sum_append]
  omega
theorem opsSize_sum (l : List POp) : opsSize l = sumText l + 32 * l.length := by
  induction l with
  | nil => rfl
  | cons o l ih => simp only [opsSize, sumText, List.map_cons, List.sum_cons, List.length_cons] at *; omega
theorem get13_long (w : World) (A : Option Addr) (c : Nat) (b : List UInt8) (hb : 1000 < b.length) :
    Calls Tryz.prog 13 #[.slice A b.length c] w (GetPost w b) := by
  have HG : Fact (getOps b = .bad 3) := ⟨by rw [getOps, if_pos hb]⟩
  go_enter Tryz.func13, Tryz.ntmps13
  go_wp2
  go_ret2
  exact ⟨by rw [HG.out]; rfl, Keep.refl _ _⟩
theorem get13_any (w : World) (G : Nat → Prop) (v : Value) (b : List UInt8) (h : By w G v b) : Calls Tryz.prog 13 #[v] w (GetPost w b) := by
  by_cases hb : b.length ≤ 1000
  · exact get13 w G v b h hb
  · obtain ⟨A, c, rfl, -⟩ := h.open
    exact get13_long w A c b (by omega)
theorem putOps_bad {l : List POp} {x : Int} (h : putOps l = .bad x) : x = 2 ∨ x = 3 := by
  unfold putOps at h
  split at h
  · split at h
    · cases h; exact .inr rfl
    · cases h
  · cases h; exact .inl rfl
theorem getOps_bad {b : List UInt8} {x : Int} (h : getOps b = .bad x) : x = 3 ∨ x = 4 := by
  unfold getOps at h
  split at h
  · cases h; exact .inl rfl
  · split at h
    · cases h
    · cases h; exact .inr rfl
/-- What Put has answered. -/
def PutIs (w : World) (base : Nat) (l : List POp) (A : Option Addr) (n c : Nat) (x : Int) : Prop :=
  (∃ b, putOps l = .ok b ∧ x = 0 ∧ n = b.length ∧ By w (fun i => base ≤ i) (.slice A n c) b) ∨ (putOps l = .bad x ∧ ¬ x = 0 ∧ A = none ∧ n = 0 ∧ c = 0)
theorem PutPost.form {w w' : World} {l : List POp} {e : Ending} (h : PutPost w l e w') : ∃ A n c x, e = .returned (.tuple #[.slice A n c, .int .i64 x]) ∧ Fact (PutIs w' w.heap.size l A n c x) ∧ Fact (Keep All w w') := by
  obtain ⟨h1, h2⟩ := h
  cases hp : putOps l with
  | ok b =>
    rw [hp] at h1
    obtain ⟨A, c, rfl, hb⟩ := h1
    exact ⟨A, _, c, 0, rfl, ⟨.inl ⟨b, hp, rfl, rfl, hb⟩⟩, ⟨h2⟩⟩
  | bad y =>
    rw [hp] at h1
    have := putOps_bad hp
    exact ⟨none, 0, 0, y, h1, ⟨.inr ⟨hp, by omega, rfl, rfl, rfl⟩⟩, ⟨h2⟩⟩
theorem PutIs.keep {w w' : World} {base : Nat} {l : List POp} {A : Option Addr} {n c : Nat} {x : Int} (h : PutIs w base l A n c x) (k : Keep All w w') : PutIs w' base l A n c x := by
  rcases h with ⟨b, h1, h2, h3, h4⟩ | h
  · exact .inl ⟨b, h1, h2, h3, h4.keep k.all⟩
  · exact .inr h
/-- What Get has answered. -/
def GetIs (w : World) (base : Nat) (b : List UInt8) (A : Option Addr) (n c : Nat) (x : Int) : Prop :=
  (∃ l, getOps b = .ok l ∧ x = 0 ∧ n = l.length ∧ OpsR w (fun i => base ≤ i) (.slice A n c) l) ∨ (getOps b = .bad x ∧ ¬ x = 0 ∧ A = none ∧ n = 0 ∧ c = 0)
theorem GetPost.form {w w' : World} {b : List UInt8} {e : Ending} (h : GetPost w b e w') : ∃ A n c x, e = .returned (.tuple #[.slice A n c, .int .i64 x]) ∧ Fact (GetIs w' w.heap.size b A n c x) ∧ Fact (Keep All w w') := by
  obtain ⟨h1, h2⟩ := h
  cases hp : getOps b with
  | ok l =>
    rw [hp] at h1
    obtain ⟨A, c, rfl, hb⟩ := h1
    exact ⟨A, _, c, 0, rfl, ⟨.inl ⟨l, hp, rfl, rfl, hb⟩⟩, ⟨h2⟩⟩
  | bad y =>
    rw [hp] at h1
    have := getOps_bad hp
    exact ⟨none, 0, 0, y, h1, ⟨.inr ⟨hp, by omega, rfl, rfl, rfl⟩⟩, ⟨h2⟩⟩
theorem OpsR.nil (w : World) (G : Nat → Prop) : OpsR w G (.slice none 0 0) [] := ⟨[], Sl.nil w G 4, rfl⟩
/-- What was put: how much room it takes. -/
theorem putOps_size {l : List POp} {b : List UInt8} (h : putOps l = .ok b) : b.length ≤ 1000 := by
  obtain ⟨_, h2, rfl⟩ := putOps_ok.1 h
  exact h2
theorem own_empty (w : World) (e : TypeId) (sz : Nat) : (w.alloc (.cells #[] e)).ownsRow w.heap.size e sz (.slice (some ⟨w.heap.size, 0, none⟩) 0 0) 0 [] :=
  ⟨by simp, .inr ⟨w.heap.size, 0, #[], rfl, Nat.le_refl _, by show (w.heap.push _)[w.heap.size]? = _; simp, Nat.le_refl _, by unfold maxLen; omega, by simp, by simp⟩⟩
theorem putOps_two {l m : List POp} {x y : List UInt8} (h1 : putOps l = .ok x) (h2 : putOps m = .ok y) : putOps (l ++ m) = if x.length + y.length ≤ 1000 then .ok (x ++ y) else .bad 3 := by
  obtain ⟨a1, a2, rfl⟩ := putOps_ok.1 h1
  obtain ⟨b1, b2, rfl⟩ := putOps_ok.1 h2
  unfold putOps
  rw [if_pos (by rw [List.all_append, a1, b1]; rfl), opsBytes_append, List.length_append]
  by_cases h : (opsBytes l).length + (opsBytes m).length ≤ 1000
  · rw [if_pos h, if_neg (by omega)]
  · rw [if_neg h, if_pos (by omega)]
theorem putOps_none {l m : List POp} {x : List UInt8} {e : Int} (h1 : putOps l = .ok x) (h2 : putOps m = .bad e) : ∃ f, putOps (l ++ m) = .bad f := by
  obtain ⟨a1, a2, rfl⟩ := putOps_ok.1 h1
  unfold putOps at *
  by_cases hm : m.all opRight = true
  · rw [if_pos hm] at h2
    by_cases hl : (opsBytes m).length > 1000
    · rw [if_pos (by rw [List.all_append, a1, hm]; rfl), opsBytes_append, List.length_append, if_pos (by omega)]
      exact ⟨_, rfl⟩
    · rw [if_neg hl] at h2
      cases h2
  · rw [if_neg (by rw [List.all_append, a1]; simpa using hm)]
    exact ⟨_, rfl⟩
theorem opsSize_append (l m : List POp) : opsSize (l ++ m) = opsSize l + opsSize m := by simp [opsSize]
theorem ops_own {w : World} {base : Nat} {v : Value} {l m : List POp} {xl xm : List Value} (ho : w.ownsRow base 25 4 v (0 + l.length + m.length) ([] ++ xl ++ xm)) (r1 : Reps (OpRep w All) l xl) (r2 : Reps (OpRep w All) m xm) : OpsR w All v (l ++ m) := by
  rw [Nat.zero_add, ← List.length_append, List.nil_append] at ho
  have hr := Reps.append r1 r2
  exact ⟨xl ++ xm, (Sl.of_own ho (hr.all1 OpRep.one)).mono fun _ _ _ => trivial, hr⟩
theorem by_own {w : World} {base n m : Nat} {v : Value} {x y : List UInt8} (ho : w.ownsRow base 5 1 v (0 + n + m) ([] ++ x.map u8v ++ y.map u8v)) : By w All v (x ++ y) := by
  rw [List.nil_append, ← List.map_append] at ho
  exact (By.of_own ho).mono fun _ _ _ => trivial
theorem opBytes_ge {o : POp} (h : OpRight o) : o.text.length + 1 ≤ (opBytes o).length := by
  unfold opBytes
  have hp := numLen_pos o.kind.toNat
  have hq := numLen_pos o.text.length
  by_cases ht : hasText o.kind = true
  · rw [if_pos ht]
    simp only [List.length_append, numBytes_len]
    omega
  · have : o.text.length = 0 := by
      rcases h.2.2.1 with h0 | h0
      · exact h0
      · exact absurd h0 ht
    rw [if_neg ht]
    simp only [List.length_append, numBytes_len]
    omega
theorem opsBytes_ge : ∀ (l : List POp), l.all opRight = true → l.length ≤ (opsBytes l).length ∧ sumText l ≤ (opsBytes l).length
  | [], _ => ⟨Nat.le_refl _, Nat.le_refl _⟩
  | o :: l, h => by
    simp only [List.all_cons, Bool.and_eq_true] at h
    have h1 := opBytes_ge (by simpa [opRight] using h.1 : OpRight o)
    have h2 := opsBytes_ge l h.2
    simp only [opsBytes, sumText, List.flatMap_cons, List.length_append, List.map_cons, List.sum_cons, List.length_cons] at *
    omega
theorem putOps_room {l : List POp} {b : List UInt8} (h : putOps l = .ok b) : l.length ≤ 1000 ∧ opsSize l ≤ 33000 := by
  obtain ⟨h1, h2, rfl⟩ := putOps_ok.1 h
  have := opsBytes_ge l h1
  rw [opsSize_sum]
  omega
/-- An append behind a guard that says yes. -/
theorem wpList_ap_if {P : Program} {w : World} {ops : Array Oper} {rest : List Oper} {o : Oper} {a : Act} {Q : Exit → Act → World → Prop} (hw : Region.wanted o (yielded ops a.tmps) = true) (s x : Operand) (t e : TypeId) (sz bytes base n m : Nat) {v xv : Value} {xs ys : List Value} {G : Nat → Prop}
    (hown : w.ownsRow base e sz v n xs) (hxs : Sl w G sz xv m ys) (ho : o.op = .call { callee := .builtin .append, args := #[s, x], argTypes := #[t, t] }) (hT : SlTy P t e sz bytes) (hs : a.eval s = v) (hx : a.eval x = xv)
    (hf : Fits n m bytes) (hbase : base ≤ w.heap.size)
    (h : ∀ v' w', w'.ownsRow base e sz v' (n + m) (xs ++ ys) → w.grownBy w' v.ownBlock → (v'.ownBlock = v.ownBlock ∨ v'.ownBlock = some w.heap.size) → wpList P ops Q rest (a.put o.dst v') w') : wpList P ops Q (o :: rest) a w :=
  wpList_step fun K hK => by
    rw [if_pos hw]
    exact wp_ap s x t e sz bytes base n m hown hxs ho hT hs hx hf hbase fun v' w' h2 h3 h4 => hK _ _ (h v' w' h2 h3 h4)
end Go.Proofs.YtddmbdigdnmfgaaGreatDoor
