/- From how an argument reads as data to what the walks ask of it: bytes, rows of structs, operations. -/
import Derived.Test.YtddmbdigdnmfgaaGreatDoorQPut
import Derived.Test.YtddmbdigdnmfgaaGreatDoorRows
import Derived.Deep.Slices
import Derived.Deep.Fields
import Derived.ProofKit
import Derived.LaidMore
import Derived.OpenShut
import Derived.Stop.Joined
namespace Go.Proofs.YtddmbdigdnmfgaaGreatDoor
open Go.ChangeShapes Go.WideShapes Go.ChangeAt Go.RowKit Go.Deep
set_option maxRecDepth 100000

section
variable {H : Type} {enc : TypeId × Value → H} {w : World} {base : Nat} {sp : Nat → Bool} {held : Bool}

theorem reps_flatten : ∀ (css : List (List Value)), Reps (fun c x => x = c) css css.flatten
  | [] => rfl
  | c :: r => ⟨c, r.flatten, rfl, rfl, reps_flatten r⟩
theorem flatten_get {css : List (List Value)} {sz : Nat} (hl : ∀ c ∈ css, c.length = sz) (k r : Nat) (hk : k < css.length) (hr : r < sz) : css.flatten[k * sz + r]? = css[k][r]? := by
  have h1 : Reps (fun c x => x = c ∧ c.length = sz) css css.flatten := (reps_flatten css).mono fun x c hm h => ⟨h, hl x hm⟩
  obtain ⟨c, ⟨rfl, hc⟩, hg⟩ := h1.get (sz := sz) (fun x c h => by rw [h.1]; exact h.2) k hk
  have hx : css[k][r]? = some (css[k][r]'(by rw [hc]; exact hr)) := List.getElem?_eq_getElem (by rw [hc]; exact hr)
  rw [hx]
  exact hg r _ hx
theorem flatten_len {css : List (List Value)} {sz : Nat} (hl : ∀ c ∈ css, c.length = sz) : css.flatten.length = css.length * sz :=
  Reps.len (R := fun c x => x = c ∧ c.length = sz) (fun x c h => by rw [h.1]; exact h.2) ((reps_flatten css).mono fun x c hm h => ⟨h, hl x hm⟩)

/-- A slice of elements of sz cells each, opened: each element's cells, and how it reads. -/
theorem open_rows {P : Program} {t e : TypeId} {sz fuel : Nat} {cs : List Value} {x : DataW H × List MemPlace} (ht : P.underlying t = some (.slice e)) (hsz : P.cellsOf e = sz) (hp : 0 < sz) (h : DataW.trod enc P w base sp held fuel t cs = some x) :
    (cs = [.slice none 0 0] ∧ x = (.nil, [])) ∨
    ∃ (a : Addr) (len cap n : Nat) (css : List (List Value)) (ds spd : List (DataW H)), cs = [.slice (some a) len cap] ∧ len ≤ cap ∧ cap ≤ maxLen ∧ css.length = len ∧ ds.length = len ∧ x.1 = .slice ds spd ∧
      (∀ c ∈ css, c.length = sz) ∧ (∀ (i : Nat) (c : List Value) (d : DataW H), css[i]? = some c → ds[i]? = some d → ∃ p, DataW.trod enc P w base sp held n e c = some (d, p)) ∧
      (0 < len → ∃ b off, a = ⟨b, off, none⟩ ∧ At w b off css.flatten) := by
  rcases open_slice ht h with h0 | ⟨a, len, cap, m, n, D, Pl, rfl, hb, hl, hm, hmm, rfl, hi⟩
  · exact .inl h0
  right
  have hlm : len ≤ m := by rw [hmm]; split <;> omega
  rw [hsz] at hi
  obtain ⟨f, hf⟩ := choose_lt (fun i (hi' : i < len) => hi i (by omega))
  have hlen : ∀ c ∈ (List.range len).map f, c.length = sz := by
    intro c hc
    obtain ⟨i, hi', rfl⟩ := List.mem_map.1 hc
    exact (World.cells?_some (hf i (List.mem_range.1 hi')).1).2.1
  refine ⟨a, len, cap, n, (List.range len).map f, (List.range len).map D, _, rfl, hl, hm, by simp, by simp, rfl, hlen, ?_, fun h0 => ?_⟩
  · intro i c d hc hd
    by_cases hil : i < len
    · simp [hil] at hc hd
      subst hc hd
      exact ⟨_, (hf i hil).2⟩
    · simp [hil] at hc
  · obtain ⟨b, off, spot⟩ := a
    have hc0 := (World.cells?_some (hf 0 h0).1)
    have hx := hc0.2.2 0 hp
    have hspot : spot = none := by
      have hy : (f 0)[0]? = some ((f 0)[0]'(by omega)) := List.getElem?_eq_getElem (by omega)
      rw [hy] at hx
      simpa [Addr.add] using World.cell?_spot hx
    subst hspot
    refine ⟨b, off, rfl, fun j hj => ?_⟩
    rw [flatten_len hlen, List.length_map, List.length_range] at hj
    have hk : j / sz < len := Nat.div_lt_of_lt_mul (by rw [Nat.mul_comm]; exact hj)
    have hr : j % sz < sz := Nat.mod_lt _ hp
    have hj' : j / sz * sz + j % sz = j := by rw [Nat.mul_comm]; exact Nat.div_add_mod j sz
    have hc := (World.cells?_some (hf (j / sz) hk).1).2.2 (j % sz) hr
    have hg := flatten_get hlen (j / sz) (j % sz) (by simpa using hk) hr
    rw [hj'] at hg
    rw [add_at, add_at] at hc
    rw [show off + j = off + j / sz * sz + j % sz from by omega, hc]
    have hge : ((List.range len).map f)[j / sz]'(by simpa using hk) = f (j / sz) := by simp
    rw [hge] at hg
    have hlf := (World.cells?_some (hf (j / sz) hk).1).2.1
    have hs : (f (j / sz))[j % sz]? = some ((f (j / sz))[j % sz]'(by omega)) := List.getElem?_eq_getElem (by omega)
    rw [hs] at hg
    rw [hs, List.getD_eq_getElem?_getD, hg]
    rfl
theorem sl_of_rows {sz len cap : Nat} {css : List (List Value)} {a : Addr} (hl : len ≤ cap) (hm : cap ≤ maxLen) (hn : css.length = len) (hlen : ∀ c ∈ css, c.length = sz) (h1 : ∀ c ∈ css, ∀ u ∈ c, u.oneCell' = true)
    (hat : 0 < len → ∃ b off, a = ⟨b, off, none⟩ ∧ At w b off css.flatten) : Sl w All sz (.slice (some a) len cap) len css.flatten := by
  refine ⟨fun u hu => ?_, some a, cap, rfl, by rw [flatten_len hlen, hn], hl, hm, (fun e => by cases e), fun hp => ?_⟩
  · obtain ⟨c, hc, hu⟩ := List.mem_flatten.1 hu
    exact h1 c hc u hu
  · have h0 : 0 < len := by
      rcases Nat.eq_zero_or_pos len with h | h
      · rw [flatten_len hlen, hn, h, Nat.zero_mul] at hp; omega
      · exact h
    obtain ⟨b, off, rfl, h⟩ := hat h0
    exact ⟨b, off, rfl, trivial, h⟩
end

/-- Of what it reads each string, slice is of no more bytes than memory has. -/
def Within {H : Type} (t : TypeId) (d : DataW H) : Prop := ∀ n ∈ d.weights Tryz.prog t, n ≤ 140737488351232
theorem Within.of {H : Type} {ts : List TypeId} {ds : List (DataW H)} (h : (DataW.weightsEach Tryz.prog ts ds).all (· ≤ reachBytes) = true) {j : Nat} {t : TypeId} {d : DataW H} (ht : ts[j]? = some t) (hd : ds[j]? = some d) : Within t d := fun n hn => by
  have := List.all_eq_true.1 h n (DataW.weights_mem_each ht hd n hn)
  exact of_decide_eq_true this
theorem weights_mem_all {H : Type} {P : Program} {e : TypeId} : ∀ {ds : List (DataW H)} {d : DataW H}, d ∈ ds → ∀ n ∈ d.weights P e, n ∈ DataW.weightsAll P e ds
  | d0 :: ds, d, hm, n, hn => by
    simp only [DataW.weightsAll, List.mem_append]
    rcases List.mem_cons.1 hm with rfl | hm
    · exact .inl hn
    · exact .inr (weights_mem_all hm n hn)
  | [], _, hm, _, _ => by simp at hm
theorem Within.elem {H : Type} {t e : TypeId} {ds spd : List (DataW H)} (ht : Tryz.prog.underlying t = some (.slice e)) (h : Within t (.slice ds spd)) : (∀ d ∈ ds, Within e d) ∧ (ds.length + spd.length) * Tryz.prog.bytesOf e ≤ 140737488351232 := by
  constructor
  · intro d hd n hn
    refine h n ?_
    simp only [DataW.weights, ht, List.mem_cons, List.mem_append]
    exact .inr (.inl (weights_mem_all hd n hn))
  · refine h _ ?_
    simp [DataW.weights, ht]
theorem Within.part {H : Type} {t : TypeId} {fs : Array Field} {ds : List (DataW H)} (ht : Tryz.prog.underlying t = some (.struct fs)) (h : Within t (.agg ds)) {j : Nat} {f : Field} {d : DataW H} (hf : fs[j]? = some f) (hd : ds[j]? = some d) : Within f.type d := fun n hn => by
  refine h n ?_
  simp only [DataW.weights, ht]
  exact DataW.weights_mem_each (j := j) (by simp [hf]) hd n hn

section
variable {H : Type} {enc : TypeId × Value → H} {w : World} {base : Nat} {sp : Nat → Bool} {held : Bool}
theorem cells5 : Tryz.prog.cellsOf 5 = 1 := by kernel_rfl
theorem bytes5 : Tryz.prog.bytesOf 5 = 1 := by kernel_rfl
theorem cells25 : Tryz.prog.cellsOf 25 = 4 := by kernel_rfl
theorem bytes25 : Tryz.prog.bytesOf 25 = 48 := by kernel_rfl

/-- Bytes. -/
theorem by_of_trod {fuel : Nat} {v : Value} {x : DataW H × List MemPlace} (h : DataW.trod enc Tryz.prog w base sp held fuel 23 [v] = some x) : ∃ l, By w All v l ∧ (Within 23 x.1 → l.length ≤ 140737488351232) := by
  rcases open_rows Tryz.underlying23 cells5 (by decide) h with ⟨hv, hx⟩ | ⟨a, len, cap, n, css, ds, spd, hv, hl, hm, hn, hd, hx, hlen, hel, hat⟩
  · cases hv
    exact ⟨[], By.nil _ _, fun _ => by simp⟩
  · cases hv
    have hone : ∀ c ∈ css, ∃ u : UInt8, c = [u8v u] := by
      intro c hc
      obtain ⟨i, hi, rfl⟩ := List.getElem_of_mem hc
      obtain ⟨p, ht⟩ := hel i css[i] ds[i] (List.getElem?_eq_getElem hi) (List.getElem?_eq_getElem (by omega))
      obtain ⟨k, e1, e2, hk⟩ := DataW.trod_int Tryz.underlying5 ht
      rw [e1]
      have hb := bounds_u8 hk
      refine ⟨UInt8.ofNat k.toNat, ?_⟩
      simp only [u8v, UInt8.toNat_ofNat', List.cons.injEq, and_true]
      rw [Nat.mod_eq_of_lt (by omega), Int.toNat_of_nonneg hb.1]
    have hall : ∃ l : List UInt8, css.flatten = l.map u8v ∧ l.length = css.length := by
      clear hat hel hlen hx hn
      induction css with
      | nil => exact ⟨[], rfl, rfl⟩
      | cons c r ih =>
        obtain ⟨u, rfl⟩ := hone _ (List.mem_cons_self ..)
        obtain ⟨l, h1, h2⟩ := ih fun c hc => hone c (List.mem_cons_of_mem _ hc)
        exact ⟨u :: l, by simp [h1], by simp [h2]⟩
    obtain ⟨l, h1, h2⟩ := hall
    have hsl := sl_of_rows hl hm hn hlen (fun c hc u hu => by obtain ⟨y, rfl⟩ := hone c hc; simp at hu; subst hu; rfl) hat
    rw [h1] at hsl
    have e : len = l.length := by omega
    subst e
    refine ⟨l, hsl, fun hw => ?_⟩
    rw [hx] at hw
    have := (Within.elem Tryz.underlying23 hw).2
    rw [bytes5] at this
    omega
/-- Operations. -/
theorem ops_of_trod {fuel : Nat} {v : Value} {x : DataW H × List MemPlace} (h : DataW.trod enc Tryz.prog w base sp held fuel 22 [v] = some x) : ∃ l : List POp, OpsR w All v l ∧ (Within 22 x.1 → l.length ≤ 140737488351232 ∧ ∀ k (hk : k < l.length), l[k].text.length ≤ 140737488351232) := by
  rcases open_rows Tryz.underlying22 cells25 (by decide) h with ⟨hv, hx⟩ | ⟨a, len, cap, n, css, ds, spd, hv, hl, hm, hn, hd, hx, hlen, hel, hat⟩
  · cases hv
    exact ⟨[], ⟨[], Sl.nil _ _ _, rfl⟩, fun _ => ⟨by simp, fun k hk => absurd hk (by simp)⟩⟩
  · cases hv
    have hone : ∀ i (hi : i < css.length), ∃ o : POp, OpRep w All o css[i] ∧ (Within 25 (ds[i]'(by omega)) → o.text.length ≤ 140737488351232) := by
      intro i hi
      obtain ⟨p, ht⟩ := hel i css[i] ds[i] (List.getElem?_eq_getElem hi) (List.getElem?_eq_getElem (by omega))
      have hl4 := hlen _ (List.getElem_mem hi)
      obtain ⟨ys, m, rfl, hy, -, hyl, hf⟩ := DataW.trod_struct Tryz.underlying25 ht
      generalize css[i] = c at *
      match c, hl4 with
      | [c0, c1, c2, c3], _ =>
        match ys, hyl with
        | [y0, y1, y2, y3], _ =>
          have o3 : Tryz.prog.cellsOf 3 = 1 := by kernel_rfl
          have o23 : Tryz.prog.cellsOf 23 = 1 := by kernel_rfl
          have f0 : DataW.trod enc Tryz.prog w base sp held m 3 (List.take (Tryz.prog.cellsOf 3) [c0, c1, c2, c3]) = some y0 := hf 0 _ rfl
          have f1 : DataW.trod enc Tryz.prog w base sp held m 3 (List.take (Tryz.prog.cellsOf 3) [c1, c2, c3]) = some y1 := hf 1 _ rfl
          have f2 : DataW.trod enc Tryz.prog w base sp held m 3 (List.take (Tryz.prog.cellsOf 3) [c2, c3]) = some y2 := hf 2 _ rfl
          have f3 : DataW.trod enc Tryz.prog w base sp held m 23 (List.take (Tryz.prog.cellsOf 23) [c3]) = some y3 := hf 3 _ rfl
          rw [o3] at f0 f1 f2
          rw [o23] at f3
          obtain ⟨k0, e0, -⟩ := DataW.trod_int Tryz.underlying3 f0
          obtain ⟨k1, e1, -⟩ := DataW.trod_int Tryz.underlying3 f1
          obtain ⟨k2, e2, -⟩ := DataW.trod_int Tryz.underlying3 f2
          obtain ⟨l, hl, hlw⟩ := by_of_trod (v := c3) f3
          simp at e0 e1 e2
          subst e0 e1 e2
          refine ⟨⟨k0, k1, k2, l⟩, ⟨c3, rfl, hl⟩, fun hw => hlw ?_⟩
          simp only [Prod.mk.injEq] at hy
          rw [hy.1] at hw
          exact hw.part Tryz.underlying25 (j := 3) rfl rfl
    obtain ⟨l, hll, hlr⟩ : ∃ l : List POp, l.length = css.length ∧ ∀ i (hi : i < css.length) (hi' : i < l.length), OpRep w All l[i] css[i] ∧ (Within 25 (ds[i]'(by omega)) → l[i].text.length ≤ 140737488351232) := by
      have : Inhabited POp := ⟨⟨0, 0, 0, []⟩⟩
      obtain ⟨f, hf⟩ := choose_lt (n := css.length) (p := fun i o => ∃ (h1 : i < css.length), OpRep w All o css[i] ∧ (Within 25 (ds[i]'(by omega)) → o.text.length ≤ 140737488351232)) fun i hi => (hone i hi).imp fun o h => ⟨hi, h⟩
      refine ⟨(List.range css.length).map f, by simp, fun i hi hi' => ?_⟩
      obtain ⟨_, h⟩ := hf i hi
      simpa using h
    have hreps : Reps (OpRep w All) l css.flatten := by
      have hz : ∀ i (hi : i < css.length) (hi' : i < l.length), OpRep w All l[i] css[i] := fun i hi hi' => (hlr i hi hi').1
      clear hlr hat hel hlen hx hn hone hd h
      induction css generalizing l with
      | nil => rw [List.eq_nil_of_length_eq_zero hll]; rfl
      | cons c r ih =>
        match l, hll with
        | o :: l, hll =>
          exact ⟨c, r.flatten, rfl, hz 0 (by simp) (by simp), ih l (by simpa using hll) fun i hi hi' => by have := hz (i + 1) (by simpa using hi) (by simpa using hi'); simpa using this⟩
    have hsl := sl_of_rows hl hm hn hlen (fun c hc u hu => by
      obtain ⟨i, hi, rfl⟩ := List.getElem_of_mem hc
      obtain ⟨o, ho, -⟩ := hone i hi
      exact ho.one o _ u hu) hat
    have e : len = l.length := by omega
    subst e
    refine ⟨l, ⟨_, hsl, hreps⟩, fun hw => ?_⟩
    rw [hx] at hw
    have hw2 := Within.elem Tryz.underlying22 hw
    refine ⟨by have := hw2.2; rw [bytes25] at this; omega, fun k hk => ?_⟩
    exact (hlr k (by omega) hk).2 (hw2.1 _ (List.getElem_mem (by omega)))
end
end Go.Proofs.YtddmbdigdnmfgaaGreatDoor
