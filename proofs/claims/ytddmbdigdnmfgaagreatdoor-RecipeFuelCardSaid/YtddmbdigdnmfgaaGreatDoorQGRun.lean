/- recipe.Run, at any inputs. -/
import Derived.Test.YtddmbdigdnmfgaaGreatDoorQGBuild
import Derived.Test.YtddmbdigdnmfgaaGreatDoorQRun2
namespace Go.Proofs.YtddmbdigdnmfgaaGreatDoor
open Go.RowKit
set_option maxHeartbeats 4000000
set_option maxRecDepth 100000

/-- The five stores at an early end. -/
def set5 (Y : World) (r : Nat) (a b c x y : Value) : World := ((set3 Y (r + 1) a b c).setCell ⟨r + 1 + 1, 0, none⟩ x).setCell ⟨r + 1 + 1 + 1, 0, none⟩ y
theorem set5_8 {Y : World} {r : Nat} {a0 b0 c0 : Value} (h : Blk Y (r + 1) [a0, b0, c0] 58) (a b c x y : Value) : Blk (set5 Y r a b c x y) (r + 1) [a, b, c] 58 :=
  ((h.set3 a b c).other _ (by show r + 1 ≠ r + 1 + 1; omega) _).other _ (by show r + 1 ≠ r + 1 + 1 + 1; omega) _
theorem set5_9 {Y : World} {r : Nat} {x0 : Value} (h : Blk Y (r + 1 + 1) [x0] 3) (a b c x y : Value) : Blk (set5 Y r a b c x y) (r + 1 + 1) [x] 3 :=
  ((h.keep ((Keep.refl (fun i => i ≠ r + 1) Y).set3 _ (.inr fun h => h rfl) a b c) (by show r + 1 + 1 ≠ r + 1; omega)).set 0 x).other _ (by show r + 1 + 1 ≠ r + 1 + 1 + 1; omega) _
theorem set5_10 {Y : World} {r : Nat} {x0 : Value} (h : Blk Y (r + 1 + 1 + 1) [x0] 28) (a b c x y : Value) : Blk (set5 Y r a b c x y) (r + 1 + 1 + 1) [y] 28 :=
  ((h.keep ((Keep.refl (fun i => i ≠ r + 1) Y).set3 _ (.inr fun h => h rfl) a b c) (by show r + 1 + 1 + 1 ≠ r + 1; omega)).other _ (by show r + 1 + 1 + 1 ≠ r + 1 + 1; omega) _).set 0 y
theorem set5_keep (Y : World) (r : Nat) (a b c x y : Value) : Keep (fun i => i < r + 1 ∨ r + 1 + 1 + 1 < i) Y (set5 Y r a b c x y) :=
  (((Keep.refl _ Y).set3 _ (.inr fun h => by omega) _ _ _).setCell (.inr fun h => by simp only at h; omega) _).setCell (.inr fun h => by simp only at h; omega) _
theorem HadOut.isno {w w' : World} {G : Nat → Prop} {l : List PInN} {snm : ByteArray} {e : Ending} (h : HadOut w G l snm e w') (hn : (hadP ⟨#[]⟩ l && nameP snm) = false) : ∃ mv, e = .returned (.tuple #[.map mv, .bool false]) ∧ Keep All w w' := by
  obtain ⟨h1, h2⟩ := h
  split at h1
  · rename_i hh
    obtain ⟨bm, L, rfl, -⟩ := h1
    rw [hh, Bool.true_and] at hn
    exact ⟨_, by rw [hn], h2⟩
  · exact ⟨_, h1, h2⟩
theorem HadOut.isyes {w w' : World} {G : Nat → Prop} {l : List PInN} {snm : ByteArray} {e : Ending} (h : HadOut w G l snm e w') (hn : (hadP ⟨#[]⟩ l && nameP snm) = true) : ∃ bm L, e = .returned (.tuple #[.map (some bm), .bool true]) ∧ w.heap.size ≤ bm ∧ MapS w' bm L ∧ EntR w' G l L ∧ Keep All w w' := by
  obtain ⟨h1, h2⟩ := h
  rw [Bool.and_eq_true] at hn
  rw [if_pos hn.1, hn.2] at h1
  obtain ⟨bm, L, rfl, h3, h4, h5⟩ := h1
  exact ⟨bm, L, rfl, h3, h4, h5, h2⟩
theorem ops_right {b : List UInt8} {ops : List POp} (h : getOps b = .ok ops) : (∀ o ∈ ops, OpRight o) ∧ ops.length ≤ 1000 := by
  have h1 := (putOps_ok.1 (putOps_get h)).1
  refine ⟨fun o ho => by simpa [opRight] using List.all_eq_true.1 h1 o ho, ?_⟩
  unfold getOps at h
  split at h
  · cases h
  · split at h
    · cases h
      have := readAll_len b.length b 0
      omega
    · cases h
def builderG (sbs : List UInt8) (snm : ByteArray) (fuel : Nat) (ov : Value) (bm : Nat) : List Value := [.int .i64 (0 : Nat), .int .i64 fuel, .slice none 0 0, ov, .int .i64 (0 : Nat)] ++ (pathCells sbs snm ++ [.map (some bm)])
theorem build143g (sbs : List UInt8) (snm : ByteArray) (hb : sbs.length = 20) (w : World) (fuel : Nat) (A : Option Addr) (n c bm : Nat) : (Instr.build 143 #[(0, .agg #[.int .i64 0, .int .i64 fuel, .slice none 0 0]), (1, .slice A n c), (3, .agg (pathCells sbs snm).toArray), (4, .map (some bm))]).run Tryz.prog w = .ok (.agg (builderG sbs snm fuel (.slice A n c) bm).toArray) w :=
  match sbs, hb with
  | [b0, b1, b2, b3, b4, b5, b6, b7, b8, b9, b10, b11, b12, b13, b14, b15, b16, b17, b18, b19], _ => by kernel_rfl
/-- What Run tells. -/
def RunG (w : World) (r : PNode × Nat × Int) (F : Nat) (e : Ending) (w' : World) : Prop :=
  (∃ v, e = .returned (.tuple #[v, .int .i64 r.2.1, .int .i64 r.2.2]) ∧ NodeV w' All r.1 v) ∧ (r.2.2 = 0 → rightP r.1 = true) ∧ r.2.1 ≤ F ∧ Keep All w w'
theorem zeroV (w : World) : NodeV w All zeroP (.agg #[.int .i64 0, .slice none 0 0, .slice none 0 0]) := ⟨none, 0, none, 0, rfl, by
  show RepN w All (.mk 0 [] []) _ _
  rw [RepN]
  exact ⟨By.nil _ _, [], Sl.nil _ _ _, by simp [RepK]⟩⟩
theorem rec64_panicG (x : Int) (w : World) (p used b14 b9 b10 b8 : Nat) (y z : Int) (d0 d1 d2 : Value) (older : List PanicEntry) (h14 : w.cell? ⟨b14, 0, none⟩ = some (.pointer (some ⟨p, 0, none⟩))) (h0 : w.cell? ⟨p, 0, none⟩ = some (.int .i64 used)) (h9 : w.cell? ⟨b9, 0, none⟩ = some (.int .i64 z)) (f9 : w.frozen? ⟨b9, 0, none⟩ = false)
    (h10 : w.cell? ⟨b10, 0, none⟩ = some (.int .i64 y)) (f10 : w.frozen? ⟨b10, 0, none⟩ = false) (h8 : Blk w b8 [d0, d1, d2] 58) (h910 : b9 ≠ b10) (h98 : b9 ≠ b8) (h108 : b10 ≠ b8) :
    CallsD Tryz.prog 64 #[.pointer (some ⟨b14, 0, none⟩), .pointer (some ⟨b9, 0, none⟩), .pointer (some ⟨b10, 0, none⟩), .pointer (some ⟨b8, 0, none⟩)] (.panicking ({ v := .iface 28 (.int .i64 x), recovered := false } :: older)) w fun e u w' =>
      e = .returned (.tuple #[]) ∧ u = .panicking ({ v := .iface 28 (.int .i64 x), recovered := true } :: older) ∧ w' = set3 ((w.setCell ⟨b9, 0, none⟩ (.int .i64 used)).setCell ⟨b10, 0, none⟩ (.int .i64 x)) b8 (.int .i64 0) (.slice none 0 0) (.slice none 0 0) := by
  have e0 := h8.cell 0 _ rfl
  have e1 := h8.cell 1 _ rfl
  have e2 := h8.cell 2 _ rfl
  have z0 := h8.free 0
  have z1 := h8.free 1
  have z2 := h8.free 2
  clear h8
  have hta : ∀ w, (Instr.typeAssert (.iface 28 (.int .i64 x)) 20 28 true).run Tryz.prog w = .ok (.tuple #[.int .i64 x, .bool true]) w := fun _ => by kernel_rfl
  refine callsD_of_wpS Tryz.func64 rfl fun c₀ cs hu => ?_
  simp only [Tryz.ntmps64, List.size_toArray, List.length_cons, List.length_nil, Nat.reduceAdd, Nat.reduceSub, Array.replicate_succ, Array.replicate_zero, List.push_toArray, List.append_toArray, List.nil_append, List.cons_append]
  apply wpS_seq
  refine wpS_of_wp ?_
  go_wp2
  simp only [Exit.thenS]
  apply wpS_seq
  apply wpS_region
  simp [wpOpsS, go_sem, recoverD, hu, Exit.thenS]
  refine wpS_of_wp ?_
  go_wp2

  cases c₀
  simp_all [bodyPostS, results, Tryz.results64, set3]
theorem run27_bad (w : World) (G Gi : Nat → Prop) (A : Option Addr) (c : Nat) (bb : List UInt8) (sbs : List UInt8) (snm : ByteArray) (l : List PInN) (iv : Value) (f : Int) (h : By w G (.slice A bb.length c) bb) (hsb : sbs.length = 20) (hi : InsV w Gi l iv) (hGi : ∀ i, Gi i → i < w.heap.size) (x : Int) (hops : getOps bb = .bad x) :
    Calls Tryz.prog 27 #[.slice A bb.length c, .agg (pathCells sbs snm).toArray, iv, .int .i64 f] w (RunG w (zeroP, 0, x) f.toNat) := by
  have H := Fact.mk h
  have HO := Fact.mk hops
  have HII := Fact.mk hi
  have HGI := Fact.mk hGi
  clear h hops hi hGi
  have hmf : ∀ (fn : Fn) (first cap : Array Value) (w : World), (Instr.makeFunc fn first cap).run Tryz.prog w = .ok (.func fn first cap) w := fun _ _ _ _ => rfl
  obtain ⟨sc, hsc⟩ : ∃ q, q = pathCells sbs snm := ⟨_, rfl⟩
  have HSC := Fact.mk hsc
  have HCL : Fact (sc.length = 21) := ⟨by rw [hsc]; simp [pathCells, hsb]⟩
  have HSB := Fact.mk hsb
  rw [← hsc]
  clear hsc hsb
  obtain ⟨W0, hW⟩ : ∃ X, X = ((((w.alloc (.cells sc.toArray 50)).alloc (.cells #[.int .i64 0, .slice none 0 0, .slice none 0 0] 58)).alloc (.cells #[.int .i64 0] 3)).alloc (.cells #[.int .i64 0] 28)) := ⟨_, rfl⟩
  have KW : Fact (Keep All w W0) := ⟨hW ▸ ((((Keep.refl All w).alloc _).alloc _).alloc _).alloc _⟩
  have B5 : Fact (Blk W0 w.heap.size sc 50) := ⟨hW ▸ (((Blk.new w sc 50).alloc _).alloc _).alloc _⟩
  have B8 : Fact (Blk W0 (w.heap.size + 1) [.int .i64 0, .slice none 0 0, .slice none 0 0] 58) := ⟨by
    have := ((Blk.new (w.alloc (.cells sc.toArray 50)) [.int .i64 0, .slice none 0 0, .slice none 0 0] 58).alloc (.cells #[.int .i64 0] 3)).alloc (.cells #[.int .i64 0] 28)
    rw [World.size_alloc] at this
    rw [hW]; exact this⟩
  have B9 : Fact (Blk W0 (w.heap.size + 1 + 1) [.int .i64 0] 3) := ⟨by
    have := (Blk.new ((w.alloc (.cells sc.toArray 50)).alloc (.cells #[.int .i64 0, .slice none 0 0, .slice none 0 0] 58)) [.int .i64 0] 3).alloc (.cells #[.int .i64 0] 28)
    rw [World.size_alloc, World.size_alloc] at this
    rw [hW]; exact this⟩
  have B10 : Fact (Blk W0 (w.heap.size + 1 + 1 + 1) [.int .i64 0] 28) := ⟨by
    have := Blk.new (((w.alloc (.cells sc.toArray 50)).alloc (.cells #[.int .i64 0, .slice none 0 0, .slice none 0 0] 58)).alloc (.cells #[.int .i64 0] 3)) [.int .i64 0] 28
    rw [World.size_alloc, World.size_alloc, World.size_alloc] at this
    rw [hW]; exact this⟩
  have HW := Fact.mk hW
  clear hW
  go_enter_defers Tryz.func27, Tryz.ntmps27
  go_upto_region 1 with (refine Great.wpList_boxTo rfl 50 (.tmp 1) rfl (some 5) rfl w.heap.size rfl sc.toArray rfl ?_)
  rw [← HW.out]
  clear HW
  have hx0 : ¬ x = 0 := by have := getOps_bad HO.out; omega
  go_upto_region 3 with (go_at_call 13; go_must (refine (get13_any _ G _ bb (H.out.keep KW.out.all)).mono ?_); rintro e W1 ⟨hg, hk⟩; rw [HO.out] at hg; have he := hg; subst he; have KW1 := Fact.mk (KW.out.trans hk); have KW1S := Fact.mk hk.size; have C5 := Fact.mk (B5.out.keep hk trivial); have c8 := B8.out.keep hk trivial; have c9 := B9.out.keep hk trivial; have C8 := Fact.mk c8; have C9 := Fact.mk c9; have c10 := B10.out.keep hk trivial; have C10 := Fact.mk c10; have r10 := c10.cell 0 _ rfl; have f10 := c10.free 0; have r80 := c8.cell 0 _ rfl; have r81 := c8.cell 1 _ rfl; have r82 := c8.cell 2 _ rfl; have f80 := c8.free 0; have f81 := c8.free 1; have f82 := c8.free 2; have r90 := c9.cell 0 _ rfl; have f90 := c9.free 0; clear hk c8 c9 c10)
  obtain ⟨Y, hY⟩ : ∃ Y, Y = W1.setCell ⟨w.heap.size + 1 + 1 + 1, 0, none⟩ (.int .i64 x) := ⟨_, rfl⟩
  have hkY : Keep (fun i => i ≠ w.heap.size + 1 + 1 + 1) W1 Y := hY ▸ (Keep.refl _ W1).setCell (p := ⟨w.heap.size + 1 + 1 + 1, 0, none⟩) (.inr fun h => h rfl) _
  have G8 := Fact.mk (C8.out.keep hkY (by show w.heap.size + 1 ≠ w.heap.size + 1 + 1 + 1; omega))
  have G9 := Fact.mk (C9.out.keep hkY (by show w.heap.size + 1 + 1 ≠ w.heap.size + 1 + 1 + 1; omega))
  have G10 : Fact (Blk Y (w.heap.size + 1 + 1 + 1) [.int .i64 x] 28) := ⟨hY ▸ C10.out.set 0 (.int .i64 x)⟩
  have KY : Fact (Keep (fun i => i < w.heap.size) w Y) := ⟨(KW1.out.mono fun _ _ => trivial).trans (hkY.mono fun i h => by show i ≠ _; omega)⟩
  rw [← hY]
  clear hY hkY r80 r81 r82 f80 f81 f82 r90 f90 r10 f10 C8 C9 C10 C5 KW1 KW1S B5 B8 B9 B10 KW H HO hmf
  have r80 := G8.out.cell 0 _ rfl
  have r81 := G8.out.cell 1 _ rfl
  have r82 := G8.out.cell 2 _ rfl
  have f80 := G8.out.free 0
  have f81 := G8.out.free 1
  have f82 := G8.out.free 2
  have r90 := G9.out.cell 0 _ rfl
  have f90 := G9.out.free 0
  have r10 := G10.out.cell 0 _ rfl
  have f10 := G10.out.free 0
  go_region
  go_wp2
  refine ⟨_, results_27 _ _ (w.heap.size + 1) (w.heap.size + 1 + 1) (w.heap.size + 1 + 1 + 1) _ _ _ _ _ rfl rfl rfl (Blk.drew (set5_8 G8.out _ _ _ _ _)) (Blk.drew (set5_9 G9.out _ _ _ _ _)) (Blk.drew (set5_10 G10.out _ _ _ _ _)), ?_⟩
  exact ⟨⟨_, rfl, zeroV _⟩, fun h => absurd h hx0, Nat.zero_le _, (Keep.refl All w).then_ (KY.out.then_ (set5_keep Y w.heap.size _ _ _ _ _).drew fun i hi _ => .inl (by omega)) fun i hi _ => hi⟩
theorem run27_arg (w : World) (G Gi : Nat → Prop) (A : Option Addr) (c : Nat) (bb : List UInt8) (sbs : List UInt8) (snm : ByteArray) (l : List PInN) (iv : Value) (f : Int) (h : By w G (.slice A bb.length c) bb) (hsb : sbs.length = 20) (hi : InsV w Gi l iv) (hGi : ∀ i, Gi i → i < w.heap.size) (ops : List POp) (hops : getOps bb = .ok ops) (hnm : (hadP ⟨#[]⟩ l && nameP snm) = false) :
    Calls Tryz.prog 27 #[.slice A bb.length c, .agg (pathCells sbs snm).toArray, iv, .int .i64 f] w (RunG w (zeroP, 0, 2) f.toNat) := by
  have H := Fact.mk h
  have HO := Fact.mk hops
  have HII := Fact.mk hi
  have HGI := Fact.mk hGi
  clear h hops hi hGi
  have hmf : ∀ (fn : Fn) (first cap : Array Value) (w : World), (Instr.makeFunc fn first cap).run Tryz.prog w = .ok (.func fn first cap) w := fun _ _ _ _ => rfl
  obtain ⟨sc, hsc⟩ : ∃ q, q = pathCells sbs snm := ⟨_, rfl⟩
  have HSC := Fact.mk hsc
  have HCL : Fact (sc.length = 21) := ⟨by rw [hsc]; simp [pathCells, hsb]⟩
  have HSB := Fact.mk hsb
  rw [← hsc]
  clear hsc hsb
  obtain ⟨W0, hW⟩ : ∃ X, X = ((((w.alloc (.cells sc.toArray 50)).alloc (.cells #[.int .i64 0, .slice none 0 0, .slice none 0 0] 58)).alloc (.cells #[.int .i64 0] 3)).alloc (.cells #[.int .i64 0] 28)) := ⟨_, rfl⟩
  have KW : Fact (Keep All w W0) := ⟨hW ▸ ((((Keep.refl All w).alloc _).alloc _).alloc _).alloc _⟩
  have B5 : Fact (Blk W0 w.heap.size sc 50) := ⟨hW ▸ (((Blk.new w sc 50).alloc _).alloc _).alloc _⟩
  have B8 : Fact (Blk W0 (w.heap.size + 1) [.int .i64 0, .slice none 0 0, .slice none 0 0] 58) := ⟨by
    have := ((Blk.new (w.alloc (.cells sc.toArray 50)) [.int .i64 0, .slice none 0 0, .slice none 0 0] 58).alloc (.cells #[.int .i64 0] 3)).alloc (.cells #[.int .i64 0] 28)
    rw [World.size_alloc] at this
    rw [hW]; exact this⟩
  have B9 : Fact (Blk W0 (w.heap.size + 1 + 1) [.int .i64 0] 3) := ⟨by
    have := (Blk.new ((w.alloc (.cells sc.toArray 50)).alloc (.cells #[.int .i64 0, .slice none 0 0, .slice none 0 0] 58)) [.int .i64 0] 3).alloc (.cells #[.int .i64 0] 28)
    rw [World.size_alloc, World.size_alloc] at this
    rw [hW]; exact this⟩
  have B10 : Fact (Blk W0 (w.heap.size + 1 + 1 + 1) [.int .i64 0] 28) := ⟨by
    have := Blk.new (((w.alloc (.cells sc.toArray 50)).alloc (.cells #[.int .i64 0, .slice none 0 0, .slice none 0 0] 58)).alloc (.cells #[.int .i64 0] 3)) [.int .i64 0] 28
    rw [World.size_alloc, World.size_alloc, World.size_alloc] at this
    rw [hW]; exact this⟩
  have HW := Fact.mk hW
  clear hW
  go_enter_defers Tryz.func27, Tryz.ntmps27
  go_upto_region 1 with (refine Great.wpList_boxTo rfl 50 (.tmp 1) rfl (some 5) rfl w.heap.size rfl sc.toArray rfl ?_)
  rw [← HW.out]
  clear HW
  have HNM := Fact.mk hnm
  have HHAD : Fact (∀ w', Keep Gi w w' → Calls Tryz.prog 63 #[.agg sc.toArray, iv] w' (HadOut w' Gi l snm)) := ⟨fun w' k => by
    rw [HSC.out]
    exact had63g w' Gi sbs snm l iv HSB.out (HII.out.keep k) (fun i hi => Nat.lt_of_lt_of_le (HGI.out i hi) k.size)⟩
  clear hnm
  go_upto_region 6 with (first
    | (go_at_call 13; go_must (refine (get13_any _ G _ bb (H.out.keep KW.out.all)).mono ?_); rintro e W1 ⟨hg, hk⟩; rw [HO.out] at hg; obtain ⟨oA, oc2, he, hops⟩ := hg; subst he; have HOPS := Fact.mk hops; clear hops; have KW1 := Fact.mk (KW.out.trans hk); have KW1S := Fact.mk hk.size; have C5 := Fact.mk (B5.out.keep hk trivial); have c8 := B8.out.keep hk trivial; have c9 := B9.out.keep hk trivial; have C8 := Fact.mk c8; have C9 := Fact.mk c9; have c10 := B10.out.keep hk trivial; have C10 := Fact.mk c10; have r10 := c10.cell 0 _ rfl; have f10 := c10.free 0; clear hk c8 c9 c10)
    | (refine wpList_load_mid rfl 50 (.tmp 5) rfl w.heap.size 0 ?hx sc _ ?hc Tryz.underlying50 ?hd ?hi ?hrest
       case hx => go_must (rfl)
       case hc => go_must (exact Blk.range (C5.out.other ⟨w.heap.size + 1 + 1 + 1, 0, none⟩ (by show w.heap.size ≠ w.heap.size + 1 + 1 + 1; omega) _))
       case hd => go_must (rfl)
       case hi => go_must (rw [HCL.out]; kernel_rfl))
    | (go_at_call 63; go_must (refine (HHAD.out _ (((KW1.out.mono fun _ _ => trivial).setCell (p := ⟨w.heap.size + 1 + 1 + 1, 0, none⟩) (.inl (by show w.heap.size ≤ w.heap.size + 1 + 1 + 1; omega)) (.int .i64 0)))).mono ?_); intro e W2 hq; obtain ⟨mv, rfl, hk⟩ := hq.isno HNM.out; have hk0 := ((Keep.refl (fun i => i ≠ w.heap.size + 1 + 1 + 1) W1).setCell (p := ⟨w.heap.size + 1 + 1 + 1, 0, none⟩) (.inr fun h => h rfl) (.int .i64 0)).trans hk.all; have K12 := Fact.mk hk0; have D5 := Fact.mk (C5.out.keep hk0 (by show w.heap.size ≠ w.heap.size + 1 + 1 + 1; omega)); have D8 := Fact.mk (C8.out.keep hk0 (by show w.heap.size + 1 ≠ w.heap.size + 1 + 1 + 1; omega)); have D9 := Fact.mk (C9.out.keep hk0 (by show w.heap.size + 1 + 1 ≠ w.heap.size + 1 + 1 + 1; omega)); have D10 := Fact.mk ((C10.out.set 0 (.int .i64 0)).keep hk trivial); clear hk hk0 hq))
  have KY : Fact (Keep (fun i => i < w.heap.size) w W2) := ⟨(KW1.out.mono fun _ _ => trivial).trans (K12.out.mono fun i h => by show i ≠ _; omega)⟩
  clear K12 C5 C8 C9 C10 KW1 KW1S B5 B8 B9 B10 KW H HO hmf HOPS D5
  have r80 := D8.out.cell 0 _ rfl
  have r81 := D8.out.cell 1 _ rfl
  have r82 := D8.out.cell 2 _ rfl
  have f80 := D8.out.free 0
  have f81 := D8.out.free 1
  have f82 := D8.out.free 2
  have r90 := D9.out.cell 0 _ rfl
  have f90 := D9.out.free 0
  have r10 := D10.out.cell 0 _ rfl
  have f10 := D10.out.free 0
  go_wp2
  refine ⟨_, results_27 _ _ (w.heap.size + 1) (w.heap.size + 1 + 1) (w.heap.size + 1 + 1 + 1) _ _ _ _ _ rfl rfl rfl (set5_8 D8.out _ _ _ _ _) (set5_9 D9.out _ _ _ _ _) (set5_10 D10.out _ _ _ _ _), ?_⟩
  exact ⟨⟨_, rfl, zeroV _⟩, fun h => absurd h (by decide), Nat.zero_le _, (Keep.refl All w).then_ (KY.out.then_ (set5_keep W2 w.heap.size _ _ _ _ _) fun i hi _ => .inl (by omega)) fun i hi _ => hi⟩
theorem run27_do (w : World) (G Gi : Nat → Prop) (A : Option Addr) (c : Nat) (bb : List UInt8) (sbs : List UInt8) (snm : ByteArray) (l : List PInN) (iv : Value) (f : Int) (h : By w G (.slice A bb.length c) bb) (hsb : sbs.length = 20) (hi : InsV w Gi l iv) (hGi : ∀ i, Gi i → i < w.heap.size) (ops : List POp) (hops : getOps bb = .ok ops) (hnm : (hadP ⟨#[]⟩ l && nameP snm) = true) (F : Nat) (hF : F = f.toNat) (hf9 : f ≤ 1000000) (E : Ends PNode) (hE : runF ops.length (opF (findIn l) sbs snm ops) F = E) :
    Calls Tryz.prog 27 #[.slice A bb.length c, .agg (pathCells sbs snm).toArray, iv, .int .i64 f] w (RunG w (runV F E) F) := by
  have H := Fact.mk h
  have HO := Fact.mk hops
  have HII := Fact.mk hi
  have HGI := Fact.mk hGi
  clear h hops hi hGi
  have hmf : ∀ (fn : Fn) (first cap : Array Value) (w : World), (Instr.makeFunc fn first cap).run Tryz.prog w = .ok (.func fn first cap) w := fun _ _ _ _ => rfl
  obtain ⟨sc, hsc⟩ : ∃ q, q = pathCells sbs snm := ⟨_, rfl⟩
  have HSC := Fact.mk hsc
  have HCL : Fact (sc.length = 21) := ⟨by rw [hsc]; simp [pathCells, hsb]⟩
  have HSB := Fact.mk hsb
  rw [← hsc]
  clear hsc hsb
  obtain ⟨W0, hW⟩ : ∃ X, X = ((((w.alloc (.cells sc.toArray 50)).alloc (.cells #[.int .i64 0, .slice none 0 0, .slice none 0 0] 58)).alloc (.cells #[.int .i64 0] 3)).alloc (.cells #[.int .i64 0] 28)) := ⟨_, rfl⟩
  have KW : Fact (Keep All w W0) := ⟨hW ▸ ((((Keep.refl All w).alloc _).alloc _).alloc _).alloc _⟩
  have B5 : Fact (Blk W0 w.heap.size sc 50) := ⟨hW ▸ (((Blk.new w sc 50).alloc _).alloc _).alloc _⟩
  have B8 : Fact (Blk W0 (w.heap.size + 1) [.int .i64 0, .slice none 0 0, .slice none 0 0] 58) := ⟨by
    have := ((Blk.new (w.alloc (.cells sc.toArray 50)) [.int .i64 0, .slice none 0 0, .slice none 0 0] 58).alloc (.cells #[.int .i64 0] 3)).alloc (.cells #[.int .i64 0] 28)
    rw [World.size_alloc] at this
    rw [hW]; exact this⟩
  have B9 : Fact (Blk W0 (w.heap.size + 1 + 1) [.int .i64 0] 3) := ⟨by
    have := (Blk.new ((w.alloc (.cells sc.toArray 50)).alloc (.cells #[.int .i64 0, .slice none 0 0, .slice none 0 0] 58)) [.int .i64 0] 3).alloc (.cells #[.int .i64 0] 28)
    rw [World.size_alloc, World.size_alloc] at this
    rw [hW]; exact this⟩
  have B10 : Fact (Blk W0 (w.heap.size + 1 + 1 + 1) [.int .i64 0] 28) := ⟨by
    have := Blk.new (((w.alloc (.cells sc.toArray 50)).alloc (.cells #[.int .i64 0, .slice none 0 0, .slice none 0 0] 58)).alloc (.cells #[.int .i64 0] 3)) [.int .i64 0] 28
    rw [World.size_alloc, World.size_alloc, World.size_alloc] at this
    rw [hW]; exact this⟩
  have HW := Fact.mk hW
  clear hW
  go_enter_defers Tryz.func27, Tryz.ntmps27
  go_upto_region 1 with (refine Great.wpList_boxTo rfl 50 (.tmp 1) rfl (some 5) rfl w.heap.size rfl sc.toArray rfl ?_)
  rw [← HW.out]
  clear HW
  have HE := Fact.mk hE
  have hmax : max f 0 = (F : Int) := by omega
  have hf6 : F ≤ 1000000 := by omega
  clear hE hF
  have HNM := Fact.mk hnm
  have HHAD : Fact (∀ w', Keep Gi w w' → Calls Tryz.prog 63 #[.agg sc.toArray, iv] w' (HadOut w' Gi l snm)) := ⟨fun w' k => by
    rw [HSC.out]
    exact had63g w' Gi sbs snm l iv HSB.out (HII.out.keep k) (fun i hi => Nat.lt_of_lt_of_le (HGI.out i hi) k.size)⟩
  clear hnm
  go_upto_region 7 with (first
    | (go_at_call 13; go_must (refine (get13_any _ G _ bb (H.out.keep KW.out.all)).mono ?_); rintro e W1 ⟨hg, hk⟩; rw [HO.out] at hg; obtain ⟨oA, oc2, he, hops⟩ := hg; subst he; have HOPS := Fact.mk hops; clear hops; have KW1 := Fact.mk (KW.out.trans hk); have KW1S := Fact.mk hk.size; have C5 := Fact.mk (B5.out.keep hk trivial); have c8 := B8.out.keep hk trivial; have c9 := B9.out.keep hk trivial; have C8 := Fact.mk c8; have C9 := Fact.mk c9; have c10 := B10.out.keep hk trivial; have C10 := Fact.mk c10; have r10 := c10.cell 0 _ rfl; have f10 := c10.free 0; clear hk c8 c9 c10)
    | (refine wpList_load_mid rfl 50 (.tmp 5) rfl w.heap.size 0 ?hx sc _ ?hc Tryz.underlying50 ?hd ?hi ?hrest
       case hx => go_must (rfl)
       case hc => go_must (exact Blk.range (C5.out.other ⟨w.heap.size + 1 + 1 + 1, 0, none⟩ (by show w.heap.size ≠ w.heap.size + 1 + 1 + 1; omega) _))
       case hd => go_must (rfl)
       case hi => go_must (rw [HCL.out]; kernel_rfl))
    | (go_at_call 63; go_must (refine (HHAD.out _ (((KW1.out.mono fun _ _ => trivial).setCell (p := ⟨w.heap.size + 1 + 1 + 1, 0, none⟩) (.inl (by show w.heap.size ≤ w.heap.size + 1 + 1 + 1; omega)) (.int .i64 0)))).mono ?_); intro e W2 hq; obtain ⟨bm, L, rfl, hbm, hms, hent, hk⟩ := hq.isyes HNM.out; have hk0 := ((Keep.refl (fun i => i ≠ w.heap.size + 1 + 1 + 1) W1).setCell (p := ⟨w.heap.size + 1 + 1 + 1, 0, none⟩) (.inr fun h => h rfl) (.int .i64 0)).trans hk.all; have K12 := Fact.mk hk0; have D5 := Fact.mk (C5.out.keep hk0 (by show w.heap.size ≠ w.heap.size + 1 + 1 + 1; omega)); have D8 := Fact.mk (C8.out.keep hk0 (by show w.heap.size + 1 ≠ w.heap.size + 1 + 1 + 1; omega)); have D9 := Fact.mk (C9.out.keep hk0 (by show w.heap.size + 1 + 1 ≠ w.heap.size + 1 + 1 + 1; omega)); have D10 := Fact.mk ((C10.out.set 0 (.int .i64 0)).keep hk trivial); have HBM := Fact.mk hbm; have HMS := Fact.mk hms; have HENT := Fact.mk hent; have HBL := Fact.mk hms.lt; clear hbm hms hent; clear hk hk0 hq))
  obtain ⟨BC, hBC⟩ : ∃ q, q = builderG sbs snm F (.slice oA ops.length oc2) bm := ⟨_, rfl⟩
  have HBC := Fact.mk hBC
  have HBD : Fact (∀ w : World, (Instr.build 143 #[(0, .agg #[.int .i64 0, .int .i64 F, .slice none 0 0]), (1, .slice oA ops.length oc2), (3, .agg sc.toArray), (4, .map (some bm))]).run Tryz.prog w = .ok (.agg BC.toArray) w) := ⟨fun w => by rw [HSC.out, hBC]; exact build143g sbs snm HSB.out w F oA ops.length oc2 bm⟩
  clear hBC
  go_upto_region 8 with (first
    | (refine wpList_load_mid rfl 50 (.tmp 5) rfl w.heap.size 0 ?gx sc _ ?gc Tryz.underlying50 ?gd ?gi ?grest
       case gx => go_must (rfl)
       case gc => go_must (exact Blk.range D5.out)
       case gd => go_must (rfl)
       case gi => go_must (rw [HCL.out]; kernel_rfl))
    | (refine wpList_build rfl 143 _ rfl (.agg BC.toArray) ?br ?brest
       case br => go_must (simp only [List.map_toArray, List.map_cons, List.map_nil]; exact HBD.out W2)))
  obtain ⟨X, hX⟩ : ∃ X, X = (W2.alloc (.cells BC.toArray 143)).alloc (.cells #[.pointer (some ⟨W2.heap.size, 0, none⟩)] 137) := ⟨_, rfl⟩
  rw [← hX]
  have KX : Fact (Keep All W2 X) := ⟨hX ▸ ((Keep.refl All W2).alloc _).alloc _⟩
  have BX : Fact (Blk X W2.heap.size BC 143) := ⟨hX ▸ (Blk.new W2 BC 143).alloc _⟩
  have B14 : Fact (Blk X (W2.heap.size + 1) [.pointer (some ⟨W2.heap.size, 0, none⟩)] 137) := ⟨by
    have := Blk.new (W2.alloc (.cells BC.toArray 143)) [.pointer (some ⟨W2.heap.size, 0, none⟩)] 137
    rw [World.size_alloc] at this
    rw [hX]; exact this⟩
  have s10 : w.heap.size + 1 + 1 + 1 < W0.heap.size := B10.out.lt
  have HXO : Fact (OpsR X (fun i => i < X.heap.size ∧ i ≠ W2.heap.size) (.slice oA ops.length oc2) ops) :=
    ⟨((((HOPS.out.mono (H := fun i => i ≠ w.heap.size + 1 + 1 + 1) fun i _ h => by omega).keep K12.out).mono (H := fun i => i < W2.heap.size) fun i h _ => h).keep KX.out.all).mono fun i h1 h2 => ⟨h1, by omega⟩⟩
  have HB : Fact (BlkB X W2.heap.size 0 F (.slice none 0 0) (.slice oA ops.length oc2) 0 (pathCells sbs snm ++ [.map (some bm)])) := ⟨by
    have := BX.out
    rw [HBC.out] at this
    exact this⟩
  have s2 : W0.heap.size ≤ W2.heap.size := Nat.le_trans (KW1S.out) K12.out.size
  have s6 : w.heap.size + 1 + 1 + 1 < W2.heap.size := by omega
  have HC65 : Fact (Calls Tryz.prog 65 #[.pointer (some ⟨W2.heap.size, 0, none⟩)] X (BuildG X W2.heap.size F (.slice oA ops.length oc2) (pathCells sbs snm ++ [.map (some bm)]) (runF ops.length (opF (findIn l) sbs snm ops) F))) := ⟨by
    have hgi := HGI.out
    exact build65g X W2.heap.size F bm oc2 oA ops Gi L (findIn l) sbs snm HB.out hf6 HSB.out (HMS.out.keep KX.out trivial) (by have := HBL.out; omega) (HENT.out.keep KX.out.all).inR (fun i hi => ⟨by have := hgi i hi; have := KX.out.size; omega, by have := hgi i hi; omega⟩) HXO.out (ops_right HO.out).1 (ops_right HO.out).2⟩
  have E8 := Fact.mk (D8.out.keep KX.out trivial)
  have E9 := Fact.mk (D9.out.keep KX.out trivial)
  have E10 := Fact.mk (D10.out.keep KX.out trivial)
  have q14 := B14.out.cell 0 _ rfl
  have KEND : Fact (Keep (fun i => i < w.heap.size) w X) := ⟨((KW1.out.mono fun _ _ => trivial).trans (K12.out.mono fun i h => by show i ≠ _; omega)).trans KX.out.all⟩
  clear HXO hX HBC BX D5 D8 D9 D10 C5 C8 C9 C10 B5 B8 B9 B10 HOPS KW KW1 KW1S K12 KX H HO hmax HBD HB HMS HENT HBM HBL
  cases E with
  | ok x s =>
    go_upto_region 10 with (go_at_call 65; go_must (refine HC65.out.mono ?_); rintro e W5 ⟨hend, hk5⟩; rw [HE.out] at hend; obtain ⟨hrt, hle, ⟨v, rfl, A0, c0, B0, d0, rfl, hrep⟩, pv, at_, hb5⟩ := hend; have HB5 := Fact.mk hb5; have hx1 : W2.heap.size + 1 < X.heap.size := B14.out.lt; have e8 := E8.out.keep hk5 ⟨by omega, by omega⟩; have e9 := E9.out.keep hk5 ⟨by omega, by omega⟩; have e10 := E10.out.keep hk5 ⟨by omega, by omega⟩; have e14 := B14.out.keep hk5 ⟨by omega, by omega⟩; have F8 := Fact.mk e8; have F9 := Fact.mk e9; have F10 := Fact.mk e10; have F14 := Fact.mk e14; have K5 := Fact.mk (KEND.out.then_ hk5 fun i h1 h2 => ⟨by omega, by omega⟩); have HREP := Fact.mk hrep; have HRT := Fact.mk hrt; have HLE := Fact.mk hle; clear hrep hrt hle; have r0 := e8.cell 0 _ rfl; have r1 := e8.cell 1 _ rfl; have r2 := e8.cell 2 _ rfl; have g0 := e8.free 0; have g1 := e8.free 1; have g2 := e8.free 2; clear hb5 e8 e9 e10 e14 hk5)
    have s3 : w.heap.size + 1 + 1 + 1 < W2.heap.size := by omega
    obtain ⟨Y, hY⟩ : ∃ Y, Y = set3 W5 (w.heap.size + 1) (.int .i64 x.kind) (.slice A0 x.bytes.length c0) (.slice B0 x.kids.length d0) := ⟨_, rfl⟩
    rw [set3] at hY
    rw [← hY]
    rw [← set3] at hY
    have hk6 : Keep (fun i => i ≠ w.heap.size + 1) W5 Y := hY ▸ (Keep.refl _ W5).set3 _ (.inr fun h => h rfl) _ _ _
    have G8 : Fact (Blk Y (w.heap.size + 1) [.int .i64 x.kind, .slice A0 x.bytes.length c0, .slice B0 x.kids.length d0] 58) := ⟨hY ▸ F8.out.set3 _ _ _⟩
    have G9 := Fact.mk (F9.out.keep hk6 (by show w.heap.size + 1 + 1 ≠ w.heap.size + 1; omega))
    have G10 := Fact.mk (F10.out.keep hk6 (by show w.heap.size + 1 + 1 + 1 ≠ w.heap.size + 1; omega))
    have G14 := Fact.mk (F14.out.keep hk6 (by show W2.heap.size + 1 ≠ w.heap.size + 1; omega))
    have GB := Fact.mk (Blk.keep HB5.out hk6 (by show W2.heap.size ≠ w.heap.size + 1; omega))
    have hbare : ∀ {b : Nat} {cs : List Value} {T : TypeId}, Blk W5 b cs T → (∀ v ∈ cs, (∀ s, v ≠ .string s) ∧ ∀ n, v ≠ .int .u8 n) → Bare W5 b := fun h hc => h.bare hc
    have HREP2 : Fact (RepN Y (fun i => i < w.heap.size + 1 ∨ w.heap.size + 1 + 1 + 1 < i) x (.slice A0 x.bytes.length c0) (.slice B0 x.kids.length d0)) := ⟨by
      have h1 := HREP.out.avoid (hbare F8.out (by intro v hv; simp only [List.mem_cons, List.not_mem_nil, or_false] at hv; rcases hv with rfl | rfl | rfl <;> exact ⟨fun s => by simp, fun n => by simp⟩))
      have h2 := h1.avoid (hbare F9.out (by intro v hv; simp only [List.mem_cons, List.not_mem_nil, or_false] at hv; subst hv; exact ⟨fun s => by simp, fun n => by simp⟩))
      have h3 := h2.avoid (hbare F10.out (by intro v hv; simp only [List.set_cons_zero, List.mem_cons, List.not_mem_nil, or_false] at hv; subst hv; exact ⟨fun s => by simp, fun n => by simp⟩))
      exact (h3.keep (hk6.mono fun i hi => hi.1.1.2)).mono fun i _ hi => by obtain ⟨⟨⟨-, a1⟩, a2⟩, a3⟩ := hi; omega⟩
    have K6 := Fact.mk (K5.out.trans (hk6.mono fun i h => by show i ≠ _; omega))
    clear hY hk6 r0 r1 r2 g0 g1 g2 F8 F9 F10 F14 HB5 HREP K5 hbare
    have r0 := G8.out.cell 0 _ rfl
    have r1 := G8.out.cell 1 _ rfl
    have r2 := G8.out.cell 2 _ rfl
    have g0 := G8.out.free 0
    have g1 := G8.out.free 1
    have g2 := G8.out.free 2
    have r9 := G9.out.cell 0 _ rfl
    have g9 := G9.out.free 0
    have r10 := G10.out.cell 0 _ rfl
    have g10 := G10.out.free 0
    have r14 := G14.out.cell 0 _ rfl
    have rb : Y.cell? ⟨W2.heap.size, 0, none⟩ = some (.int .i64 s) := Blk.cell GB.out 0 _ rfl
    have n1 : W2.heap.size ≠ w.heap.size + 1 := by omega
    have n2 : W2.heap.size ≠ w.heap.size + 1 + 1 := by omega
    have n3 : W2.heap.size + 1 ≠ w.heap.size + 1 := by omega
    have n4 : W2.heap.size + 1 ≠ w.heap.size + 1 + 1 := by omega
    go_region
    obtain ⟨Z, hZ⟩ : ∃ Z, Z = (set5 Y w.heap.size (.int .i64 x.kind) (.slice A0 x.bytes.length c0) (.slice B0 x.kids.length d0) (.int .i64 s) (.int .i64 0)).drew := ⟨_, rfl⟩
    rw [set5, set3] at hZ
    rw [← hZ]
    rw [← set3, ← set5] at hZ
    have hk7 : Keep (fun i => i < w.heap.size + 1 ∨ w.heap.size + 1 + 1 + 1 < i) Y Z := hZ ▸ (set5_keep Y w.heap.size _ _ _ _ _).drew
    have Z8 : Fact (Blk Z (w.heap.size + 1) [.int .i64 x.kind, .slice A0 x.bytes.length c0, .slice B0 x.kids.length d0] 58) := ⟨hZ ▸ (set5_8 G8.out _ _ _ _ _).drew⟩
    have Z9 : Fact (Blk Z (w.heap.size + 1 + 1) [.int .i64 s] 3) := ⟨hZ ▸ (set5_9 G9.out _ _ _ _ _).drew⟩
    have Z10 : Fact (Blk Z (w.heap.size + 1 + 1 + 1) [.int .i64 0] 28) := ⟨hZ ▸ (set5_10 G10.out _ _ _ _ _).drew⟩
    have z14 : Z.cell? ⟨W2.heap.size + 1, 0, none⟩ = some (.pointer (some ⟨W2.heap.size, 0, none⟩)) := hk7.cell (by right; show w.heap.size + 1 + 1 + 1 < W2.heap.size + 1; omega) r14
    have zb : Z.cell? ⟨W2.heap.size, 0, none⟩ = some (.int .i64 s) := hk7.cell (by right; show w.heap.size + 1 + 1 + 1 < W2.heap.size; omega) rb
    have z9 := Z9.out.cell 0 _ rfl
    have y9 := Z9.out.free 0
    have HK7 := Fact.mk hk7
    clear hZ hk7 r0 r1 r2 g0 g1 g2 r9 g9 r10 g10 r14 rb
    go_wp2
    refine leaves_cons (f := 64) (args := #[.pointer (some ⟨W2.heap.size + 1, 0, none⟩), .pointer (some ⟨w.heap.size + 1 + 1, 0, none⟩), .pointer (some ⟨w.heap.size + 1 + 1 + 1, 0, none⟩), .pointer (some ⟨w.heap.size + 1, 0, none⟩)]) (by simp) (by simp [go_sem]) ?_
    refine (rec64_idle Z W2.heap.size s (W2.heap.size + 1) (w.heap.size + 1 + 1) (w.heap.size + 1 + 1 + 1) (w.heap.size + 1) s z14 zb z9 y9).mono ?_
    rintro e u w'' ⟨rfl, rfl, rfl⟩
    have k9 := (Keep.refl (fun i => i ≠ w.heap.size + 1 + 1) Z).setCell (p := ⟨w.heap.size + 1 + 1, 0, none⟩) (.inr fun h => h rfl) (.int .i64 s)
    refine ⟨_, results_27 _ _ (w.heap.size + 1) (w.heap.size + 1 + 1) (w.heap.size + 1 + 1 + 1) _ _ _ _ _ rfl rfl rfl (Z8.out.other _ (by show w.heap.size + 1 ≠ w.heap.size + 1 + 1; omega) _) (Z9.out.set 0 (.int .i64 s)) (Z10.out.other _ (by show w.heap.size + 1 + 1 + 1 ≠ w.heap.size + 1 + 1; omega) _), ?_⟩
    refine ⟨⟨_, rfl, A0, c0, B0, d0, rfl, ?_⟩, fun _ => HRT.out, HLE.out, ?_⟩
    · exact ((HREP2.out.keep HK7.out).keep (k9.mono fun i hi => by show i ≠ w.heap.size + 1 + 1; omega)).mono fun i _ _ => trivial
    · exact (((Keep.refl All w).then_ K6.out fun i hi _ => hi).then_ HK7.out fun i hi _ => .inl (by omega)).then_ k9 fun i hi _ => by show i ≠ w.heap.size + 1 + 1; omega
  | fail s =>
    go_wp2_with (go_at_call 65; go_must (refine HC65.out.mono ?_); rintro e W5 ⟨hend, hk5⟩; rw [HE.out] at hend; obtain ⟨hle, he, pv, at_, hb5⟩ := hend; have HB5 := Fact.mk hb5; have hx1 : W2.heap.size + 1 < X.heap.size := B14.out.lt; have e8 := E8.out.keep hk5 ⟨by omega, by omega⟩; have e9 := E9.out.keep hk5 ⟨by omega, by omega⟩; have e10 := E10.out.keep hk5 ⟨by omega, by omega⟩; have e14 := B14.out.keep hk5 ⟨by omega, by omega⟩; have F8 := Fact.mk e8; have F9 := Fact.mk e9; have F10 := Fact.mk e10; have F14 := Fact.mk e14; have K5 := Fact.mk (KEND.out.then_ hk5 fun i h1 h2 => ⟨by omega, by omega⟩); have HLE := Fact.mk hle; clear hle; unfold errFail at he; subst he; dsimp only; clear hb5 e8 e9 e10 e14 hk5)
    have z14 := F14.out.cell 0 _ rfl
    have zb : W5.cell? ⟨W2.heap.size, 0, none⟩ = some (.int .i64 (s : Nat)) := Blk.cell HB5.out 0 _ rfl
    refine leaves_cons (f := 64) (args := #[.pointer (some ⟨W2.heap.size + 1, 0, none⟩), .pointer (some ⟨w.heap.size + 1 + 1, 0, none⟩), .pointer (some ⟨w.heap.size + 1 + 1 + 1, 0, none⟩), .pointer (some ⟨w.heap.size + 1, 0, none⟩)]) (by simp) (by simp [go_sem]) ?_
    refine (rec64_panicG 19 W5 W2.heap.size s (W2.heap.size + 1) (w.heap.size + 1 + 1) (w.heap.size + 1 + 1 + 1) (w.heap.size + 1) 0 0 _ _ _ [] z14 zb (F9.out.cell 0 _ rfl) (F9.out.free 0) (F10.out.cell 0 _ rfl) (F10.out.free 0) F8.out (by omega) (by omega) (by omega)).mono ?_
    rintro e u w'' ⟨rfl, rfl, rfl⟩
    have n1 : w.heap.size + 1 ≠ w.heap.size + 1 + 1 := by omega
    have n2 : w.heap.size + 1 ≠ w.heap.size + 1 + 1 + 1 := by omega
    have n3 : w.heap.size + 1 + 1 ≠ w.heap.size + 1 + 1 + 1 := by omega
    have k9 := (((Keep.refl (fun i => i < w.heap.size) W5).setCell (p := ⟨w.heap.size + 1 + 1, 0, none⟩) (.inr fun h => by simp only at h; omega) (.int .i64 s)).setCell (p := ⟨w.heap.size + 1 + 1 + 1, 0, none⟩) (.inr fun h => by simp only at h; omega) (.int .i64 19)).set3 (w.heap.size + 1) (.inr fun h => by omega) (.int .i64 0) (.slice none 0 0) (.slice none 0 0)
    refine ⟨_, results_27 _ _ (w.heap.size + 1) (w.heap.size + 1 + 1) (w.heap.size + 1 + 1 + 1) _ _ _ _ _ rfl rfl rfl (((F8.out.other _ n1 _).other _ n2 _).set3 _ _ _) (((F9.out.set 0 (.int .i64 s)).other _ n3 _).other3 _ n1.symm _ _ _) (((F10.out.other _ n3.symm _).set 0 (.int .i64 19)).other3 _ n2.symm _ _ _), ?_⟩
    exact ⟨⟨_, rfl, zeroV _⟩, fun h => absurd h (by simp [runV]), HLE.out, ((Keep.refl All w).then_ K5.out fun i hi _ => hi).then_ k9 fun i hi _ => hi⟩
  | out =>
    go_wp2_with (go_at_call 65; go_must (refine HC65.out.mono ?_); rintro e W5 ⟨hend, hk5⟩; rw [HE.out] at hend; obtain ⟨he, pv, at_, hb5⟩ := hend; have HB5 := Fact.mk hb5; have hx1 : W2.heap.size + 1 < X.heap.size := B14.out.lt; have e8 := E8.out.keep hk5 ⟨by omega, by omega⟩; have e9 := E9.out.keep hk5 ⟨by omega, by omega⟩; have e10 := E10.out.keep hk5 ⟨by omega, by omega⟩; have e14 := B14.out.keep hk5 ⟨by omega, by omega⟩; have F8 := Fact.mk e8; have F9 := Fact.mk e9; have F10 := Fact.mk e10; have F14 := Fact.mk e14; have K5 := Fact.mk (KEND.out.then_ hk5 fun i h1 h2 => ⟨by omega, by omega⟩); unfold outOfFuel at he; subst he; dsimp only; clear hb5 e8 e9 e10 e14 hk5)
    have z14 := F14.out.cell 0 _ rfl
    have zb : W5.cell? ⟨W2.heap.size, 0, none⟩ = some (.int .i64 (F : Nat)) := Blk.cell HB5.out 0 _ rfl
    refine leaves_cons (f := 64) (args := #[.pointer (some ⟨W2.heap.size + 1, 0, none⟩), .pointer (some ⟨w.heap.size + 1 + 1, 0, none⟩), .pointer (some ⟨w.heap.size + 1 + 1 + 1, 0, none⟩), .pointer (some ⟨w.heap.size + 1, 0, none⟩)]) (by simp) (by simp [go_sem]) ?_
    refine (rec64_panicG 11 W5 W2.heap.size F (W2.heap.size + 1) (w.heap.size + 1 + 1) (w.heap.size + 1 + 1 + 1) (w.heap.size + 1) 0 0 _ _ _ [] z14 zb (F9.out.cell 0 _ rfl) (F9.out.free 0) (F10.out.cell 0 _ rfl) (F10.out.free 0) F8.out (by omega) (by omega) (by omega)).mono ?_
    rintro e u w'' ⟨rfl, rfl, rfl⟩
    have n1 : w.heap.size + 1 ≠ w.heap.size + 1 + 1 := by omega
    have n2 : w.heap.size + 1 ≠ w.heap.size + 1 + 1 + 1 := by omega
    have n3 : w.heap.size + 1 + 1 ≠ w.heap.size + 1 + 1 + 1 := by omega
    have k9 := (((Keep.refl (fun i => i < w.heap.size) W5).setCell (p := ⟨w.heap.size + 1 + 1, 0, none⟩) (.inr fun h => by simp only at h; omega) (.int .i64 F)).setCell (p := ⟨w.heap.size + 1 + 1 + 1, 0, none⟩) (.inr fun h => by simp only at h; omega) (.int .i64 11)).set3 (w.heap.size + 1) (.inr fun h => by omega) (.int .i64 0) (.slice none 0 0) (.slice none 0 0)
    refine ⟨_, results_27 _ _ (w.heap.size + 1) (w.heap.size + 1 + 1) (w.heap.size + 1 + 1 + 1) _ _ _ _ _ rfl rfl rfl (((F8.out.other _ n1 _).other _ n2 _).set3 _ _ _) (((F9.out.set 0 (.int .i64 F)).other _ n3 _).other3 _ n1.symm _ _ _) (((F10.out.other _ n3.symm _).set 0 (.int .i64 11)).other3 _ n2.symm _ _ _), ?_⟩
    exact ⟨⟨_, rfl, zeroV _⟩, fun h => absurd h (by simp [runV]), Nat.le_refl _, ((Keep.refl All w).then_ K5.out fun i hi _ => hi).then_ k9 fun i hi _ => hi⟩
/-- Run, at any inputs. -/
theorem run27g (w : World) (G Gi : Nat → Prop) (A : Option Addr) (c : Nat) (bb : List UInt8) (sbs : List UInt8) (snm : ByteArray) (l : List PInN) (iv : Value) (f : Int) (h : By w G (.slice A bb.length c) bb) (hsb : sbs.length = 20) (hi : InsV w Gi l iv) (hGi : ∀ i, Gi i → i < w.heap.size) (hf9 : f ≤ 1000000) :
    Calls Tryz.prog 27 #[.slice A bb.length c, .agg (pathCells sbs snm).toArray, iv, .int .i64 f] w (RunG w (runP bb sbs snm l f.toNat) f.toNat) := by
  unfold runP
  cases hg : getOps bb with
  | bad x => exact run27_bad w G Gi A c bb sbs snm l iv f h hsb hi hGi x hg
  | ok ops =>
    simp only
    cases hn : (hadP ⟨#[]⟩ l && nameP snm) with
    | false =>
      rw [if_neg (by simp)]
      exact run27_arg w G Gi A c bb sbs snm l iv f h hsb hi hGi ops hg hn
    | true =>
      rw [if_pos rfl]
      exact run27_do w G Gi A c bb sbs snm l iv f h hsb hi hGi ops hg hn f.toNat rfl hf9 _ rfl
end Go.Proofs.YtddmbdigdnmfgaaGreatDoor
