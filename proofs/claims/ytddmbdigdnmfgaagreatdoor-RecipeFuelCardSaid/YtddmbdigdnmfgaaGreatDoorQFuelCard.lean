/- RecipeFuel: what is built is right, and built again the same; with just the steps that it took it is built, with any more, too, with one less it is out of fuel; what fails fails with any more fuel: the law returns true for every input, and each argument reads afterwards as it read before.
   Conditions: those of the given row and card alone (listed variables as the card ties them, the form's own reach). -/
import Derived.Test.YtddmbdigdnmfgaaGreatDoorQGFuel
import Derived.Test.YtddmbdigdnmfgaaGreatDoorQCard5
import Derived.SevenTiedAt
namespace Go.Proofs.YtddmbdigdnmfgaaGreatDoor
open Go.ChangeShapes Go.WideShapes Go.ChangeAt Go.RowKit Go.Deep
set_option maxRecDepth 100000
set_option maxHeartbeats 1000000

theorem fuel_lifted (os : Os) (started : os.Started) (H : Type) (enc : TypeId × Value → H) :
    ReturnsInHanded {} Tryz.checked os 5 .any (fun w args => (Rows.recipeFuelSpec.pre enc Tryz.prog Tryz.f5 [] false w args ∧ laidMetH Tryz.prog laidBoth w) ∧ sizedMet enc Tryz.prog Tryz.f5 (OpenSpec.ofChange Rows.recipeFuelSpec) false w args)
      (Rows.recipeFuelSpec.post enc Tryz.prog Tryz.f5 false true false false) := by
  refine returnsInHanded_of_change_and (C := Tryz.checked) (X := fun w _ => laidMetH Tryz.prog laidBoth w) (fun _ _ _ hh h => h.of_heap hh) own started (by kernel_rfl) Tryz.func5
    (ChangeSpec.witness_shaped (enc := enc) (C := Tryz.checked) (os := os) (X := fun w _ => laidMetH Tryz.prog laidBoth w) false (World.laidAll Tryz.prog os laidBoth) #[.slice none 0 0, zeroPath, .slice none 0 0, .int .i64 0, .int .i64 0] 8 (World.laidAll_os _ _ _)
      (start_shaped os) (by kernel_rfl) (by kernel_rfl) (by kernel_rfl) (laid_start os _)) ?_
  intro W base args ds gs before hval0 hW hc hsz hL _
  have hW' := hW
  have hlt : ∀ p ∈ before, p.block < W.heap.size := fun p hp => hW.lt p hp
  have hval : ∀ (j : Nat) t v, Tryz.f5.params[j]? = some t → args[j]? = some v → Value.okWide Tryz.prog W .any base t v := hval0
  obtain ⟨p, q, hA0, hV, rfl, _, _⟩ := hW
  have hA : DataW.TrodAll enc Tryz.prog W 0 (fun _ => true) true Tryz.f5.params.toList args.toList ds p := hA0
  rw [Tryz.params5] at hA hval
  obtain ⟨v0, v1, v2, v3, v4, d0, d1, d2, d3, d4, p0, p1, p2, p3, p4, rfl, rfl, rfl, h0, h1, h2, h3, h4⟩ := trodAll_five hA
  obtain ⟨rfl, rfl⟩ := trodVars_none hV
  have i0 : Within 23 d0 := Within.of (j := 0) hsz (by rw [Tryz.params5]; rfl) rfl
  have i2 : Within 52 d2 := Within.of (j := 2) hsz (by rw [Tryz.params5]; rfl) rfl
  obtain ⟨a0, n0, m0, rfl⟩ := okWide_slice Tryz.underlying23 (hval 0 23 v0 rfl rfl)
  obtain ⟨sbs, snm, hsb, rfl⟩ := pathArg (hval 1 50 v1 rfl rfl) h1
  obtain ⟨a2, n2, m2, rfl⟩ := okWide_slice Tryz.underlying52 (hval 2 52 v2 rfl rfl)
  obtain ⟨fu, rfl⟩ := okWide_int Tryz.underlying3 (hval 3 3 v3 rfl rfl)
  obtain ⟨mo, rfl⟩ := okWide_int Tryz.underlying3 (hval 4 3 v4 rfl rfl)
  have h0k := h0
  have h2k := h2
  obtain ⟨u0, g0⟩ := h0
  obtain ⟨u2, g2⟩ := h2
  obtain ⟨b, hb, hbw⟩ := by_of_trod (v := .slice a0 n0 m0) g0
  obtain ⟨l, hl, hlw⟩ := ins_of_trod (v := .slice a2 n2 m2) g2
  obtain ⟨A, c, e, -⟩ := id hb.open
  injection e with e1 e2 e3
  subst e1
  subst e2
  subst e3
  have z0 := hbw i0
  have z2 := hlw i2
  simp only [List.append_nil] at hW' hlt
  refine (fuel5 W a0 m0 b sbs snm l _ fu mo hb hsb hl (by have := z2.1; unfold big; omega) z2.2 z0).mono fun e W' ⟨he, hk⟩ => ?_
  subst he
  have hbel := hk.below
  refine ⟨_, rfl, post_below (pa := p0 ++ (p1 ++ (p2 ++ (p3 ++ p4)))) (pv := []) hW' (fun _ _ _ => trodAll_mk1 (shut_bool Tryz.underlying4 _)) (fun sp hs => ?_) (fun _ _ => rfl) (by simp) hbel⟩
  rw [Tryz.params5]
  exact trodAll_mk5 (trod_kept (by kernel_rfl) (of_decide_eq_true (by kernel_rfl)) h0k hbel (fun x hx => hlt x (by simp [hx])) (fun x hx => hs x (by simp [hx])))
    (trod_kept (by kernel_rfl) (of_decide_eq_true (by kernel_rfl)) h1 hbel (fun x hx => hlt x (by simp [hx])) (fun x hx => hs x (by simp [hx])))
    (trod_kept (by kernel_rfl) (of_decide_eq_true (by kernel_rfl)) h2k hbel (fun x hx => hlt x (by simp [hx])) (fun x hx => hs x (by simp [hx])))
    (trod_kept (by kernel_rfl) (of_decide_eq_true (by kernel_rfl)) h3 hbel (fun x hx => hlt x (by simp [hx])) (fun x hx => hs x (by simp [hx])))
    (trod_kept (by kernel_rfl) (of_decide_eq_true (by kernel_rfl)) h4 hbel (fun x hx => hlt x (by simp [hx])) (fun x hx => hs x (by simp [hx])))
theorem recipeFuel_holds : Rows.RecipeFuelSaid :=
  OpenClaim.holds_of_wide 5 Tryz.f5 rfl rfl rfl rfl rfl rfl rfl ⟨rfl, rfl, rfl, rfl, rfl⟩ rfl rfl rfl rfl rfl (by kernel_rfl) Tryz.func5 (by kernel_rfl)
    (of_decide_eq_true (by kernel_rfl)) (by unfold Func.isWrapper; first | (rw [if_pos (by decide +kernel)]; kernel_rfl) | (rw [if_neg (by decide +kernel)]; exact ⟨rfl, rfl⟩))
    (fun os started H enc _ => fuel_lifted os started H enc)
theorem recipeFuel_card : Rows.RecipeFuelCardSaid :=
  Claim7.holds_tied_plain_at .later [] [.data, .pinned] true (true, "079cba2ee34e9106e758b0d1b4039b62c5b8d3d6b448bbd9b520c43c16901930") true recipeFuel_holds (fun _ h => by cases h) (by kernel_rfl) (fun _ h => by cases h) recipeFuel_row_tie rfl ⟨rfl, rfl⟩ (by kernel_rfl) rfl
    (fun f fn hf hfn => by
      obtain rfl : f = 5 := Option.some.inj ((show Tryz.prog.funcNamed "spence/spencelaw21.RecipeFuel" = some 5 by kernel_rfl).symm.trans hf) |>.symm
      obtain rfl : fn = Tryz.f5 := (Option.some.inj (Tryz.func5.symm.trans hfn)).symm
      exact ⟨by kernel_rfl, fun j t ht => by
        rw [Tryz.params5] at ht
        have hm : t ∈ [23, 50, 52, 3, 3] := by simpa using Array.mem_of_getElem? ht
        have hall : ([23, 50, 52, 3, 3].all fun u => !Tryz.prog.wantsStandIn u) = true := by kernel_rfl
        exact (show Tryz.prog.wantsStandIn t = false by simpa using List.all_eq_true.1 hall t hm)⟩)
    (by kernel_rfl)
#print axioms recipeFuel_card
end Go.Proofs.YtddmbdigdnmfgaaGreatDoor
