/- RecipeBytes: the bytes of any operations, and the operations of any bytes, or the errors, are what the document tells (what the reference answers), all stays, what is told lies apart: the law returns true for every input, and each argument reads afterwards as it read before.
   Conditions: those of the given row and card alone (listed variables as the card ties them, the form's own reach). -/
import Derived.Test.YtddmbdigdnmfgaaGreatDoorBytes
import Derived.Test.YtddmbdigdnmfgaaGreatDoorOpen
import Derived.Test.YtddmbdigdnmfgaaGreatDoorTie
import Derived.Test.YtddmbdigdnmfgaaGreatDoorCards
import Derived.Test.YtddmbdigdnmfgaaGreatDoorCard0
import Derived.SevenTiedAt
namespace Go.Proofs.YtddmbdigdnmfgaaGreatDoor
open Go.ChangeShapes Go.WideShapes Go.ChangeAt Go.RowKit Go.Deep
set_option maxRecDepth 100000

theorem bytes_lifted (os : Os) (started : os.Started) (H : Type) (enc : TypeId × Value → H) :
    ReturnsInHanded {} Tryz.checked os 3 .any (fun w args => (Rows.recipeBytesSpec.pre enc Tryz.prog Tryz.f3 [] false w args ∧ laidMetH Tryz.prog laidBoth w) ∧ sizedMet enc Tryz.prog Tryz.f3 (OpenSpec.ofChange Rows.recipeBytesSpec) false w args)
      (Rows.recipeBytesSpec.post enc Tryz.prog Tryz.f3 false true false false) := by
  refine returnsInHanded_of_change_and (C := Tryz.checked) (X := fun w _ => laidMetH Tryz.prog laidBoth w) (fun _ _ _ hh h => h.of_heap hh) own started (by kernel_rfl) Tryz.func3
    (ChangeSpec.witness_shaped (enc := enc) (C := Tryz.checked) (os := os) (X := fun w _ => laidMetH Tryz.prog laidBoth w) false (World.laidAll Tryz.prog os laidBoth) #[.slice none 0 0, .slice none 0 0] 8 (World.laidAll_os _ _ _)
      (start_shaped os) (by kernel_rfl) (by kernel_rfl) (by kernel_rfl) (laid_start os _)) ?_
  intro W base args ds gs before hval0 hW hc hsz hL _
  have hW' := hW
  have hlt : ∀ p ∈ before, p.block < W.heap.size := fun p hp => hW.lt p hp
  have hval : ∀ (j : Nat) t v, Tryz.f3.params[j]? = some t → args[j]? = some v → Value.okWide Tryz.prog W .any base t v := hval0
  obtain ⟨p, q, hA0, hV, rfl, _, _⟩ := hW
  have hA : DataW.TrodAll enc Tryz.prog W 0 (fun _ => true) true Tryz.f3.params.toList args.toList ds p := hA0
  rw [Tryz.params3] at hA hval
  obtain ⟨v0, v1, d0, d1, p0, p1, rfl, rfl, rfl, h0, h1⟩ := trodAll_two hA
  obtain ⟨rfl, rfl⟩ := trodVars_none hV
  have i0 : Within 22 d0 := Within.of (j := 0) hsz (by rw [Tryz.params3]; rfl) rfl
  have i1 : Within 23 d1 := Within.of (j := 1) hsz (by rw [Tryz.params3]; rfl) rfl
  obtain ⟨a0, n0, m0, rfl⟩ := okWide_slice Tryz.underlying22 (hval 0 22 v0 rfl rfl)
  obtain ⟨a1, n1, m1, rfl⟩ := okWide_slice Tryz.underlying23 (hval 1 23 v1 rfl rfl)
  have h0k := h0
  have h1k := h1
  obtain ⟨u0, g0⟩ := h0
  obtain ⟨u1, g1⟩ := h1
  obtain ⟨l, hl, hlw⟩ := ops_of_trod (v := .slice a0 n0 m0) g0
  obtain ⟨b, hb, hbw⟩ := by_of_trod (v := .slice a1 n1 m1) g1
  have z0 := hlw i0
  have z1 := hbw i1
  simp only [List.append_nil] at hW' hlt
  refine (bytes3 W _ _ l b hl hb z0.1 z1 z0.2).mono fun e W' ⟨he, hk⟩ => ?_
  subst he
  have hbel := hk.below
  refine ⟨_, rfl, post_below (pa := p0 ++ p1) (pv := []) hW' (fun _ _ _ => trodAll_mk1 (shut_bool Tryz.underlying4 _)) (fun sp hs => ?_) (fun _ _ => rfl) (by simp) hbel⟩
  rw [Tryz.params3]
  exact trodAll_mk2 (trod_kept (by kernel_rfl) (of_decide_eq_true (by kernel_rfl)) h0k hbel (fun x hx => hlt x (by simp [hx])) (fun x hx => hs x (by simp [hx])))
    (trod_kept (by kernel_rfl) (of_decide_eq_true (by kernel_rfl)) h1k hbel (fun x hx => hlt x (by simp [hx])) (fun x hx => hs x (by simp [hx])))
theorem recipeBytes_holds : Rows.RecipeBytesSaid :=
  OpenClaim.holds_of_wide 3 Tryz.f3 rfl rfl rfl rfl rfl rfl rfl ⟨rfl, rfl, rfl, rfl, rfl⟩ rfl rfl rfl rfl rfl (by kernel_rfl) Tryz.func3 (by kernel_rfl)
    (of_decide_eq_true (by kernel_rfl)) (by unfold Func.isWrapper; first | (rw [if_pos (by decide +kernel)]; kernel_rfl) | (rw [if_neg (by decide +kernel)]; exact ⟨rfl, rfl⟩))
    (fun os started H enc _ => bytes_lifted os started H enc)
theorem recipeBytes_card : Rows.RecipeBytesCardSaid :=
  Claim7.holds_tied_plain_at .later [] [.data, .pinned] true (true, "079cba2ee34e9106e758b0d1b4039b62c5b8d3d6b448bbd9b520c43c16901930") true recipeBytes_holds (fun _ h => by cases h) (by kernel_rfl) (fun _ h => by cases h) recipeBytes_row_tie rfl ⟨rfl, rfl⟩ (by kernel_rfl) rfl
    (fun f fn hf hfn => by
      obtain rfl : f = 3 := Option.some.inj ((show Tryz.prog.funcNamed "spence/spencelaw21.RecipeBytes" = some 3 by kernel_rfl).symm.trans hf) |>.symm
      obtain rfl : fn = Tryz.f3 := (Option.some.inj (Tryz.func3.symm.trans hfn)).symm
      exact ⟨by kernel_rfl, fun j t ht => by
        rw [Tryz.params3] at ht
        have hm : t ∈ [22, 23] := by simpa using Array.mem_of_getElem? ht
        have hall : ([22, 23].all fun u => !Tryz.prog.wantsStandIn u) = true := by kernel_rfl
        exact (show Tryz.prog.wantsStandIn t = false by simpa using List.all_eq_true.1 hall t hm)⟩)
    (by kernel_rfl)
#print axioms recipeBytes_card
end Go.Proofs.YtddmbdigdnmfgaaGreatDoor
