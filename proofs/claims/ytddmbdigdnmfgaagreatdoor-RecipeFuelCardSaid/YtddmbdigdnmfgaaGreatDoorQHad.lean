/- Walks of this seat, packed. -/
import Derived.Test.YtddmbdigdnmfgaaGreatDoorQBuild
import Derived.Deep.MidRow
namespace Go.Proofs.YtddmbdigdnmfgaaGreatDoor
open Go.RowKit
set_option maxHeartbeats 1000000
set_option maxRecDepth 100000

def setFrom : List Value → Nat → List Value → List Value
  | c, _, [] => c
  | c, o, v :: r => setFrom (c.set o v) (o + 1) r
theorem Blk.setCells {b : Nat} {T : TypeId} : ∀ (vs : List Value) (o : Nat) {w : World} {c : List Value}, Blk w b c T → Blk (w.setCells b o vs) b (setFrom c o vs) T
  | [], _, _, _, h => h
  | v :: r, o, _, _, h => Blk.setCells r (o + 1) (h.set o v)
theorem Keep.setCells {G : Nat → Prop} {a : World} {b : Nat} (hb : a.heap.size ≤ b ∨ ¬ G b) : ∀ (vs : List Value) (o : Nat) {w : World}, Keep G a w → Keep G a (w.setCells b o vs)
  | [], _, _, h => h
  | v :: r, o, _, h => Keep.setCells hb r (o + 1) (h.setCell (p := ⟨b, o, none⟩) hb v)
theorem Blk.there {w : World} {b : Nat} {c : List Value} {T : TypeId} (h : Blk w b c T) (n : Nat) (hn : n ≤ c.length) : w.there b 0 n := fun j hj =>
  ⟨by rw [Nat.zero_add, h.cell j (c[j]'(by omega)) (by simp)]; rfl, h.free _⟩
/-- The own path, as a value. -/
def ownCells : List Value := [.int .u8 5, .int .u8 0, .int .u8 0, .int .u8 0, .int .u8 0, .int .u8 0, .int .u8 0, .int .u8 0, .int .u8 0, .int .u8 0, .int .u8 0, .int .u8 0, .int .u8 0, .int .u8 0, .int .u8 0, .int .u8 0, .int .u8 0, .int .u8 0, .int .u8 0, .int .u8 0, .string ⟨#[111, 119, 110]⟩]
theorem results_50 {fn : Func} {p : Tmp} (h : fn.results = #[.cell p 50]) (tmps : Array Value) (w : World) (g : Nat) (c : List Value) (hc : c.length = 21)
    (hp : tmps.getD p undef = .pointer (some ⟨g, 0, none⟩)) (hb : Blk w g c 50) : (results fn tmps).run Tryz.prog w = .ok (.agg c.toArray) w := by
  have hp' : tmps[p]?.getD undef = .pointer (some ⟨g, 0, none⟩) := by simpa using hp
  have hb' : w.heap[g]? = some (.cells c.toArray 50 (0, 0)) := hb
  have hi : (Tryz.prog.info? 50).map (·.size) = some c.toArray.size := by
    have : (Tryz.prog.info? 50).map (·.size) = some 21 := by kernel_rfl
    rw [this]; simp [hc]
  simp [results, h, hp', asAddr, run_loadVar_row w g 50 50 c.toArray (0, 0) _ hb' Tryz.underlying50 rfl hi]
theorem own_from : setFrom [.int .u8 0, .int .u8 0, .int .u8 0, .int .u8 0, .int .u8 0, .int .u8 0, .int .u8 0, .int .u8 0, .int .u8 0, .int .u8 0, .int .u8 0, .int .u8 0, .int .u8 0, .int .u8 0, .int .u8 0, .int .u8 0, .int .u8 0, .int .u8 0, .int .u8 0, .int .u8 0, .string ⟨#[]⟩] 0 ownCells = ownCells := rfl
theorem own22 (w : World) : Calls Tryz.prog 22 #[] w fun e w' => e = .returned (.agg ownCells.toArray) ∧ Keep All w w' := by
  go_enter Tryz.func22, Tryz.ntmps22
  go_upto_region 1 with (fail)
  obtain ⟨W, hW⟩ : ∃ W, W = w.alloc (.cells #[.int .u8 0, .int .u8 0, .int .u8 0, .int .u8 0, .int .u8 0, .int .u8 0, .int .u8 0, .int .u8 0, .int .u8 0, .int .u8 0, .int .u8 0, .int .u8 0, .int .u8 0, .int .u8 0, .int .u8 0, .int .u8 0, .int .u8 0, .int .u8 0, .int .u8 0, .int .u8 0, .string ⟨#[]⟩] 50) := ⟨_, rfl⟩
  rw [← hW]
  have HB : Fact (Blk W w.heap.size [.int .u8 0, .int .u8 0, .int .u8 0, .int .u8 0, .int .u8 0, .int .u8 0, .int .u8 0, .int .u8 0, .int .u8 0, .int .u8 0, .int .u8 0, .int .u8 0, .int .u8 0, .int .u8 0, .int .u8 0, .int .u8 0, .int .u8 0, .int .u8 0, .int .u8 0, .int .u8 0, .string ⟨#[]⟩] 50) := ⟨hW ▸ Blk.new w [.int .u8 0, .int .u8 0, .int .u8 0, .int .u8 0, .int .u8 0, .int .u8 0, .int .u8 0, .int .u8 0, .int .u8 0, .int .u8 0, .int .u8 0, .int .u8 0, .int .u8 0, .int .u8 0, .int .u8 0, .int .u8 0, .int .u8 0, .int .u8 0, .int .u8 0, .int .u8 0, .string ⟨#[]⟩] 50⟩
  have KW : Fact (Keep All w W) := ⟨hW ▸ (Keep.refl All w).alloc _⟩
  clear hW
  go_wp2_with (first
    | (refine wpList_store_mid rfl 50 (.tmp 0) (.tmp 2) rfl w.heap.size 0 ownCells.toArray ?hx ?hy ?ht ?hi ?h1 ?hrest
       case hx => go_must (rfl)
       case hy => go_must (rfl)
       case ht => go_must (exact Blk.there HB.out 21 (by decide))
       case hi => go_must (kernel_rfl)
       case h1 => go_must (exact all_oneCell_toArray (by simp [ownCells, Value.oneCell']))))
  obtain ⟨W1, hW1⟩ : ∃ X, X = W.setCells w.heap.size 0 ownCells := ⟨_, rfl⟩
  rw [← hW1]
  have HB1 : Fact (Blk W1 w.heap.size ownCells 50) := ⟨by
    have := Blk.setCells ownCells 0 HB.out
    rw [own_from] at this
    rw [hW1]
    exact this⟩
  have HK1 : Fact (Keep All w W1) := ⟨by
    rw [hW1]
    exact Keep.setCells (.inl (Nat.le_refl _)) ownCells 0 KW.out⟩
  clear hW1
  refine bodyPost_ret (v := .agg ownCells.toArray) ?_ rfl ⟨rfl, HK1.out⟩
  exact results_50 rfl _ W1 w.heap.size ownCells rfl rfl HB1.out
theorem run_makeMap134 (w : World) : (Instr.makeMap 134 none).run Tryz.prog w = .ok (.map (some w.heap.size)) (w.alloc (.map #[] 0)) := rfl
theorem had63 (w : World) : Calls Tryz.prog 63 #[.agg ownCells.toArray, .slice none 0 0] w
    fun e w' => (∃ bm, e = .returned (.tuple #[.map (some bm), .bool true])) ∧ Keep All w w' := by
  show Calls Tryz.prog 63 #[.agg #[.int .u8 5, .int .u8 0, .int .u8 0, .int .u8 0, .int .u8 0, .int .u8 0, .int .u8 0, .int .u8 0, .int .u8 0, .int .u8 0, .int .u8 0, .int .u8 0, .int .u8 0, .int .u8 0, .int .u8 0, .int .u8 0, .int .u8 0, .int .u8 0, .int .u8 0, .int .u8 0, .string ⟨#[111, 119, 110]⟩], .slice none 0 0] w _
  go_enter Tryz.func63, Tryz.ntmps63
  have hmk := run_makeMap134
  go_wp2
  refine wp_loop_rounds 1 ?_
  rw [rounds_succ]
  go_wp2_with (go_at_call 110; go_must (refine (name110 _ _ nameOk_own).mono ?_); rintro e w1 ⟨rfl, hk⟩; have K := Fact.mk hk; clear hk)
  go_ret2
  exact ⟨⟨_, rfl⟩, (((Keep.refl _ w).alloc _).alloc _).trans K.out⟩
end Go.Proofs.YtddmbdigdnmfgaaGreatDoor
