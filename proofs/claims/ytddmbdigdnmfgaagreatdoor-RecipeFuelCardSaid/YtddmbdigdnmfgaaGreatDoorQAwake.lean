/- The chapter's example: awake is true. -/
import Derived.Test.YtddmbdigdnmfgaaGreatDoorQRun2
import Derived.Test.YtddmbdigdnmfgaaGreatDoorQWords
import Derived.Lib.SlBytesConst
namespace Go.Proofs.YtddmbdigdnmfgaaGreatDoor
open Go.RowKit
set_option maxHeartbeats 1000000
set_option maxRecDepth 100000

def awakeBytes : List UInt8 := [4, 1, 2, 97, 98, 5, 1, 120]
theorem put_awake : putOps awakeOps = .ok awakeBytes := by
  have h : opsBytes awakeOps = awakeBytes := by
    simp [opsBytes, awakeOps, opBytes, hasText, numbersOf, numsBytes, numBytes_small, awakeBytes]
  exact putOps_ok.2 ⟨by decide, by rw [h]; decide, h.symm⟩
theorem get_awake : getOps awakeBytes = .ok awakeOps := getOps_put put_awake
def BytesPost (w : World) (e : Ending) (w' : World) : Prop := ∃ A c, e = .returned (.slice A 8 c) ∧ By w' (fun i => w.heap.size ≤ i) (.slice A 8 c) awakeBytes ∧ Keep All w w'
theorem bytes31 (w : World) (G : Nat → Prop) (v : Value) (h : OpsR w G v awakeOps) : Calls Tryz.prog 31 #[v] w (BytesPost w) := by
  have H := Fact.mk h
  obtain ⟨A, c, rfl, -⟩ := h.open
  clear h
  go_enter Tryz.func31, Tryz.ntmps31
  go_wp2_with (go_at_call 10; go_must (refine (put10 _ G _ awakeOps H.out (Small.of (by decide)) (by decide)).mono ?_); rintro e w1 ⟨hp, hk⟩; rw [put_awake] at hp; obtain ⟨A1, c1, rfl, hb⟩ := hp; have HB := Fact.mk hb; have HK := Fact.mk hk; clear hb hk)
  go_ret
  exact ⟨A1, c1, rfl, HB.out, HK.out⟩
/-- A row that has just been laid, marked or not. -/
theorem Sl.newz (w : World) (T : TypeId) (sz n : Nat) (c : List Value) (z : Nat × Nat) (hl : c.length = n * sz) (hn : n ≤ maxLen) (h1 : ∀ u ∈ c, u.oneCell' = true) :
    Sl (w.alloc (.cells c.toArray T z)) (fun i => w.heap.size ≤ i) sz (.slice (some ⟨w.heap.size, 0, none⟩) n n) n c :=
  ⟨h1, _, n, rfl, hl, Nat.le_refl _, hn, (fun e => by cases e), fun _ => ⟨_, 0, rfl, Nat.le_refl _, fun j hj => by
    have h' : (w.alloc (.cells c.toArray T z)).heap[w.heap.size]? = some (.cells c.toArray T z) := by
      show (w.heap.push _)[w.heap.size]? = _
      simp
    simp only [World.cell?, h']; simp [List.getD_eq_getElem?_getD, List.getElem?_eq_getElem hj]⟩⟩
def awW1 (w : World) : World := w.alloc (.cells #[.int .u8 97, .int .u8 98] 5 (2, 3))
def awW2 (w : World) : World := (awW1 w).alloc (.cells #[.int .u8 120] 5 (1, 2))
def awCells (w : World) : List Value := [.int .i64 4, .int .i64 0, .int .i64 0, .slice none 0 0, .int .i64 1, .int .i64 0, .int .i64 0, .slice (some ⟨w.heap.size, 0, none⟩) 2 2, .int .i64 5, .int .i64 0, .int .i64 0, .slice (some ⟨w.heap.size + 1, 0, none⟩) 1 1]
theorem awake_ops (w : World) : OpsR ((awW2 w).alloc (.cells (awCells w).toArray 25)) (fun _ => True) (.slice (some ⟨w.heap.size + 1 + 1, 0, none⟩) 3 3) awakeOps := by
  have h1 : By (awW1 w) (fun _ => True) (.slice (some ⟨w.heap.size, 0, none⟩) 2 2) [97, 98] := (Sl.newz w 5 1 2 [.int .u8 97, .int .u8 98] (2, 3) rfl (by decide) (by simp [Value.oneCell'])).mono fun _ _ _ => trivial
  have h2 : By (awW2 w) (fun _ => True) (.slice (some ⟨w.heap.size + 1, 0, none⟩) 1 1) [120] := by
    have := Sl.newz (awW1 w) 5 1 1 [.int .u8 120] (1, 2) rfl (by decide) (by simp [Value.oneCell'])
    rw [awW1, World.size_alloc] at this
    exact this.mono fun _ _ _ => trivial
  have k1 : ∀ (a : World) (o : Obj), Keep (fun _ => True) a (a.alloc o) := fun a o => (Keep.refl _ a).alloc o
  have h3 := Sl.newz (awW2 w) 25 4 3 (awCells w) (0, 0) rfl (by decide) (by simp [awCells, Value.oneCell'])
  have hs : (awW2 w).heap.size = w.heap.size + 1 + 1 := by rw [awW2, World.size_alloc, awW1, World.size_alloc]
  rw [hs] at h3
  refine ⟨_, h3.mono fun _ _ _ => trivial, [_, _, _, _], _, rfl, ⟨_, rfl, By.nil _ _⟩, [_, _, _, _], _, rfl, ⟨_, rfl, (h1.keep (k1 _ _)).keep (k1 _ _)⟩, [_, _, _, _], [], rfl, ⟨_, rfl, h2.keep (k1 _ _)⟩, rfl⟩
theorem awake8 (w : World) : Calls Tryz.prog 8 #[] w fun e w' => e = .returned (.bool true) ∧ Keep All w w' := by
  have kc := fun (w : World) (C : Array Value) (n c : Nat) => Lib.run_convert_bytes_const (P := Tryz.prog) w 23 5 C n c Tryz.underlying23 Tryz.underlying5
  have kc2 : ∀ (w : World) (o : Obj) (C : Array Value) (n c : Nat), (convert 23 23 (.slice (some ⟨w.heap.size + 1, 0, none⟩) n c)).run Tryz.prog ((w.alloc o).alloc (.cells C 5)) = .ok (.slice (some ⟨w.heap.size + 1, 0, none⟩) n c) ((w.alloc o).alloc (.cells C 5 (C.size, C.size + 1))) := fun w o C n c => by
    have := kc (w.alloc o) C n c
    rwa [World.size_alloc] at this
  go_enter Tryz.func8, Tryz.ntmps8
  go_upto_region 2 with (first
    | (go_at_call 31; go_must (refine (bytes31 _ (fun _ => True) _ (awake_ops w)).mono ?_); rintro e w1 ⟨A, c, rfl, hb, hk⟩; have HB := Fact.mk hb; have HK := Fact.mk (((((Keep.refl All w).alloc _).alloc _).alloc _).trans hk); clear hb hk))
  clear kc kc2
  go_upto_region 3 with (first
    | (go_at_call 22; go_must (refine (own22 _).mono ?_); rintro e w2 ⟨rfl, hk⟩; have HB2 := Fact.mk (HB.out.keep hk.all); have HK2 := Fact.mk (HK.out.trans hk); clear hk)
    | (go_at_call 27; go_must (refine (run27 _ _ A c awakeBytes HB2.out (by decide) get_awake).mono ?_); rintro e w3 ⟨A0, c0, kb, cc, A5, c5, rfl, hkid, hby, hkb, hk⟩; have HB3 := Fact.mk (HB2.out.keep hk.all); have HK3 := Fact.mk (HK2.out.trans hk); have KID := Fact.mk hkid; have BY5 := Fact.mk hby; clear hk hkid hby hkb))
  obtain ⟨V, hV⟩ : ∃ V, V = w3.alloc (.cells #[.int .i64 4, .slice A0 0 c0, .slice (some ⟨kb, 0, none⟩) 1 cc] 58) := ⟨_, rfl⟩
  rw [← hV]
  have kv : Keep All w3 V := hV ▸ (Keep.refl All w3).alloc _
  have BV : Fact (Blk V w3.heap.size [.int .i64 4, .slice A0 0 c0, .slice (some ⟨kb, 0, none⟩) 1 cc] 58) := ⟨hV ▸ Blk.new w3 [.int .i64 4, .slice A0 0 c0, .slice (some ⟨kb, 0, none⟩) 1 cc] 58⟩
  have HB4 := Fact.mk (HB3.out.keep kv.all)
  have HK4 := Fact.mk (HK3.out.trans kv)
  have KID4 := Fact.mk (KID.out.keep kv trivial)
  have BY6 := Fact.mk (BY5.out.keep kv.all)
  clear hV kv
  go_upto_region 4 with (first
    | (go_at_call 22; go_must (refine (own22 _).mono ?_); rintro e w4 ⟨rfl, hk⟩; have HB5 := Fact.mk (HB4.out.keep hk.all); have HK5 := Fact.mk hk; clear hk)
    | (go_at_call 27; go_must (refine (run27_out _ _ A c awakeBytes HB5.out (by decide) get_awake).mono ?_); rintro e w5 ⟨rfl, hk⟩; have HK6 := Fact.mk (HK5.out.trans hk); clear hk))
  obtain ⟨U, hU⟩ : ∃ U, U = w5.alloc (.cells #[.int .i64 0, .slice none 0 0, .slice none 0 0] 58) := ⟨_, rfl⟩
  rw [← hU]
  have ku : Keep All V U := hU ▸ HK6.out.alloc _
  have BU := BV.out.keep ku trivial
  have c0 := BU.cell 0 _ rfl
  have c1 := BU.cell 1 _ rfl
  have c2 := BU.cell 2 _ rfl
  have KU := KID4.out.keep ku trivial
  have n0 := KU.name
  have n2 := KU.bytes
  have HK7 := Fact.mk (HK4.out.trans ku)
  have hcv := by_string (BY6.out.keep ku.all) (by decide)
  clear hU ku KU BU
  go_wp2
  go_ret
  exact ⟨rfl, HK7.out⟩
end Go.Proofs.YtddmbdigdnmfgaaGreatDoor
