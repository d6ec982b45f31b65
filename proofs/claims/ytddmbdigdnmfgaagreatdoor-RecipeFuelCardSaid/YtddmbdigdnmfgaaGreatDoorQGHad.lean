/- base.Letters, base.Path; the shelf's Builder.WriteByte, laid by hand. -/
import Derived.Shelf.Strings.BuilderK
import Derived.Great.Ranges
import Derived.Deep.MidRow
import Derived.Test.YtddmbdigdnmfgaaGreatDoorQBShift2
import Derived.Test.YtddmbdigdnmfgaaGreatDoorQRec5
import Derived.Test.YtddmbdigdnmfgaaGreatDoorQPRun
namespace Go.Proofs.YtddmbdigdnmfgaaGreatDoor
open Go.RowKit
set_option maxHeartbeats 1000000
set_option maxRecDepth 100000

def ren167 : Go.Shelf.Ren := ⟨fun | 167 => 246 | 240 => 230 | 276 => 242 | n => n, fun | 0 => 0 | 4 => 4 | 5 => 5 | 9 => 9 | 20 => 20 | 37 => 23 | 70 => 314 | 72 => 316 | 75 => 318 | 80 => 321 | 164 => 347 | n => n, fun | n => n⟩
theorem lays167 : Go.Proofs.Lays.n167 Tryz.prog ren167 := {
  mixed := by kernel_rfl
  f167 := Tryz.func246.trans (congrArg some (by kernel_rfl))
  f240 := Tryz.func230.trans (congrArg some (by kernel_rfl))
  f276 := Tryz.func242.trans (congrArg some (by kernel_rfl))
  t0 := Tryz.underlying0
  a0 := Tryz.isAgg0
  z0 := Tryz.sizeOf0
  v0 := Tryz.zeroValue0
  t4 := Tryz.underlying4
  a4 := Tryz.isAgg4
  z4 := Tryz.sizeOf4
  v4 := Tryz.zeroValue4
  t5 := Tryz.underlying5
  a5 := Tryz.isAgg5
  z5 := Tryz.sizeOf5
  v5 := Tryz.zeroValue5
  t9 := Tryz.underlying9
  a9 := Tryz.isAgg9
  z9 := Tryz.sizeOf9
  v9 := Tryz.zeroValue9
  t20 := Tryz.underlying20
  a20 := Tryz.isAgg20
  z20 := Tryz.sizeOf20
  v20 := Tryz.zeroValue20
  t37 := Tryz.underlying23
  a37 := Tryz.isAgg23
  z37 := Tryz.sizeOf23
  v37 := Tryz.zeroValue23
  t70 := Tryz.underlying314
  a70 := Tryz.isAgg314
  z70 := Tryz.sizeOf314
  v70 := Tryz.zeroValue314
  t72 := Tryz.underlying316
  a72 := Tryz.isAgg316
  z72 := Tryz.sizeOf316
  v72 := Tryz.zeroValue316
  t75 := Tryz.underlying318
  a75 := Tryz.isAgg318
  z75 := Tryz.sizeOf318
  v75 := Tryz.zeroValue318
  t164 := Tryz.underlying347
  a164 := Tryz.isAgg347
  z164 := Tryz.sizeOf347
  v164 := Tryz.zeroValue347 }
theorem extra167 : Builder.Extra Tryz.prog ren167 := {
  sizeBuilder := by kernel_rfl
  liesBuilder := by kernel_rfl
  t5 := Tryz.underlying5
  a5 := Tryz.isAgg5
  z5 := Tryz.sizeOf5
  v5 := Tryz.zeroValue5
  infoByte := by kernel_rfl
  cellsByte := by kernel_rfl
  sizeByte := by kernel_rfl
  neB5 := by decide }
theorem write246 (B b : Nat) (bs : List Value) (c : Int) (w : World) (h : Lib.IsBuilderF 316 5 B b bs w) (hlen : bs.length + 1 ≤ 140737488355328) (hBw : B ≤ w.heap.size) :
    Calls Tryz.prog 246 #[.pointer (some ⟨b, 0, none⟩), .int .u8 c] w fun e w' => e = .returned .nilIface ∧ (Lib.BuilderAtF 316 5 B b (.pointer (some ⟨b, 0, none⟩)) (bs ++ [.int .u8 c]) w' ∧ Below B w w' ∧ Lib.OthersKept 5 (some b) w w') := Any.Builder_WriteByte_k lays167 extra167 B b bs c w h hlen hBw
def alphaL : List UInt8 := [48, 49, 50, 51, 52, 53, 54, 55, 56, 57, 97, 98, 99, 100, 102, 103, 104, 105, 106, 107, 108, 109, 110, 112, 113, 114, 115, 118, 119, 120, 121, 122]
def alphaAt (k : Nat) : UInt8 := alphaL.getD k 0
def letIn : Nat → Nat → Nat → List UInt8 → Nat × Nat × List UInt8
  | 0, a, s, o => (a, s, o)
  | f + 1, a, s, o => if 5 ≤ s then letIn f (a / 32) (s - 5) (o ++ [alphaAt (a % 32)]) else (a, s, o)
def letStep (st : Nat × Nat × List UInt8) (x : UInt8) : Nat × Nat × List UInt8 := letIn 3 (st.1 ||| (x.toNat * 2 ^ st.2.1 % 4294967296)) (st.2.1 + 8) st.2.2
/-- The letters of a hash. -/
def lettersP (bs : List UInt8) : List UInt8 := (bs.foldl letStep (0, 0, [])).2.2
theorem wrap32 (n : Int) : IntKind.u32.wrap n = n % 4294967296 := by
  simp [IntKind.wrap, IntKind.bits, IntKind.signed]
theorem and31 (a : Nat) (ha : a < 4294967296) : bits .and .u32 (a : Int) 31 = ((a % 32 : Nat) : Int) := by
  have hx : a &&& 31 < 2 ^ 32 := Nat.and_lt_two_pow _ (by omega)
  have h1 : (BitVec.ofInt 32 (a : Int)).toNat = a := by
    rw [BitVec.ofInt_natCast, BitVec.toNat_ofNat]; exact Nat.mod_eq_of_lt (by omega)
  have h2 : (BitVec.ofInt 32 (31 : Int)).toNat = 31 := by decide
  show IntKind.u32.wrap ((BitVec.ofInt 32 (a : Int) &&& BitVec.ofInt 32 (31 : Int)).toNat : Int) = _
  rw [BitVec.toNat_and, h1, h2, show (31 : Nat) = 2 ^ 5 - 1 from rfl, Nat.and_two_pow_sub_one_eq_mod]
  rw [wrap32]
  omega
theorem or32 (a b : Nat) (ha : a < 4294967296) (hb : b < 4294967296) : bits .or .u32 (a : Int) (b : Int) = ((a ||| b : Nat) : Int) := by
  have hx : a ||| b < 2 ^ 32 := Nat.or_lt_two_pow (by omega) (by omega)
  have h1 : (BitVec.ofInt 32 (a : Int)).toNat = a := by
    rw [BitVec.ofInt_natCast, BitVec.toNat_ofNat]; exact Nat.mod_eq_of_lt (by omega)
  have h2 : (BitVec.ofInt 32 (b : Int)).toNat = b := by
    rw [BitVec.ofInt_natCast, BitVec.toNat_ofNat]; exact Nat.mod_eq_of_lt (by omega)
  show IntKind.u32.wrap ((BitVec.ofInt 32 (a : Int) ||| BitVec.ofInt 32 (b : Int)).toNat : Int) = _
  rw [BitVec.toNat_or, h1, h2]
  rw [wrap32]
  omega
theorem alpha_is (k : Nat) (hk : k < 32) : (({ data := #[48, 49, 50, 51, 52, 53, 54, 55, 56, 57, 97, 98, 99, 100, 102, 103, 104, 105, 106, 107, 108, 109, 110, 112, 113, 114, 115, 118, 119, 120, 121, 122] } : ByteArray)[k]'hk) = alphaAt k := by
  have h3 : k < alphaL.toArray.size := hk
  show (alphaL.toArray[k]'h3) = alphaL.getD k 0
  have h2 : k < alphaL.length := hk
  rw [List.getElem_toArray, List.getD_eq_getElem?_getD, List.getElem?_eq_getElem h2]
  rfl
theorem letIn_len : ∀ (f a s : Nat) (o : List UInt8), (letIn f a s o).2.2.length ≤ o.length + f
  | 0, a, s, o => by rw [letIn]; exact Nat.le_refl _
  | f + 1, a, s, o => by
    rw [letIn]
    split
    · have := letIn_len f (a / 32) (s - 5) (o ++ [alphaAt (a % 32)])
      simp only [List.length_append, List.length_singleton] at this
      omega
    · simp
theorem letIn_done : ∀ (f a s : Nat) (o : List UInt8), s < 5 → letIn f a s o = (a, s, o)
  | 0, a, s, o, _ => rfl
  | f + 1, a, s, o, h => by rw [letIn, if_neg (by omega)]
theorem range_of {w : World} {b : Nat} {c : List Value} {T : TypeId} (h : Blk w b c T) : w.rangeAt b 0 c := fun j v hv => by rw [Nat.zero_add]; exact h.cell j v hv
theorem index48 (bs : List UInt8) (hb : bs.length = 20) (j : Nat) (hj : j < 20) (W : World) : (Instr.index 48 (.agg (bs.map u8v).toArray) (.int .i64 j)).run Tryz.prog W = .ok (.int .u8 ((bs[j]'(by omega)).toNat : Int)) W := by
  simp [Instr.index, run_underlying Tryz.underlying48, asIntOf, hj, part, Tryz.isAgg5, u8v, hb]
theorem letters235 (w : World) (bs : List UInt8) (hb : bs.length = 20) : Calls Tryz.prog 235 #[.agg (bs.map u8v).toArray] w fun e w' => e = .returned (.string ⟨(lettersP bs).toArray⟩) ∧ Keep All w w' := by
  have HIDX := Fact.mk (index48 bs hb)
  obtain ⟨cs, hcs⟩ : ∃ cs, cs = bs.map u8v := ⟨_, rfl⟩
  rw [← hcs] at HIDX ⊢
  have hcl : cs.length = 20 := by rw [hcs, List.length_map, hb]
  have HCL := Fact.mk hcl
  have HBL := Fact.mk hb
  have B1 : Fact (Blk (w.alloc (.cells cs.toArray 48)) w.heap.size cs 48) := ⟨Blk.new w cs 48⟩
  clear hcl hcs
  go_enter Tryz.func235, Tryz.ntmps235
  go_upto_region 4 with (first
    | (refine Great.wpList_boxTo rfl 48 (.tmp 0) rfl (some 1) rfl w.heap.size rfl cs.toArray rfl ?_)
    | (refine wpList_load_mid rfl 48 (.tmp 1) rfl w.heap.size 0 ?hx cs _ ?hc Tryz.underlying48 ?hd ?hi ?hrest
       case hx => go_must (rfl)
       case hc => go_must (exact range_of (B1.out.alloc _))
       case hd => go_must (rfl)
       case hi => go_must (rw [HCL.out]; kernel_rfl)))
  obtain ⟨W, hW⟩ : ∃ X, X = (w.alloc (.cells cs.toArray 48)).alloc (.cells #[.pointer none, .slice none 0 0] 316) := ⟨_, rfl⟩
  have KW : Fact (Keep All w W) := ⟨hW ▸ ((Keep.refl _ w).alloc _).alloc _⟩
  have WS : Fact (W.heap.size = w.heap.size + 2) := ⟨by rw [hW]; simp⟩
  have BW : Fact (Lib.IsBuilderF 316 5 (w.heap.size + 1) (w.heap.size + 1) (Lib.byteCells []) W) := ⟨.inl ⟨Nat.le_refl _, .slice none 0 0, by
    have := Blk.new (w.alloc (.cells cs.toArray 48)) [.pointer none, .slice none 0 0] 316
    rw [World.size_alloc] at this
    rw [hW]
    exact this, World.ownsRowF_of (World.ownsRow_nil _ _ _ _), by intro e; cases e⟩⟩
  rw [← hW]
  clear hW
  go_loopg [9, 4, 5] 20 (fun g v9 v4 v5 wr => ∃ (j a s : Nat) (o : List UInt8), j + g = 20 ∧ v9 = .int .i64 j ∧ v4 = .int .u32 a ∧ v5 = .int .u32 s ∧ s < 5 ∧ a < 4294967296 ∧ Fact ((bs.take j).foldl letStep (0, 0, []) = (a, s, o)) ∧ Fact (o.length ≤ 3 * j) ∧ Fact (Lib.IsBuilderF 316 5 (w.heap.size + 1) (w.heap.size + 1) (Lib.byteCells o) wr) ∧ Fact (Keep All w wr) ∧ Fact (w.heap.size + 2 ≤ wr.heap.size))
  case atStart => exact ⟨0, 0, 0, [], by omega, rfl, rfl, rfl, by decide, by decide, ⟨rfl⟩, ⟨by simp⟩, BW, KW, ⟨by rw [WS.out]; exact Nat.le_refl _⟩⟩
  case round =>
    obtain ⟨j, a, s, o, hg, rfl, rfl, rfl, hs, ha, hst, hol, hbd, hkp, hsz⟩ := hrel
    have HG := Fact.mk hg
    clear hg
    by_cases hlt : j < 20
    · have hjl : j < bs.length := by have := HBL.out; omega
      have hidx := HIDX.out j hlt
      obtain ⟨x, hx⟩ : ∃ x, x = bs[j].toNat := ⟨_, rfl⟩
      rw [← hx] at hidx
      have hx8 : x < 256 := hx ▸ UInt8.toNat_lt _
      obtain ⟨a1, ha1⟩ : ∃ q, q = a ||| (x * 2 ^ s % 4294967296) := ⟨_, rfl⟩
      have hor : bits .or .u32 (a : Int) ((x : Int) * 2 ^ s % 4294967296) = (a1 : Int) := by
        have h := or32 a (x * 2 ^ s % 4294967296) ha (Nat.mod_lt _ (by decide))
        rw [← ha1] at h
        rw [← h]
        congr 1
      have ha1l : a1 < 4294967296 := by
        rw [ha1]
        exact Nat.or_lt_two_pow (n := 32) (by omega) (Nat.mod_lt _ (by decide))
      have hdj : decide ((j : Int) < 20) = true := by simp; omega
      have HX := Fact.mk hx
      have HA1 := Fact.mk ha1
      clear hx ha1
      have HST : Fact ((bs.take (j + 1)).foldl letStep (0, 0, []) = letIn 3 a1 (s + 8) o) := ⟨by
        rw [List.take_succ_eq_append_getElem hjl, List.foldl_append, hst.out, HA1.out, HX.out]
        rfl⟩
      obtain ⟨go, hgo⟩ : ∃ q, q = gk := ⟨_, rfl⟩
      have HGO := Fact.mk hgo
      clear hgo
      go_upto_region 8 with (fail)
      go_loopg [4, 5] 3 (fun g v4 v5 wq => ∃ (a' s' : Nat) (o' : List UInt8), v4 = .int .u32 a' ∧ v5 = .int .u32 s' ∧ s' < 5 * g + 1 ∧ s' ≤ 12 ∧ a' < 4294967296 ∧ Fact (letIn g a' s' o' = letIn 3 a1 (s + 8) o) ∧ Fact (o'.length + g ≤ o.length + 3) ∧ Fact (Lib.IsBuilderF 316 5 (w.heap.size + 1) (w.heap.size + 1) (Lib.byteCells o') wq) ∧ Fact (Keep All w wq) ∧ Fact (w.heap.size + 2 ≤ wq.heap.size))
      case atStart => exact ⟨a1, s + 8, o, by go_num, by go_num, by omega, by omega, ha1l, ⟨rfl⟩, ⟨Nat.le_refl _⟩, hbd, hkp, hsz⟩
      case round =>
        obtain ⟨a', s', o', rfl, rfl, hsg, hs12, ha', hlet, hol', hbd', hkp', hsz'⟩ := hrel
        by_cases h5 : 5 ≤ s'
        · obtain ⟨g0, rfl⟩ : ∃ g0, gk = g0 + 1 := ⟨gk - 1, by omega⟩
          obtain ⟨al, hal⟩ : ∃ q, q = alphaAt (a' % 32) := ⟨_, rfl⟩
          have halpha := alpha_is (a' % 32) (Nat.mod_lt _ (by decide))
          rw [← hal] at halpha
          have hand := and31 a' ha'
          have h5i : (5 : Int) ≤ s' := by omega
          have HLET : Fact (letIn g0 (a' / 32) (s' - 5) (o' ++ [al]) = letIn 3 a1 (s + 8) o) := ⟨by rw [← hlet.out, letIn, if_pos h5, hal]⟩
          have CW : Fact (Calls Tryz.prog 246 #[.pointer (some ⟨w.heap.size + 1, 0, none⟩), .int .u8 (al.toNat : Int)] wr fun e w' => e = .returned .nilIface ∧ (Lib.BuilderAtF 316 5 (w.heap.size + 1) (w.heap.size + 1) (.pointer (some ⟨w.heap.size + 1, 0, none⟩)) (Lib.byteCells o' ++ [.int .u8 (al.toNat : Int)]) w' ∧ Below (w.heap.size + 1) wr w' ∧ Lib.OthersKept 5 (some (w.heap.size + 1)) wr w')) :=
            ⟨write246 (w.heap.size + 1) (w.heap.size + 1) (Lib.byteCells o') al.toNat wr hbd'.out (by have h1 := hol'.out; have h2 := hol.out; rw [Lib.byteCells_length]; omega) (by have := hsz'.out; omega)⟩
          clear hal
          go_wp2_with (go_at_call 246; go_must (refine (CW.out).mono ?_); rintro e w1 ⟨rfl, hb1, hbel, -⟩; have HB1 := Fact.mk hb1; have HBE := Fact.mk hbel; clear hb1 hbel)
          have k1 : Keep (fun i => i < w.heap.size + 1) wr w1 := ⟨HBE.out.os, HBE.out.tape, HBE.out.output, HBE.out.size, fun i _ hi => HBE.out.block i hi⟩
          go_roundg g0
          case measure => omega
          case rel =>
            refine ⟨a' / 32, s' - 5, o' ++ [al], by go_num, by go_num, by omega, by omega, by omega, HLET, ⟨by have := hol'.out; rw [List.length_append, List.length_singleton]; omega⟩, ⟨.inr ?_⟩, ⟨hkp'.out.then_ k1 fun i hi _ => by omega⟩, ⟨Nat.le_trans hsz'.out HBE.out.size⟩⟩
            have : Lib.byteCells (o' ++ [al]) = Lib.byteCells o' ++ [.int .u8 (al.toNat : Int)] := by simp [Lib.byteCells]
            rw [this]
            exact HB1.out
        · have h5i : ¬ (5 : Int) ≤ s' := by omega
          have HD : Fact (letIn 3 a1 (s + 8) o = (a', s', o')) := ⟨by rw [← hlet.out]; exact letIn_done _ _ _ _ (by omega)⟩
          go_wp2
          go_roundg (go - 1)
          case measure => have := HG.out; have := HGO.out; omega
          case rel => exact ⟨j + 1, a', s', o', by have := HG.out; have := HGO.out; omega, by go_num, rfl, rfl, by omega, ha', ⟨by rw [HST.out, HD.out]⟩, ⟨by have h1 := hol'.out; have h2 := hol.out; omega⟩, hbd', hkp', hsz'⟩
    · obtain rfl : j = 20 := by have := HG.out; omega
      have HL : Fact (o = lettersP bs) := ⟨by
        have := hst.out
        rw [← HBL.out, List.take_length] at this
        rw [lettersP, this]⟩
      have CS := Fact.mk (Tryz.Builder_String_any_k (w.heap.size + 1) (w.heap.size + 1) o wr hbd.out (by have := hsz.out; omega))
      go_wp2_with (go_at_call 210; go_must (refine (CS.out).mono ?_); rintro e w1 ⟨rfl, -, hbel, -⟩; have HBE := Fact.mk hbel; clear hbel)
      have k1 : Keep (fun i => i < w.heap.size + 1) wr w1 := ⟨HBE.out.os, HBE.out.tape, HBE.out.output, HBE.out.size, fun i _ hi => HBE.out.block i hi⟩
      go_ret
      exact ⟨by rw [← HL.out]; rfl, hkp.out.then_ k1 fun i hi _ => by omega⟩
end Go.Proofs.YtddmbdigdnmfgaaGreatDoor

/- base.Path. -/
namespace Go.Proofs.YtddmbdigdnmfgaaGreatDoor
open Go.RowKit
set_option maxHeartbeats 1000000
set_option maxRecDepth 100000

theorem lettersP_len : ∀ (bs : List UInt8) (a s : Nat) (o : List UInt8), (bs.foldl letStep (a, s, o)).2.2.length ≤ o.length + 3 * bs.length
  | [], a, s, o => by simp
  | x :: r, a, s, o => by
    rw [List.foldl_cons]
    obtain ⟨a', s', o', h⟩ : ∃ a' s' o', letStep (a, s, o) x = (a', s', o') := ⟨_, _, _, rfl⟩
    have h1 : o'.length ≤ o.length + 3 := by
      have := letIn_len 3 (a ||| (x.toNat * 2 ^ s % 4294967296)) (s + 8) o
      have h2 : letIn 3 (a ||| (x.toNat * 2 ^ s % 4294967296)) (s + 8) o = (a', s', o') := h
      rw [h2] at this
      exact this
    rw [h]
    have := lettersP_len r a' s' o'
    simp only [List.length_cons]
    omega
/-- A path's cells: a hash, a name. -/
def pathCells (bs : List UInt8) (nm : ByteArray) : List Value := bs.map u8v ++ [.string nm]
noncomputable def pathP (bs : List UInt8) (nm : ByteArray) : Option ByteArray := if nameP nm = true then some (⟨(lettersP bs).toArray⟩ ++ ⟨#[45]⟩ ++ nm) else none
def PathOut (o : Option ByteArray) (e : Ending) : Prop := match o with
  | some s => e = .returned (.tuple #[.string s, .int .i64 0])
  | none => e = .returned (.tuple #[.string ⟨#[]⟩, .int .i64 2])
theorem path213 (w : World) (bs : List UInt8) (nm : ByteArray) (hb : bs.length = 20) : Calls Tryz.prog 213 #[.agg (pathCells bs nm).toArray] w fun e w' =>
    PathOut (pathP bs nm) e ∧ Keep All w w' := by
  obtain ⟨cs, hcs⟩ : ∃ cs, cs = pathCells bs nm := ⟨_, rfl⟩
  rw [← hcs]
  obtain ⟨W, hW⟩ : ∃ X, X = w.alloc (.cells cs.toArray 50) := ⟨_, rfl⟩
  have KW : Fact (Keep All w W) := ⟨hW ▸ (Keep.refl _ w).alloc _⟩
  have BW : Fact (Blk W w.heap.size cs 50) := ⟨hW ▸ Blk.new w cs 50⟩
  have c20 : W.cell? ⟨w.heap.size, 20, none⟩ = some (.string nm) := BW.out.cell 20 _ (by rw [hcs, pathCells, List.getElem?_append_right (by simp [hb])]; simp [hb])
  have hrg : Fact (∀ w', Keep All W w' → w'.rangeAt w.heap.size 0 (bs.map u8v)) := ⟨fun w' hk j v hv => by
    rw [Nat.zero_add]
    refine (BW.out.keep hk trivial).cell j v ?_
    have hj := (List.getElem?_eq_some_iff.1 hv).1
    rw [hcs, pathCells, List.getElem?_append_left hj]
    exact hv⟩
  obtain ⟨q, hq⟩ : ∃ q, q = nameP nm := ⟨_, rfl⟩
  have C110 : Fact (Calls Tryz.prog 110 #[.string nm] W fun e w' => e = .returned (.bool q) ∧ Keep All W w') := ⟨hq ▸ nameAny110 W nm⟩
  have HBL := Fact.mk hb
  have HW := Fact.mk hW
  have HQ := Fact.mk hq
  clear hcs hW hb hq
  cases q with
  | false =>
    have HF : Fact (pathP bs nm = none) := ⟨by rw [pathP, if_neg (by rw [← HQ.out]; simp)]⟩
    go_enter Tryz.func213, Tryz.ntmps213
    go_wp2_with (first
      | (refine Great.wpList_boxTo rfl 50 (.tmp 0) rfl (some 1) rfl w.heap.size rfl cs.toArray rfl ?_; rw [← HW.out])
      | (go_at_call 110; go_must (refine (C110.out).mono ?_); rintro e w1 ⟨rfl, hk⟩; have K1 := Fact.mk hk; clear hk))
    go_ret2
    rw [HF.out]
    exact ⟨rfl, KW.out.trans K1.out⟩
  | true =>
    have HF : Fact (pathP bs nm = some (⟨(lettersP bs).toArray⟩ ++ ⟨#[45]⟩ ++ nm)) := ⟨by rw [pathP, if_pos HQ.out.symm]⟩
    go_enter Tryz.func213, Tryz.ntmps213
    go_upto_region 3 with (first
      | (refine Great.wpList_boxTo rfl 50 (.tmp 0) rfl (some 1) rfl w.heap.size rfl cs.toArray rfl ?_; rw [← HW.out])
      | (go_at_call 110; go_must (refine (C110.out).mono ?_); rintro e w1 ⟨rfl, hk⟩; have K1 := Fact.mk hk; clear hk))
    have c20' := K1.out.drew.cell (p := ⟨w.heap.size, 20, none⟩) trivial c20
    have hr1 := hrg.out _ K1.out.drew
    refine wp_region_T 99 (fun w' => w'.cell? ⟨w.heap.size, 20, none⟩ = some (.string nm) ∧ w'.rangeAt w.heap.size 0 (bs.map u8v)) (by kernel_rfl) (by exact ⟨c20', hr1⟩) (fun hHeld => ?_)
    refine takeH (i := 0) (v := ?_) rfl (by kernel_rfl) (by kernel_rfl) (by kernel_rfl) rfl (fun _ _ _ h => h) rfl ?_ (by assumption) ?_
    rotate_left
    · (intro w hSw; (try dsimp only at hSw); go_simp; try with_reducible rfl)
    try simp only [Act.put, List.setIfInBounds_toArray, List.set_cons_zero, List.set_cons_succ]
    refine takeH (i := 1) (v := .agg (bs.map u8v).toArray) rfl (by kernel_rfl) (by kernel_rfl) (by kernel_rfl) rfl (fun _ _ _ h => h) rfl ?_ (by assumption) ?_
    · intro w2 hSw
      unfold execOp
      simp only [Instr.loadAt, Instr.sureAddr, Sem.run_bind, Sem.run_pure, Act.eval]
      exact congrArg (fun r => Result.andThen r fun v w => Result.ok (Next.value v) w) (run_loadVar_mid w2 w.heap.size 0 48 (bs.map u8v) _ hSw.2 Tryz.underlying48 rfl (by rw [List.length_map, HBL.out]; kernel_rfl))
    try simp only [Act.put, List.setIfInBounds_toArray, List.set_cons_zero, List.set_cons_succ]
    refine takeH (i := 4) (v := ?_) rfl (by kernel_rfl) (by kernel_rfl) (by kernel_rfl) rfl (fun _ _ _ h => h) rfl ?_ (by assumption) ?_
    rotate_left
    · (intro w hSw; (try dsimp only at hSw); go_simp; try with_reducible rfl)
    try simp only [Act.put, List.setIfInBounds_toArray, List.set_cons_zero, List.set_cons_succ]
    refine takeH (i := 5) (v := ?_) rfl (by kernel_rfl) (by kernel_rfl) (by kernel_rfl) rfl (fun _ _ _ h => h) rfl ?_ (by assumption) ?_
    rotate_left
    · (intro w hSw; (try dsimp only at hSw); go_simp; try with_reducible rfl)
    try simp only [Act.put, List.setIfInBounds_toArray, List.set_cons_zero, List.set_cons_succ]
    refine nextT (i := 2) (by kernel_rfl) rfl (fun K hK => ?_)
    go_simp
    refine (letters235 w1.drew bs HBL.out).mono ?_
    rintro e w2 ⟨rfl, hk⟩
    have K2 := Fact.mk (K1.out.trans ((Keep.refl _ w1).drew.trans hk))
    have c21 := hk.cell (p := ⟨w.heap.size, 20, none⟩) trivial c20'
    have hr2 := hrg.out _ K2.out
    obtain ⟨lt, hlt⟩ : ∃ q : ByteArray, q = ⟨(lettersP bs).toArray⟩ := ⟨_, rfl⟩
    have hls : lt.size ≤ 60 := by
      have := lettersP_len bs 0 0 []
      rw [HBL.out] at this
      rw [hlt]
      simpa [ByteArray.size, lettersP] using this
    have hns : nm.size ≤ 24 := (nameP_iff.1 HQ.out.symm).2.1
    have hl1 : ¬ 9223372036854775807 < lt.size + 1 := by omega
    have hl2 : ¬ 9223372036854775807 < lt.size + 1 + nm.size := by omega
    rw [← hlt] at HF ⊢
    clear hk hHeld c20' hr1 c20 hlt
    refine hK.out _ _ (by exact ⟨c21, hr2⟩) (fun hHeld => ?_)
    clear hK K
    try simp only [Act.put, List.setIfInBounds_toArray, List.set_cons_zero, List.set_cons_succ]
    refine takeH (i := 3) (v := ?_) rfl (by kernel_rfl) (by kernel_rfl) (by kernel_rfl) rfl (fun _ _ _ h => h) rfl ?_ (by assumption) ?_
    rotate_left
    · (intro w hSw; (try dsimp only at hSw); go_simp; try with_reducible rfl)
    try simp only [Act.put, List.setIfInBounds_toArray, List.set_cons_zero, List.set_cons_succ]
    refine takeH (i := 6) (v := ?_) rfl (by kernel_rfl) (by kernel_rfl) (by kernel_rfl) rfl (fun _ _ _ h => h) rfl ?_ (by assumption) ?_
    rotate_left
    · (intro w hSw; (try dsimp only at hSw); go_simp; try with_reducible rfl)
    try simp only [Act.put, List.setIfInBounds_toArray, List.set_cons_zero, List.set_cons_succ]
    refine nextT (i := 7) (by kernel_rfl) rfl (fun K hK => ?_)
    go_simp
    refine hK.out _ _ (by exact ⟨c21, hr2⟩) (fun hHeld => ?_)
    clear hK K
    try simp only [Act.put, List.setIfInBounds_toArray, List.set_cons_zero, List.set_cons_succ]
    refine nextT (i := 8) (by kernel_rfl) rfl (fun K hK => ?_)
    go_simp
    refine hK.out _ _ (by exact ⟨c21, hr2⟩) (fun hHeld => ⟨by kernel_rfl, ?_⟩)
    clear hK K
    try simp only [Act.put, List.setIfInBounds_toArray, List.set_cons_zero, List.set_cons_succ]
    go_wp2
    go_ret2
    rw [HF.out]
    exact ⟨rfl, KW.out.trans K2.out⟩
end Go.Proofs.YtddmbdigdnmfgaaGreatDoor

/- named of the builder: a path's text goes onto the pile. -/
namespace Go.Proofs.YtddmbdigdnmfgaaGreatDoor
open Go.RowKit
set_option maxHeartbeats 1000000
set_option maxRecDepth 100000

theorem wpList_conv923 {w : World} {ops : Array Oper} {rest : List Oper} {o : Oper} {a : Act} {Q : Exit → Act → World → Prop} (hgd : o.guard = none) (s : Operand) (t : ByteArray) (ho : o.op = .convert 9 23 s) (hs : a.eval s = .string t) (ht : t.size ≤ 4611686018427387904)
    (h : ∀ c w', By w' (fun i => i = w.heap.size) (.slice (some ⟨w.heap.size, 0, none⟩) t.data.toList.length c) t.data.toList → Keep All w w' → w.heap.size < w'.heap.size → wpList Tryz.prog ops Q rest (a.put o.dst (.slice (some ⟨w.heap.size, 0, none⟩) t.data.toList.length c)) w') : wpList Tryz.prog ops Q (o :: rest) a w :=
  wpList_plain hgd fun _ hK => wp_conv923 s t ho hs ht fun c w' h1 h2 h3 => hK _ _ (h c w' h1 h2 h3)
noncomputable def namedR (pile : List PNode) (bs : List UInt8) (nm : ByteArray) (at_ : Nat) : Option (List PNode × Nat × Nat) := match pathP bs nm with
  | some s => putR pile [.mk 1 s.data.toList []] at_
  | none => none
theorem pathP_size {bs : List UInt8} {nm s : ByteArray} (hb : bs.length = 20) (h : pathP bs nm = some s) : s.size ≤ 85 := by
  unfold pathP at h
  split at h
  · rename_i hn
    have hns := (nameP_iff.1 hn).2.1
    have hl := lettersP_len bs 0 0 []
    cases h
    rw [ByteArray.size_append, ByteArray.size_append]
    have h1 : (⟨(lettersP bs).toArray⟩ : ByteArray).size = (lettersP bs).length := by simp [ByteArray.size]
    have h2 : (⟨#[45]⟩ : ByteArray).size = 1 := rfl
    rw [h1, h2]
    unfold lettersP
    simp only [List.length_nil] at hl
    omega
  · cases h
section
variable (w : World) (p base used fuel at_ : Nat) (ov pv : Value) (rest : List Value)
theorem named178g (pile : List PNode) (bs : List UInt8) (nm : ByteArray) (h : BSt w p base used fuel at_ ov rest pile pv) (hb : bs.length = 20) :
    Calls Tryz.prog 178 #[.pointer (some ⟨p, 0, none⟩), .agg (pathCells bs nm).toArray] w (OpOut (Gp p pv) w p base used fuel ov rest (namedR pile bs nm at_)) := by
  have H := Fact.mk h
  obtain ⟨cs, hcs⟩ : ∃ cs, cs = pathCells bs nm := ⟨_, rfl⟩
  rw [← hcs]
  have hcl : cs.length = 21 := by rw [hcs, pathCells, List.length_append, List.length_map, hb]; rfl
  obtain ⟨W, hW⟩ : ∃ X, X = w.alloc (.cells cs.toArray 50) := ⟨_, rfl⟩
  have KW : Fact (Keep All w W) := ⟨hW ▸ (Keep.refl _ w).alloc _⟩
  have BW : Fact (Blk W w.heap.size cs 50) := ⟨hW ▸ Blk.new w cs 50⟩
  have HW := Fact.mk hW
  have HCL := Fact.mk hcl
  have HBL := Fact.mk hb
  have C213 : Fact (Calls Tryz.prog 213 #[.agg cs.toArray] W fun e w' => PathOut (pathP bs nm) e ∧ Keep All W w') := ⟨hcs ▸ path213 W bs nm hb⟩
  clear h hcs hcl hW hb
  rcases hp : pathP bs nm with _ | s
  · have HP := Fact.mk hp
    have HF : Fact (namedR pile bs nm at_ = none) := ⟨by rw [namedR, hp]⟩
    clear hp
    go_enter Tryz.func178, Tryz.ntmps178
    go_wp2_with (first
      | (refine Great.wpList_boxTo rfl 50 (.tmp 1) rfl (some 3) rfl w.heap.size rfl cs.toArray rfl ?_; rw [← HW.out])
      | (refine wpList_load_mid rfl 50 (.tmp 3) rfl w.heap.size 0 ?hx cs _ ?hc Tryz.underlying50 ?hd ?hi ?hrest
         case hx => go_must (rfl)
         case hc => go_must (exact range_of BW.out)
         case hd => go_must (rfl)
         case hi => go_must (rw [HCL.out]; kernel_rfl))
      | (go_at_call 213; go_must (refine (C213.out).mono ?_); rintro e w1 ⟨he, hk⟩; rw [HP.out] at he; unfold PathOut at he; subst he; have K1 := Fact.mk hk; clear hk)
      | (go_at_call 111; go_must (refine (must111_not _).mono ?_); rintro e v ⟨he, rfl⟩; unfold errFail at he; subst he))
    refine ⟨rfl, ?_⟩
    rw [HF.out]
    exact opout_fail (Blk.keep H.out.blk (KW.out.trans K1.out) trivial) (KW.out.trans K1.out).all
  · have HP := Fact.mk hp
    have HF : Fact (namedR pile bs nm at_ = putR pile [.mk 1 s.data.toList []] at_) := ⟨by rw [namedR, hp]⟩
    have hsz := pathP_size HBL.out hp
    have HSZ := Fact.mk hsz
    clear hp hsz
    go_enter Tryz.func178, Tryz.ntmps178
    go_upto_region 2 with (first
      | (refine Great.wpList_boxTo rfl 50 (.tmp 1) rfl (some 3) rfl w.heap.size rfl cs.toArray rfl ?_; rw [← HW.out])
      | (refine wpList_load_mid rfl 50 (.tmp 3) rfl w.heap.size 0 ?gx cs _ ?gc Tryz.underlying50 ?gd ?gi ?grest
         case gx => go_must (rfl)
         case gc => go_must (exact range_of BW.out)
         case gd => go_must (rfl)
         case gi => go_must (rw [HCL.out]; kernel_rfl))
      | (go_at_call 213; go_must (refine (C213.out).mono ?_); rintro e w1 ⟨he, hk⟩; rw [HP.out] at he; unfold PathOut at he; subst he; have K1 := Fact.mk hk; clear hk))
    clear C213
    go_wp2_with (first
      | (go_at_call 111; go_must (refine (must111 _).mono ?_); rintro e v ⟨rfl, rfl⟩)
      | (refine wpList_conv923 rfl (.tmp 17) s rfl rfl (Nat.le_trans HSZ.out (by decide)) ?_
         intro c2 w2 hby hk2 hlt2
         have HY := Fact.mk hby
         have K2 := Fact.mk hk2
         clear hby hk2)
      | (go_at_call 168; go_must (refine (leaf168g _ p base used fuel at_ ov pv rest (fun i => i = w1.heap.size) pile 1 s.data.toList _ c2 (H.out.keep ((KW.out.trans K1.out).trans K2.out)) HY.out (Small.of (by rw [Array.length_toList]; exact Nat.le_trans HSZ.out (by decide)))).mono ?_); intro e w3 hq; have HQ := Fact.mk hq; clear hq))
    all_goals rw [HF.out]
    · go_end0
      exact (HQ.out.from_ ((KW.out.trans K1.out).trans K2.out).all fun _ h => h).ret
    · exact ⟨rfl, HQ.out.from_ ((KW.out.trans K1.out).trans K2.out).all fun _ h => h⟩
    · exact HQ.out.no.elim
end
end Go.Proofs.YtddmbdigdnmfgaaGreatDoor

/- own of the builder: the system's name. -/
namespace Go.Proofs.YtddmbdigdnmfgaaGreatDoor
open Go.RowKit
set_option maxHeartbeats 1000000
set_option maxRecDepth 100000

section
variable (w : World) (p base used fuel at_ : Nat) (ov pv : Value)
theorem own116_10g (pile : List PNode) (on om : Int) (tl : Nat) (tA : Option Addr) (tc : Nat) (bs : List UInt8) (nm : ByteArray) (mv : Value) (hb : bs.length = 20) (h : BSt w p base used fuel at_ ov (pathCells bs nm ++ [mv]) pile pv) : Calls Tryz.prog 116 #[.pointer (some ⟨p, 0, none⟩), .agg #[.int .i64 10, .int .i64 on, .int .i64 om, .slice tA tl tc]] w (OpOut (Kb base p) w p base used fuel ov (pathCells bs nm ++ [mv]) (namedR pile bs nm at_)) := by
  obtain ⟨rs, hrs⟩ : ∃ r, r = pathCells bs nm ++ [mv] := ⟨_, rfl⟩
  rw [← hrs] at h ⊢
  have H := Fact.mk h
  obtain ⟨W, hW⟩ : ∃ X, X = w.alloc (.cells #[.int .i64 10, .int .i64 on, .int .i64 om, .slice tA tl tc] 25) := ⟨_, rfl⟩
  have KB : Fact (Keep All w W) := ⟨hW ▸ (Keep.refl _ w).alloc _⟩
  have HOB : Fact (Blk W w.heap.size [.int .i64 10, .int .i64 on, .int .i64 om, .slice tA tl tc] 25) := ⟨hW ▸ Blk.new w _ 25⟩
  have HW := Fact.mk hW
  obtain ⟨cs, hcs⟩ : ∃ cs, cs = pathCells bs nm := ⟨_, rfl⟩
  have hcl : cs.length = 21 := by rw [hcs, pathCells, List.length_append, List.length_map, hb]; rfl
  have HCL := Fact.mk hcl
  have HRG : Fact (W.rangeAt p 5 cs) := ⟨fun j v hv => by
    refine Blk.cell (Blk.keep h.blk KB.out trivial) (5 + j) v ?_
    have hj := (List.getElem?_eq_some_iff.1 hv).1
    rw [List.getElem?_append_right (by simp), List.length_cons, List.length_cons, List.length_cons, List.length_cons, List.length_cons, List.length_nil, show 5 + j - (0 + 1 + 1 + 1 + 1 + 1) = j by omega, hrs, List.getElem?_append_left (by rw [← hcs]; exact hj), ← hcs]
    exact hv⟩
  have hlt := Blk.lt h.blk
  have CN : Fact (Calls Tryz.prog 178 #[.pointer (some ⟨p, 0, none⟩), .agg cs.toArray] W (OpOut (Gp p pv) W p base used fuel ov rs (namedR pile bs nm at_))) := ⟨hcs ▸ named178g W p base used fuel at_ ov pv rs pile bs nm (h.keep KB.out) hb⟩
  obtain ⟨RR, hRR⟩ : ∃ q, q = namedR pile bs nm at_ := ⟨_, rfl⟩
  rw [← hRR] at CN ⊢
  clear h hcs hcl hW hb hRR hrs
  go_enter Tryz.func116, Tryz.ntmps116
  go_upto_region 2 with (fail)
  rw [← HW.out]
  go_wp2_with (first
    | (refine wpList_load_mid rfl 50 (.tmp 9) rfl p 5 ?hx cs _ ?hc Tryz.underlying50 ?hd ?hi ?hrest
       case hx => go_must (rfl)
       case hc => go_must (exact HRG.out)
       case hd => go_must (rfl)
       case hi => go_must (rw [HCL.out]; kernel_rfl))
    | (go_at_call 178; go_must (refine (CN.out).mono ?_); intro e w2 hq; have HQ := Fact.mk hq; clear hq))
  · go_end0
    exact (HQ.out.from_ (K' := Kb base p) KB.out.all H.out.kb).ret
  · exact ⟨rfl, HQ.out.from_ (K' := Kb base p) KB.out.all H.out.kb⟩
  · exact HQ.out.no.elim
end
end Go.Proofs.YtddmbdigdnmfgaaGreatDoor

/- Maps whose keys are texts: what is looked up, one entry more. -/
namespace Go.Proofs.YtddmbdigdnmfgaaGreatDoor
open Go.RowKit
set_option maxHeartbeats 1000000
set_option maxRecDepth 100000

/-- The entries of a map, in their order. -/
def MapS (w : World) (bm : Nat) (L : List (ByteArray × Value)) : Prop := ∃ es clock, w.heap[bm]? = some (.map es clock) ∧ es.toList.map (fun e => (e.key, e.val)) = L.map fun p => (Value.string p.1, p.2)
def lookI : List (ByteArray × Value) → ByteArray → Nat → Option (Nat × Value)
  | [], _, _ => none
  | (k, v) :: r, s, i => if s == k then some (i, v) else lookI r s (i + 1)
def lookS (L : List (ByteArray × Value)) (s : ByteArray) : Option Value := (lookI L s 0).map Prod.snd
theorem findNow_S (s : ByteArray) : ∀ (l : List MapEntry) (L : List (ByteArray × Value)) (i : Nat), l.map (fun e => (e.key, e.val)) = L.map (fun p => (Value.string p.1, p.2)) → Instr.findNow .string (.string s) l i = some (lookI L s i)
  | [], [], i, _ => rfl
  | [], _ :: _, i, h => by simp at h
  | _ :: _, [], i, h => by simp at h
  | e :: r, (k, v) :: R, i, h => by
    simp only [List.map_cons, List.cons.injEq, Prod.mk.injEq] at h
    obtain ⟨⟨h1, h2⟩, h3⟩ := h
    have ih := findNow_S s r R (i + 1) h3
    rw [Instr.findNow, h1, lookI]
    simp only [Instr.sameNow]
    cases hq : s == k with
    | true => simp [h2]
    | false => simp [ih]
theorem MapS.keep {w w' : World} {G : Nat → Prop} {bm : Nat} {L : List (ByteArray × Value)} (h : MapS w bm L) (k : Keep G w w') (hb : G bm) : MapS w' bm L := by
  obtain ⟨es, clock, h1, h2⟩ := h
  exact ⟨es, clock, k.heap hb h1, h2⟩
theorem checkKey_S {P : Program} {w : World} {kt : TypeId} (b : Bool) (n : Nat) (s : ByteArray) (hk : P.underlying kt = some .string) : (Instr.checkKey b (n + 1) kt (.string s)).run P w = .ok () w := by
  rw [Instr.checkKey]
  simp [run_underlying hk]
theorem run_lookupS {P : Program} {w : World} {t kt et : TypeId} {bm : Nat} {L : List (ByteArray × Value)} (h : MapS w bm L) (s : ByteArray) (zero : Value) (ht : P.underlying t = some (.map kt et)) (hk : P.underlying kt = some .string) (hz : (zeroValue et).run P w = .ok zero w) :
    (Instr.lookup t (.map (some bm)) (.string s) true).run P w = .ok (.tuple #[(lookS L s).getD zero, .bool (lookS L s).isSome]) w := by
  obtain ⟨es, clock, h1, h2⟩ := h
  have hf := findNow_S s es.toList L 0 h2
  have hgo : (getObj bm).run P w = .ok (.map es clock) w := by
    simp only [getObj, Sem.run, h1]
  have hck : ∀ b, (Instr.checkKey b 10000 kt (.string s)).run P w = .ok () w := fun b => checkKey_S b 9999 s hk
  cases hl : lookI L s 0 with
  | none => simp [Instr.lookup, run_underlying ht, run_underlying hk, hck, Instr.findKey, hgo, hf, hl, lookS, hz]
  | some q => simp [Instr.lookup, run_underlying ht, run_underlying hk, hck, Instr.findKey, hgo, hf, hl, lookS]
/-- A new key. -/
theorem run_updateS {P : Program} {w : World} {t kt et : TypeId} {bm : Nat} {L : List (ByteArray × Value)} (h : MapS w bm L) (s : ByteArray) (v : Value) (ht : P.underlying t = some (.map kt et)) (hk : P.underlying kt = some .string) (hl : lookI L s 0 = none) :
    ∃ w', (Instr.mapUpdate t (.map (some bm)) (.string s) v).run P w = .ok () w' ∧ MapS w' bm (L ++ [(s, v)]) ∧ Keep (fun i => i ≠ bm) w w' := by
  obtain ⟨es, clock, h1, h2⟩ := h
  have hf := findNow_S s es.toList L 0 h2
  have hck : ∀ b, (Instr.checkKey b 10000 kt (.string s)).run P w = .ok () w := fun b => checkKey_S b 9999 s hk
  refine ⟨{ w with heap := w.heap.setIfInBounds bm (.map (es.push { key := .string s, val := v, born := clock }) (clock + 1)) }, ?_, ?_, ?_⟩
  · simp [Instr.mapUpdate, run_underlying ht, run_underlying hk, MapKept.run_getObj_map h1, hck, Instr.findKey, hf, hl, MapKept.run_setObj_map _ h1]
  · refine ⟨_, _, (MapKept.heap_set h1).1, ?_⟩
    simp only [Array.toList_push, List.map_append, h2]
    rfl
  · exact ⟨rfl, rfl, rfl, by simp, fun i _ hi => (MapKept.heap_set h1).2 i hi⟩
end Go.Proofs.YtddmbdigdnmfgaaGreatDoor

/- input of the builder: what the map holds by a name. -/
namespace Go.Proofs.YtddmbdigdnmfgaaGreatDoor
open Go.RowKit
set_option maxHeartbeats 1000000
set_option maxRecDepth 100000

def zero66 : List Value := .string ⟨#[]⟩ :: (List.replicate 20 (.int .u8 0) ++ [.string ⟨#[]⟩, .int .i64 0, .slice none 0 0, .slice none 0 0])
theorem zero66_run (w : World) : (zeroValue 66).run Tryz.prog w = .ok (.agg zero66.toArray) w := by kernel_rfl
theorem under134 : ∃ k, Tryz.prog.underlying 134 = some (.map k 66) ∧ Tryz.prog.underlying k = some .string := ⟨9, by kernel_rfl, Tryz.underlying9⟩
theorem wp_alloc66 {w : World} {o : Oper} {a : Act} {K : Act → World → Prop} {Q : Exit → Act → World → Prop} (ho : o.op = .alloc 66)
    (h : K (a.put o.dst (.pointer (some ⟨w.heap.size, 0, none⟩))) (w.alloc (.cells zero66.toArray 66))) : o.wp Tryz.prog a w K Q := by
  unfold Oper.wp execOp
  simp only [ho, Sem.run_bind, Instr.alloc, zero66_run, newVar, newRow, run_newObj_alloc, Sem.run_pure, Result.andThen_ok]
  exact h
theorem wpList_alloc66 {w : World} {ops : Array Oper} {rest : List Oper} {o : Oper} {a : Act} {Q : Exit → Act → World → Prop} (hg : o.guard = none) (ho : o.op = .alloc 66)
    (h : wpList Tryz.prog ops Q rest (a.put o.dst (.pointer (some ⟨w.heap.size, 0, none⟩))) (w.alloc (.cells zero66.toArray 66))) : wpList Tryz.prog ops Q (o :: rest) a w :=
  wpList_plain hg fun _ hK => wp_alloc66 ho (hK _ _ h)
theorem zero66_len : zero66.length = 25 := rfl
theorem there_new {w : World} {g : Nat} {cs : List Value} {T : TypeId} (h : Blk w g cs T) (n : Nat) (hn : n ≤ cs.length) : w.there g 0 n := fun j hj => by
  rw [Nat.zero_add]
  exact ⟨by rw [h.cell j _ (List.getElem?_eq_getElem (show j < cs.length by omega))]; rfl, h.free j⟩
theorem Keep.setCellsK {G : Nat → Prop} {a : World} (b : Nat) : ∀ (vs : List Value) (o : Nat) {w : World}, Keep G a w → (a.heap.size ≤ b ∨ ¬ G b) → Keep G a (w.setCells b o vs)
  | [], o, w, h, _ => h
  | v :: r, o, w, h, hg => by
    rw [World.setCells]
    exact Keep.setCellsK b r (o + 1) (h.setCell (p := ⟨b, o, none⟩) hg v) hg
theorem results_66 {fn : Func} {p : Tmp} (h : fn.results = #[.cell p 66]) (tmps : Array Value) (w : World) (g : Nat) (cs : List Value) (hp : tmps.getD p undef = .pointer (some ⟨g, 0, none⟩)) (hr : w.rangeAt g 0 cs) (hl : cs.length = 25) : (results fn tmps).run Tryz.prog w = .ok (.agg cs.toArray) w := by
  have hp' : tmps[p]?.getD undef = .pointer (some ⟨g, 0, none⟩) := by simpa using hp
  have hu : ∃ d, Tryz.prog.underlying 66 = some d ∧ d.isRow = true := ⟨_, Tryz.underlying66, rfl⟩
  obtain ⟨d, hd, hrow⟩ := hu
  simp [results, h, hp', asAddr, run_loadVar_mid w g 0 66 cs d hr hd hrow (by rw [hl]; kernel_rfl)]
def FoundV (L : List (ByteArray × Value)) (s : ByteArray) (e : Ending) : Prop := match lookS L s with
  | some v => e = .returned v
  | none => e = errFail
theorem input177 (w : World) (Gt : Nat → Prop) (p bm : Nat) (L : List (ByteArray × Value)) (l : List UInt8) (tA : Option Addr) (tc : Nat) (hc : w.cell? ⟨p, 26, none⟩ = some (.map (some bm))) (hm : MapS w bm L)
    (hL : ∀ v, lookS L ⟨l.toArray⟩ = some v → ∃ cs : List Value, v = .agg cs.toArray ∧ cs.length = 25 ∧ ∀ u ∈ cs, u.oneCell' = true) (ht : By w Gt (.slice tA l.length tc) l) :
    Calls Tryz.prog 177 #[.pointer (some ⟨p, 0, none⟩), .slice tA l.length tc] w fun e w' => FoundV L ⟨l.toArray⟩ e ∧ Keep All w w' := by
  obtain ⟨cv, f, hcv, hfl, hcl, hc1⟩ : ∃ (cv : List Value) (f : Bool), (lookS L ⟨l.toArray⟩).getD (.agg zero66.toArray) = .agg cv.toArray ∧ (lookS L ⟨l.toArray⟩).isSome = f ∧ cv.length = 25 ∧ ∀ u ∈ cv, u.oneCell' = true := by
    cases hl : lookS L ⟨l.toArray⟩ with
    | none => exact ⟨zero66, false, rfl, rfl, rfl, by decide⟩
    | some v =>
      obtain ⟨cs, rfl, h1, h2⟩ := hL v hl
      exact ⟨cs, true, rfl, rfl, h1, h2⟩
  have HFV : Fact (∀ e, (if f = true then e = .returned (.agg cv.toArray) else e = errFail) → FoundV L ⟨l.toArray⟩ e) := ⟨fun e he => by
    unfold FoundV
    cases hl : lookS L ⟨l.toArray⟩ with
    | none => rw [hl] at hfl; rw [← hfl] at he; exact he
    | some v => rw [hl] at hfl hcv; rw [← hfl] at he; have he' : e = .returned (.agg cv.toArray) := he; rw [he', ← hcv]; rfl⟩
  obtain ⟨W, hW⟩ : ∃ X, X = w.alloc (.cells zero66.toArray 66) := ⟨_, rfl⟩
  have KW : Fact (Keep All w W) := ⟨hW ▸ (Keep.refl _ w).alloc _⟩
  have B4 : Fact (Blk W w.heap.size zero66 66) := ⟨hW ▸ Blk.new w zero66 66⟩
  have HW := Fact.mk hW
  have hp26 := KW.out.cell (p := ⟨p, 26, none⟩) trivial hc
  have hms := hm.keep KW.out trivial
  have hby := ht.keep KW.out.all
  have HCL := Fact.mk hcl
  have HC1 := Fact.mk hc1
  obtain ⟨ts, hts⟩ : ∃ q : ByteArray, q = ⟨l.toArray⟩ := ⟨_, rfl⟩
  have HTS := Fact.mk hts
  rw [← hts] at hcv hfl
  have HCV := Fact.mk hcv
  have HFL := Fact.mk hfl
  clear hW hL ht hm hc hcl hc1 hcv hfl hts
  go_enter Tryz.func177, Tryz.ntmps177
  go_upto_region 1 with (first
    | (refine wpList_alloc66 rfl rfl ?_; rw [← HW.out]))
  have S1 : Fact (∀ w', Keep All W w' → w'.cell? ⟨p, 26, none⟩ = some (.map (some bm)) ∧ MapS w' bm L ∧ By w' Gt (.slice tA l.length tc) l) := ⟨fun w' hk => ⟨hk.cell (p := ⟨p, 26, none⟩) trivial hp26, hms.keep hk trivial, hby.keep hk.all⟩⟩
  clear hp26 hms hby
  refine wp_region_T 99 (fun w' => w'.cell? ⟨p, 26, none⟩ = some (.map (some bm)) ∧ MapS w' bm L ∧ By w' Gt (.slice tA l.length tc) l) (by kernel_rfl) (by exact S1.out _ (Keep.refl _ W).drew) (fun hHeld => ?_)
  refine takeH (i := 0) (v := ?_) rfl (by kernel_rfl) (by kernel_rfl) (by kernel_rfl) rfl (fun _ _ _ h => h) rfl ?_ (by assumption) ?_
  rotate_left
  · (intro w hSw; (try dsimp only at hSw); go_simp; try with_reducible rfl)
  try simp only [Act.put, List.setIfInBounds_toArray, List.set_cons_zero, List.set_cons_succ]
  refine takeH (i := 1) (v := ?_) rfl (by kernel_rfl) (by kernel_rfl) (by kernel_rfl) rfl (fun _ _ _ h => h) rfl ?_ (by assumption) ?_
  rotate_left
  · (intro w hSw; (try dsimp only at hSw); go_simp; try with_reducible rfl)
  try simp only [Act.put, List.setIfInBounds_toArray, List.set_cons_zero, List.set_cons_succ]
  refine takeH (i := 2) (v := ?_) rfl (by kernel_rfl) (by kernel_rfl) (by kernel_rfl) rfl (fun _ _ _ h => h) rfl ?_ (by assumption) ?_
  rotate_left
  · (intro w hSw; (try dsimp only at hSw); go_simp; try with_reducible rfl)
  try simp only [Act.put, List.setIfInBounds_toArray, List.set_cons_zero, List.set_cons_succ]
  refine takeH (i := 3) (v := ?_) rfl (by kernel_rfl) (by kernel_rfl) (by kernel_rfl) rfl (fun _ _ _ h => h) rfl ?_ (by assumption) ?_
  rotate_left
  · (intro w hSw; (try dsimp only at hSw); go_simp; try with_reducible rfl)
  try simp only [Act.put, List.setIfInBounds_toArray, List.set_cons_zero, List.set_cons_succ]
  refine takeH (i := 4) (v := ?_) rfl (by kernel_rfl) (by kernel_rfl) (by kernel_rfl) rfl (fun _ _ _ h => h) rfl ?_ (by assumption) ?_
  rotate_left
  · (intro w hSw; (try dsimp only at hSw); go_simp; try with_reducible rfl)
  try simp only [Act.put, List.setIfInBounds_toArray, List.set_cons_zero, List.set_cons_succ]
  refine takeH (i := 5) (v := ?_) rfl (by kernel_rfl) (by kernel_rfl) (by kernel_rfl) rfl (fun _ _ _ h => h) rfl ?_ (by assumption) ?_
  rotate_left
  · (intro w hSw; have hx5 := by_stringA hSw.2.2; rw [← HTS.out] at hx5; (try dsimp only at hSw); go_simp; try with_reducible rfl)
  try simp only [Act.put, List.setIfInBounds_toArray, List.set_cons_zero, List.set_cons_succ]
  refine takeH (i := 6) (v := ?_) rfl (by kernel_rfl) (by kernel_rfl) (by kernel_rfl) rfl (fun _ _ _ h => h) rfl ?_ (by assumption) ?_
  rotate_left
  · (intro w hSw; have hx6 := run_lookupS (P := Tryz.prog) (t := 134) (kt := 9) (et := 66) hSw.2.1 ts (.agg zero66.toArray) (by kernel_rfl) Tryz.underlying9 (zero66_run _); rw [HCV.out, HFL.out] at hx6; (try dsimp only at hSw); go_simp; try with_reducible rfl)
  try simp only [Act.put, List.setIfInBounds_toArray, List.set_cons_zero, List.set_cons_succ]
  refine takeH (i := 7) (v := ?_) rfl (by kernel_rfl) (by kernel_rfl) (by kernel_rfl) rfl (fun _ _ _ h => h) rfl ?_ (by assumption) ?_
  rotate_left
  · (intro w hSw; (try dsimp only at hSw); go_simp; try with_reducible rfl)
  try simp only [Act.put, List.setIfInBounds_toArray, List.set_cons_zero, List.set_cons_succ]
  refine takeH (i := 8) (v := ?_) rfl (by kernel_rfl) (by kernel_rfl) (by kernel_rfl) rfl (fun _ _ _ h => h) rfl ?_ (by assumption) ?_
  rotate_left
  · (intro w hSw; (try dsimp only at hSw); go_simp; try with_reducible rfl)
  try simp only [Act.put, List.setIfInBounds_toArray, List.set_cons_zero, List.set_cons_succ]
  refine takeH (i := 9) (v := ?_) rfl (by kernel_rfl) (by kernel_rfl) (by kernel_rfl) rfl (fun _ _ _ h => h) rfl ?_ (by assumption) ?_
  rotate_left
  · (intro w hSw; (try dsimp only at hSw); go_simp; try with_reducible rfl)
  try simp only [Act.put, List.setIfInBounds_toArray, List.set_cons_zero, List.set_cons_succ]
  clear hHeld
  refine nextT (i := 10) (by kernel_rfl) rfl (fun K hK => ?_)
  rw [if_pos (show Region.wanted _ _ = true by simp [Region.wanted])]
  refine wp_alloc66 rfl ?_
  obtain ⟨W1, hW1⟩ : ∃ X, X = W.drew.alloc (.cells zero66.toArray 66) := ⟨_, rfl⟩
  have K1 : Fact (Keep All W W1) := ⟨hW1 ▸ (Keep.refl _ W).drew.alloc _⟩
  have B5 : Fact (Blk W1 W.heap.size zero66 66) := ⟨hW1 ▸ Blk.new W.drew zero66 66⟩
  rw [← hW1]
  clear hW1
  refine hK.out _ _ (by exact S1.out _ K1.out) (fun hHeld => ?_)
  clear hK K
  try simp only [Act.put, List.setIfInBounds_toArray, List.set_cons_zero, List.set_cons_succ]
  refine nextT (i := 11) (by kernel_rfl) rfl (fun K hK => ?_)
  rw [if_pos (show Region.wanted _ _ = true by simp [Region.wanted])]
  simp only [World.size_drew]
  refine wp_store_mid 66 (.tmp 5) (.tmp 15) rfl W.heap.size 0 cv.toArray rfl rfl ?_ ?_ ?_ ?_
  · exact there_new B5.out _ (by simp [HCL.out, zero66_len])
  · rw [List.size_toArray, HCL.out]; kernel_rfl
  · rw [Array.all_eq_true_iff_forall_mem]
    intro u hu
    exact HC1.out u (by simpa using hu)
  obtain ⟨W2, hW2⟩ : ∃ X, X = W1.setCells W.heap.size 0 cv.toArray.toList := ⟨_, rfl⟩
  have K2 : Fact (Keep All W W2) := ⟨hW2 ▸ Keep.setCellsK _ _ _ K1.out (.inl (Nat.le_refl _))⟩
  have R2 : Fact (W2.rangeAt W.heap.size 0 cv) := ⟨by
    have := World.rangeAt_setCells_same W1 W.heap.size 0 cv (there_new B5.out _ (by simp [HCL.out, zero66_len]))
    rw [hW2]
    exact this⟩
  have B42 := Fact.mk (B4.out.keep K2.out trivial)
  rw [← hW2]
  clear hW2 hHeld
  refine hK.out _ _ (by exact S1.out _ K2.out) (fun hHeld => ?_)
  clear hK K
  try simp only [Act.put]
  refine nextT (i := 12) (by kernel_rfl) rfl (fun K hK => ?_)
  go_simp
  refine hK.out _ _ (by exact S1.out _ K2.out) (fun hHeld => ⟨by kernel_rfl, ?_⟩)
  clear hK K hHeld
  try simp only [Act.put, List.setIfInBounds_toArray, List.set_cons_zero, List.set_cons_succ]
  have hF := HFV.out
  cases f with
  | false =>
    have HF : Fact (FoundV L ⟨l.toArray⟩ errFail) := ⟨hF _ rfl⟩
    clear hF
    go_wp2_with (go_at_call 111; go_must (refine (must111_not _).mono ?_); rintro e v ⟨he, rfl⟩; unfold errFail at he; subst he)
    exact ⟨rfl, HF.out, KW.out.trans K2.out⟩
  | true =>
    have HF : Fact (FoundV L ⟨l.toArray⟩ (.returned (.agg cv.toArray))) := ⟨hF _ rfl⟩
    clear hF
    go_wp2_with (first
      | (go_at_call 111; go_must (refine (must111 _).mono ?_); rintro e v ⟨rfl, rfl⟩)
      | (refine wpList_load_mid rfl 66 (.tmp 5) rfl W.heap.size 0 ?hx cv _ ?hc Tryz.underlying66 ?hd ?hi ?hrest
         case hx => go_must (rfl)
         case hc => go_must (exact R2.out)
         case hd => go_must (rfl)
         case hi => go_must (rw [HCL.out]; kernel_rfl))
      | (refine wpList_store_mid rfl 66 (.tmp 4) (.tmp 19) rfl w.heap.size 0 cv.toArray rfl rfl ?sa ?sb ?sc ?sd
         case sa => go_must (exact there_new B42.out _ (by simp [HCL.out, zero66_len]))
         case sb => go_must (rw [List.size_toArray, HCL.out]; kernel_rfl)
         case sc => go_must (rw [Array.all_eq_true_iff_forall_mem]; intro u hu; exact HC1.out u (by simpa using hu))))
    refine bodyPost_ret (results_66 rfl _ _ w.heap.size cv rfl (World.rangeAt_setCells_same _ _ _ _ (there_new B42.out _ (by simp [HCL.out, zero66_len]))) HCL.out) rfl ?_
    exact ⟨HF.out, Keep.setCellsK _ _ _ (KW.out.trans K2.out) (.inl (Nat.le_refl _))⟩
end Go.Proofs.YtddmbdigdnmfgaaGreatDoor

/- own of the builder: an input's tree, an input's name. -/
namespace Go.Proofs.YtddmbdigdnmfgaaGreatDoor
open Go.RowKit
set_option maxHeartbeats 1000000
set_option maxRecDepth 100000

/-- An input's cells. -/
def inCells (s : ByteArray) (bs : List UInt8) (nm : ByteArray) (k : Int) (vb vk : Value) : List Value := .string s :: (pathCells bs nm ++ [.int .i64 k, vb, vk])
theorem field66_2 (W : World) (s nm : ByteArray) (bs : List UInt8) (k : Int) (vb vk : Value) (hb : bs.length = 20) : (Instr.field 66 (.agg (inCells s bs nm k vb vk).toArray) 2).run Tryz.prog W = .ok (.agg #[.int .i64 k, vb, vk]) W :=
  match bs, hb with
  | [b0, b1, b2, b3, b4, b5, b6, b7, b8, b9, b10, b11, b12, b13, b14, b15, b16, b17, b18, b19], _ => by kernel_rfl
theorem field66_1 (W : World) (s nm : ByteArray) (bs : List UInt8) (k : Int) (vb vk : Value) (hb : bs.length = 20) : (Instr.field 66 (.agg (inCells s bs nm k vb vk).toArray) 1).run Tryz.prog W = .ok (.agg (pathCells bs nm).toArray) W :=
  match bs, hb with
  | [b0, b1, b2, b3, b4, b5, b6, b7, b8, b9, b10, b11, b12, b13, b14, b15, b16, b17, b18, b19], _ => by kernel_rfl
theorem inCells_len (s nm : ByteArray) (bs : List UInt8) (k : Int) (vb vk : Value) (hb : bs.length = 20) : (inCells s bs nm k vb vk).length = 25 := by
  simp [inCells, pathCells, hb]
/-- An input as it is: its path, its tree. -/
structure PIn where
  bs : List UInt8
  nm : ByteArray
  x : PNode
/-- What the map holds reads as inputs. -/
def InR (w : World) (G : Nat → Prop) (L : List (ByteArray × Value)) (f : ByteArray → Option PIn) : Prop := ∀ s, match f s with
  | some i => ∃ t A c B d, lookS L s = some (.agg (inCells t i.bs i.nm i.x.kind (.slice A i.x.bytes.length c) (.slice B i.x.kids.length d)).toArray) ∧ i.bs.length = 20 ∧ RepN w G i.x (.slice A i.x.bytes.length c) (.slice B i.x.kids.length d)
  | none => lookS L s = none
theorem InR.cells {w : World} {G : Nat → Prop} {L : List (ByteArray × Value)} {f : ByteArray → Option PIn} (h : InR w G L f) (s : ByteArray) (v : Value) (hv : lookS L s = some v) : ∃ cs : List Value, v = .agg cs.toArray ∧ cs.length = 25 ∧ ∀ u ∈ cs, u.oneCell' = true := by
  have hs := h s
  cases hf : f s with
  | none => rw [hf] at hs; rw [hs] at hv; cases hv
  | some i =>
    rw [hf] at hs
    obtain ⟨t, A, c, B, d, h1, h2, -⟩ := hs
    rw [h1] at hv
    cases hv
    refine ⟨_, rfl, inCells_len _ _ _ _ _ _ h2, fun u hu => ?_⟩
    simp only [inCells, pathCells, List.mem_cons, List.mem_append, List.not_mem_nil, or_false] at hu
    rcases hu with rfl | (hu | rfl) | rfl | rfl | rfl
    · rfl
    · exact u8v_one _ u hu
    · rfl
    · rfl
    · rfl
    · rfl
noncomputable def in8R (f : ByteArray → Option PIn) (pile : List PNode) (s : ByteArray) (at_ : Nat) : Option (List PNode × Nat × Nat) := match f s with
  | some i => putR pile [copyP i.x] at_
  | none => none
noncomputable def in9R (f : ByteArray → Option PIn) (pile : List PNode) (s : ByteArray) (at_ : Nat) : Option (List PNode × Nat × Nat) := match f s with
  | some i => namedR pile i.bs i.nm at_
  | none => none
section
variable (w : World) (p base used fuel at_ : Nat) (ov pv : Value) (rest : List Value)
theorem own116_8g (Gt G : Nat → Prop) (pile : List PNode) (on om : Int) (l : List UInt8) (tA : Option Addr) (tc bm : Nat) (L : List (ByteArray × Value)) (f : ByteArray → Option PIn) (h : BSt w p base used fuel at_ ov rest pile pv) (hr21 : rest[21]? = some (.map (some bm))) (hm : MapS w bm L) (hin : InR w G L f) (hG : ∀ i, G i → Gp p pv i) (ht : By w Gt (.slice tA l.length tc) l) : Calls Tryz.prog 116 #[.pointer (some ⟨p, 0, none⟩), .agg #[.int .i64 8, .int .i64 on, .int .i64 om, .slice tA l.length tc]] w (OpOut (Kb base p) w p base used fuel ov rest (in8R f pile ⟨l.toArray⟩ at_)) := by
  have H := Fact.mk h
  obtain ⟨W, hW⟩ : ∃ X, X = w.alloc (.cells #[.int .i64 8, .int .i64 on, .int .i64 om, .slice tA l.length tc] 25) := ⟨_, rfl⟩
  have KB : Fact (Keep All w W) := ⟨hW ▸ (Keep.refl _ w).alloc _⟩
  have HOB : Fact (Blk W w.heap.size [.int .i64 8, .int .i64 on, .int .i64 om, .slice tA l.length tc] 25) := ⟨hW ▸ Blk.new w _ 25⟩
  have HW := Fact.mk hW
  have hc26 := (Blk.keep h.blk KB.out trivial).cell 26 (.map (some bm)) (by rw [List.getElem?_append_right (by simp)]; exact hr21)
  obtain ⟨RR, hRR⟩ : ∃ q, q = in8R f pile ⟨l.toArray⟩ at_ := ⟨_, rfl⟩
  rw [← hRR]
  have HRR := Fact.mk hRR
  obtain ⟨ts, hts⟩ : ∃ q : ByteArray, q = ⟨l.toArray⟩ := ⟨_, rfl⟩
  have CI : Fact (∀ w1, Keep All W w1 → Calls Tryz.prog 177 #[.pointer (some ⟨p, 0, none⟩), .slice tA l.length tc] w1 fun e w' => FoundV L ts e ∧ Keep All w1 w') := ⟨fun w1 hk => hts ▸ input177 w1 Gt p bm L l tA tc (hk.cell (p := ⟨p, 26, none⟩) trivial hc26) (hm.keep (KB.out.trans hk) trivial) (fun v hv => hin.cells _ v hv) (ht.keep (KB.out.trans hk).all)⟩
  have hins := hin ts
  rw [← hts] at HRR
  have hxg := H.out.ge (Nat.le_refl w.heap.size)
  have HG := Fact.mk hG
  clear h hW hr21 hc26 hm hin ht hRR hts hG
  go_enter Tryz.func116, Tryz.ntmps116
  go_upto_region 12 with (fail)
  rw [← HW.out]
  have o3 := HOB.out.cell 3 _ rfl
  refine wp_region_T 99 (fun w' => w'.cell? ⟨w.heap.size, 3, none⟩ = some (.slice tA l.length tc)) (by kernel_rfl) (by go_keep) (fun hHeld => ?_)
  refine takeH (i := 0) (v := ?_) rfl (by kernel_rfl) (by kernel_rfl) (by kernel_rfl) rfl (fun _ _ _ h => h) rfl ?_ (by assumption) ?_
  rotate_left
  · (intro w hSw; (try dsimp only at hSw); go_simp; try with_reducible rfl)
  try simp only [Act.put, List.setIfInBounds_toArray, List.set_cons_zero, List.set_cons_succ]
  refine takeH (i := 1) (v := ?_) rfl (by kernel_rfl) (by kernel_rfl) (by kernel_rfl) rfl (fun _ _ _ h => h) rfl ?_ (by assumption) ?_
  rotate_left
  · (intro w hSw; (try dsimp only at hSw); go_simp; try with_reducible rfl)
  try simp only [Act.put, List.setIfInBounds_toArray, List.set_cons_zero, List.set_cons_succ]
  refine takeH (i := 2) (v := ?_) rfl (by kernel_rfl) (by kernel_rfl) (by kernel_rfl) rfl (fun _ _ _ h => h) rfl ?_ (by assumption) ?_
  rotate_left
  · (intro w hSw; (try dsimp only at hSw); go_simp; try with_reducible rfl)
  try simp only [Act.put, List.setIfInBounds_toArray, List.set_cons_zero, List.set_cons_succ]
  refine takeH (i := 3) (v := ?_) rfl (by kernel_rfl) (by kernel_rfl) (by kernel_rfl) rfl (fun _ _ _ h => h) rfl ?_ (by assumption) ?_
  rotate_left
  · (intro w hSw; (try dsimp only at hSw); go_simp; try with_reducible rfl)
  try simp only [Act.put, List.setIfInBounds_toArray, List.set_cons_zero, List.set_cons_succ]
  refine takeH (i := 4) (v := ?_) rfl (by kernel_rfl) (by kernel_rfl) (by kernel_rfl) rfl (fun _ _ _ h => h) rfl ?_ (by assumption) ?_
  rotate_left
  · (intro w hSw; (try dsimp only at hSw); go_simp; try with_reducible rfl)
  try simp only [Act.put, List.setIfInBounds_toArray, List.set_cons_zero, List.set_cons_succ]
  refine takeH (i := 5) (v := ?_) rfl (by kernel_rfl) (by kernel_rfl) (by kernel_rfl) rfl (fun _ _ _ h => h) rfl ?_ (by assumption) ?_
  rotate_left
  · (intro w hSw; (try dsimp only at hSw); go_simp; try with_reducible rfl)
  try simp only [Act.put, List.setIfInBounds_toArray, List.set_cons_zero, List.set_cons_succ]
  refine nextT (i := 6) (by kernel_rfl) rfl (fun K hK => ?_)
  go_simp
  refine (CI.out _ (Keep.refl _ W).drew).mono ?_
  rintro e w1 ⟨hfv, hk⟩
  have K1 := Fact.mk ((Keep.refl _ W).drew.trans hk)
  have o3' := hk.cell (p := ⟨w.heap.size, 3, none⟩) trivial o3
  unfold FoundV at hfv
  cases hf : f ts with
  | none =>
    rw [hf] at hins
    have hins' : lookS L ts = none := hins
    rw [hins'] at hfv
    have he : e = errFail := hfv
    unfold errFail at he
    subst he
    have HF : RR = none := by rw [HRR.out, in8R, hf]
    refine ⟨rfl, ?_⟩
    rw [HF]
    exact opout_fail (Blk.keep H.out.blk (KB.out.trans K1.out) trivial) (KB.out.trans K1.out).all
  | some i =>
    rw [hf] at hins
    obtain ⟨t, A, c, B, d, hlk, hbs, hrp⟩ := hins
    rw [hlk] at hfv
    have he : e = .returned (.agg (inCells t i.bs i.nm i.x.kind (.slice A i.x.bytes.length c) (.slice B i.x.kids.length d)).toArray) := hfv
    subst he
    have HF : Fact (RR = putR pile [copyP i.x] at_) := ⟨by rw [HRR.out, in8R, hf]⟩
    have HFD := Fact.mk (fun W' => field66_2 W' t i.nm i.bs i.x.kind (.slice A i.x.bytes.length c) (.slice B i.x.kids.length d) hbs)
    have HRP := Fact.mk hrp
    obtain ⟨iv, hiv⟩ : ∃ q, q = Value.agg (inCells t i.bs i.nm i.x.kind (.slice A i.x.bytes.length c) (.slice B i.x.kids.length d)).toArray := ⟨_, rfl⟩
    rw [← hiv] at HFD ⊢
    clear hfv hk hHeld hf hlk hiv hrp o3
    refine hK.out _ _ (by exact o3') (fun hHeld => ?_)
    clear hK K
    try simp only [Act.put, List.setIfInBounds_toArray, List.set_cons_zero, List.set_cons_succ]
    refine takeH (i := 7) (v := ?_) rfl (by kernel_rfl) (by kernel_rfl) (by kernel_rfl) rfl (fun _ _ _ h => h) rfl ?_ (by assumption) ?_
    rotate_left
    · (intro w hSw; have hfd := HFD.out w; (try dsimp only at hSw); go_simp; try with_reducible rfl)
    try simp only [Act.put, List.setIfInBounds_toArray, List.set_cons_zero, List.set_cons_succ]
    refine nextT (i := 8) (by kernel_rfl) rfl (fun K hK => ?_)
    go_simp
    refine (copy172 w1 G i.x _ ⟨A, c, B, d, rfl, HRP.out.keep (KB.out.trans K1.out).all⟩).mono ?_
    rintro e w2 ⟨vc, rfl, hvc, hk⟩
    obtain ⟨Ac, cc, Bc, dc, rfl, hrc⟩ := hvc
    have HRC := Fact.mk hrc
    have K2 := Fact.mk (K1.out.trans hk)
    have o3 := hk.cell (p := ⟨w.heap.size, 3, none⟩) trivial o3'
    have hge : Fact (∀ q, w1.heap.size ≤ q → Gp p pv q) := ⟨fun q hq => (H.out.keep (KB.out.trans K1.out)).ge hq⟩
    clear hrc hk hHeld o3'
    refine hK.out _ _ (by exact o3) (fun hHeld => ?_)
    clear hK K
    try simp only [Act.put, List.setIfInBounds_toArray, List.set_cons_zero, List.set_cons_succ]
    refine nextT (i := 9) (by kernel_rfl) rfl (fun K hK => ?_)
    go_simp
    obtain ⟨W3, hW3⟩ : ∃ X, X = w2.alloc (.cells #[.int .i64 (copyP i.x).kind, .slice Ac (copyP i.x).bytes.length cc, .slice Bc (copyP i.x).kids.length dc] 58) := ⟨_, rfl⟩
    have K3 : Fact (Keep All w2 W3) := ⟨hW3 ▸ (Keep.refl _ w2).alloc _⟩
    have S3 : Fact (Sl W3 (fun i => w2.heap.size ≤ i) 3 (.slice (some ⟨w2.heap.size, 0, none⟩) 1 1) 1 [.int .i64 (copyP i.x).kind, .slice Ac (copyP i.x).bytes.length cc, .slice Bc (copyP i.x).kids.length dc]) := ⟨hW3 ▸ Sl.new w2 58 3 1 _ rfl (by decide) (by simp [Value.oneCell'])⟩
    have o3' := K3.out.cell (p := ⟨w.heap.size, 3, none⟩) trivial o3
    rw [← hW3]
    clear hW3 o3 hHeld
    refine hK.out _ _ (by exact o3') (fun hHeld => ?_)
    clear hK K
    try simp only [Act.put, List.setIfInBounds_toArray, List.set_cons_zero, List.set_cons_succ]
    refine nextT (i := 10) (by kernel_rfl) rfl (fun K hK => ?_)
    go_simp
    have KF : Fact (Keep (Kb base p) w W3) := ⟨((KB.out.trans K2.out).trans K3.out).all⟩
    refine (put171g W3 p base used fuel at_ ov pv rest (Gp p pv) pile [copyP i.x] [.int .i64 (copyP i.x).kind, .slice Ac (copyP i.x).bytes.length cc, .slice Bc (copyP i.x).kids.length dc] _ 1 (H.out.keep ((KB.out.trans K2.out).trans K3.out)) (S3.out.mono fun q _ hq => (H.out.keep (KB.out.trans K2.out)).ge hq)
      ⟨_, _, [], rfl, (HRC.out.keep K3.out.all).mono fun q _ hq => hge.out q hq, rfl⟩ (fun _ hi => hi) (by simp) (by simp)).mono ?_
    intro e w4 hq
    have HQ := Fact.mk hq
    clear hq
    cases e with
    | returned u =>
      refine hK.out _ _ (HQ.out.2.cell (p := ⟨w.heap.size, 3, none⟩) hxg o3') (fun hHeld => ⟨by kernel_rfl, ?_⟩)
      clear hK K
      try simp only [Act.put, List.setIfInBounds_toArray, List.set_cons_zero, List.set_cons_succ]
      go_wp2
      go_end0
      rw [HF.out]
      exact (HQ.out.from_ KF.out H.out.kb).ret
    | panicked ch =>
      dsimp only
      rw [HF.out]
      exact ⟨rfl, HQ.out.from_ KF.out H.out.kb⟩
    | outgrown => exact HQ.out.no.elim
theorem own116_9g (Gt G : Nat → Prop) (pile : List PNode) (on om : Int) (l : List UInt8) (tA : Option Addr) (tc bm : Nat) (L : List (ByteArray × Value)) (f : ByteArray → Option PIn) (h : BSt w p base used fuel at_ ov rest pile pv) (hr21 : rest[21]? = some (.map (some bm))) (hm : MapS w bm L) (hin : InR w G L f) (hG : ∀ i, G i → Gp p pv i) (ht : By w Gt (.slice tA l.length tc) l) : Calls Tryz.prog 116 #[.pointer (some ⟨p, 0, none⟩), .agg #[.int .i64 9, .int .i64 on, .int .i64 om, .slice tA l.length tc]] w (OpOut (Kb base p) w p base used fuel ov rest (in9R f pile ⟨l.toArray⟩ at_)) := by
  have H := Fact.mk h
  obtain ⟨W, hW⟩ : ∃ X, X = w.alloc (.cells #[.int .i64 9, .int .i64 on, .int .i64 om, .slice tA l.length tc] 25) := ⟨_, rfl⟩
  have KB : Fact (Keep All w W) := ⟨hW ▸ (Keep.refl _ w).alloc _⟩
  have HOB : Fact (Blk W w.heap.size [.int .i64 9, .int .i64 on, .int .i64 om, .slice tA l.length tc] 25) := ⟨hW ▸ Blk.new w _ 25⟩
  have HW := Fact.mk hW
  have hc26 := (Blk.keep h.blk KB.out trivial).cell 26 (.map (some bm)) (by rw [List.getElem?_append_right (by simp)]; exact hr21)
  obtain ⟨RR, hRR⟩ : ∃ q, q = in9R f pile ⟨l.toArray⟩ at_ := ⟨_, rfl⟩
  rw [← hRR]
  have HRR := Fact.mk hRR
  obtain ⟨ts, hts⟩ : ∃ q : ByteArray, q = ⟨l.toArray⟩ := ⟨_, rfl⟩
  have CI : Fact (∀ w1, Keep All W w1 → Calls Tryz.prog 177 #[.pointer (some ⟨p, 0, none⟩), .slice tA l.length tc] w1 fun e w' => FoundV L ts e ∧ Keep All w1 w') := ⟨fun w1 hk => hts ▸ input177 w1 Gt p bm L l tA tc (hk.cell (p := ⟨p, 26, none⟩) trivial hc26) (hm.keep (KB.out.trans hk) trivial) (fun v hv => hin.cells _ v hv) (ht.keep (KB.out.trans hk).all)⟩
  have hins := hin ts
  rw [← hts] at HRR
  have hxg := H.out.ge (Nat.le_refl w.heap.size)
  have HG := Fact.mk hG
  clear h hW hr21 hc26 hm hin ht hRR hts hG
  go_enter Tryz.func116, Tryz.ntmps116
  go_upto_region 14 with (fail)
  rw [← HW.out]
  have o3 := HOB.out.cell 3 _ rfl
  cases hf : f ts with
  | none =>
    rw [hf] at hins
    have hins' : lookS L ts = none := hins
    have HIN := Fact.mk hins'
    have HF : Fact (RR = none) := ⟨by rw [HRR.out, in9R, hf]⟩
    clear hins hins' hf
    go_wp2_with (go_at_call 177; go_must (refine (CI.out _ (Keep.refl _ W)).mono ?_); rintro e w1 ⟨hfv, hk⟩; unfold FoundV at hfv; rw [HIN.out] at hfv; have he : e = errFail := hfv; unfold errFail at he; subst he; have K1 := Fact.mk hk; clear hk hfv)
    refine ⟨rfl, ?_⟩
    rw [HF.out]
    exact opout_fail (Blk.keep H.out.blk (KB.out.trans K1.out) trivial) (KB.out.trans K1.out).all
  | some i =>
    rw [hf] at hins
    obtain ⟨t, A, c, B, d, hlk, hbs, hrp⟩ := hins
    have HF : Fact (RR = namedR pile i.bs i.nm at_) := ⟨by rw [HRR.out, in9R, hf]⟩
    have hfd := fun W' => field66_1 W' t i.nm i.bs i.x.kind (.slice A i.x.bytes.length c) (.slice B i.x.kids.length d) hbs
    obtain ⟨iv, hiv⟩ : ∃ q, q = Value.agg (inCells t i.bs i.nm i.x.kind (.slice A i.x.bytes.length c) (.slice B i.x.kids.length d)).toArray := ⟨_, rfl⟩
    rw [← hiv] at hfd hlk
    have HLK := Fact.mk hlk
    have HBS := Fact.mk hbs
    have CN := Fact.mk (fun w1 (hk : Keep All W w1) => named178g w1 p base used fuel at_ ov pv rest pile i.bs i.nm (H.out.keep (KB.out.trans hk)) hbs)
    obtain ⟨pc, hpc⟩ : ∃ q, q = (pathCells i.bs i.nm).toArray := ⟨_, rfl⟩
    rw [← hpc] at hfd CN
    clear hf hlk hbs hrp hiv hpc
    go_wp2_with (first
      | (go_at_call 177; go_must (refine (CI.out _ (Keep.refl _ W)).mono ?_); rintro e w1 ⟨hfv, hk⟩; unfold FoundV at hfv; rw [HLK.out] at hfv; have he : e = .returned iv := hfv; subst he; have K1 := Fact.mk hk; clear hk hfv)
      | (go_at_call 178; go_must (refine (CN.out _ K1.out).mono ?_); intro e w3 hq; have HQ := Fact.mk hq; clear hq))
    all_goals rw [HF.out]
    · go_end0
      exact (HQ.out.from_ (K' := Kb base p) (KB.out.trans K1.out).all H.out.kb).ret
    · exact ⟨rfl, HQ.out.from_ (K' := Kb base p) (KB.out.trans K1.out).all H.out.kb⟩
    · exact HQ.out.no.elim
end
end Go.Proofs.YtddmbdigdnmfgaaGreatDoor

/- An operation of the builder, whatever its kind. -/
namespace Go.Proofs.YtddmbdigdnmfgaaGreatDoor
open Go.RowKit
set_option maxHeartbeats 1000000
set_option maxRecDepth 100000

/-- The function of a kind. -/
def kindF (k : Int) : Nat := if k = 5 ∨ k = 6 ∨ k = 7 then 113 else if k = 11 ∨ k = 12 ∨ k = 20 ∨ k = 17 ∨ k = 18 then 114 else if k = 13 ∨ k = 14 ∨ k = 15 ∨ k = 16 ∨ k = 19 then 115 else 116
/-- What an operation makes of the pile. -/
noncomputable def opR (f : ByteArray → Option PIn) (sbs : List UInt8) (snm : ByteArray) (nops : Nat) (o : POp) (pile : List PNode) (at_ : Nat) : Option (List PNode × Nat × Nat) :=
  if o.kind = 1 then putR pile [.mk 1 o.text []] at_
  else if o.kind = 2 then own2R pile at_
  else if o.kind = 3 then putR pile [.mk 3 o.text []] at_
  else if o.kind = 4 then putR pile [.mk 4 [] []] at_
  else if o.kind = 5 then placeR 5 pile ⟨o.text.toArray⟩ at_
  else if o.kind = 6 then placeR 6 pile ⟨o.text.toArray⟩ at_
  else if o.kind = 7 then placeR 7 pile ⟨o.text.toArray⟩ at_
  else if o.kind = 8 then in8R f pile ⟨o.text.toArray⟩ at_
  else if o.kind = 9 then in9R f pile ⟨o.text.toArray⟩ at_
  else if o.kind = 10 then namedR pile sbs snm at_
  else if o.kind = 11 then wordR (fun r x => match r.reverse with | [] => none | d :: r2 => if d.kind = 1 then putR r2.reverse [.mk 1 (d.bytes ++ x.bytes) []] at_ else none) pile
  else if o.kind = 12 then wordR (fun r x => putR r [.mk 1 (timesP x.bytes o.n.toNat) []] at_) pile
  else if o.kind = 13 then shiftR 13 pile at_
  else if o.kind = 14 then shiftR 14 pile at_
  else if o.kind = 15 then shiftR 15 pile at_
  else if o.kind = 16 then sameR pile at_
  else if o.kind = 17 then wordR (fun r x => if x.bytes.length = 0 then jumpR r ((at_ : Int) + o.n.toNat) nops else some (r, 0, at_)) pile
  else if o.kind = 18 then wordR (fun r x => if 0 < x.bytes.length then jumpR r ((at_ : Int) - 1 - o.n.toNat) nops else some (r, 0, at_)) pile
  else if o.kind = 19 then waysR pile at_
  else wordR (fun r x => putR r [.mk 1 (cutP x.bytes o.n.toNat o.m.toNat) []] at_) pile
theorem opCall (w : World) (p base used fuel at_ : Nat) (pv : Value) (Gt G : Nat → Prop) (pile : List PNode) (o : POp) (tA : Option Addr) (tc bm : Nat) (L : List (ByteArray × Value)) (f : ByteArray → Option PIn) (sbs : List UInt8) (snm : ByteArray) (OA : Option Addr) (nops oc : Nat)
    (h : BSt w p base used fuel at_ (.slice OA nops oc) (pathCells sbs snm ++ [.map (some bm)]) pile pv) (hsb : sbs.length = 20) (hm : MapS w bm L) (hin : InR w G L f) (hG : ∀ i, G i → Gp p pv i) (ht : By w Gt (.slice tA o.text.length tc) o.text) (ho : OpRight o) (hat : at_ ≤ 1000000) :
    Calls Tryz.prog (kindF o.kind) #[.pointer (some ⟨p, 0, none⟩), .agg #[.int .i64 o.kind, .int .i64 o.n, .int .i64 o.m, .slice tA o.text.length tc]] w (OpOut (Kb base p) w p base used fuel (.slice OA nops oc) (pathCells sbs snm ++ [.map (some bm)]) (opR f sbs snm nops o pile at_)) := by
  obtain ⟨k1, k2, -, htl, n0, m0, n1, m1, -⟩ := ho
  have hs : Small o.text.length := Small.of (by omega)
  have hl : o.text.length ≤ 1000000 := by omega
  have hr21 : (pathCells sbs snm ++ [Value.map (some bm)])[21]? = some (.map (some bm)) := by
    rw [List.getElem?_append_right (by simp [pathCells, hsb])]
    simp [pathCells, hsb]
  obtain ⟨kd, n, m, t⟩ := o
  simp only at k1 k2 htl n0 m0 n1 m1 hs hl ht ⊢
  obtain ⟨n', rfl⟩ := Int.eq_ofNat_of_zero_le n0
  obtain ⟨m', rfl⟩ := Int.eq_ofNat_of_zero_le m0
  have hn' : n' ≤ 1000000 := by omega
  have hk : kd = 1 ∨ kd = 2 ∨ kd = 3 ∨ kd = 4 ∨ kd = 5 ∨ kd = 6 ∨ kd = 7 ∨ kd = 8 ∨ kd = 9 ∨ kd = 10 ∨ kd = 11 ∨ kd = 12 ∨ kd = 13 ∨ kd = 14 ∨ kd = 15 ∨ kd = 16 ∨ kd = 17 ∨ kd = 18 ∨ kd = 19 ∨ kd = 20 := by omega
  rcases hk with rfl | rfl | rfl | rfl | rfl | rfl | rfl | rfl | rfl | rfl | rfl | rfl | rfl | rfl | rfl | rfl | rfl | rfl | rfl | rfl
  · exact own116_1g w p base used fuel at_ _ pv _ Gt pile _ _ t tA tc h ht hs
  · exact own116_2g w p base used fuel at_ _ pv _ Gt pile _ _ t tA tc h ht hs
  · exact own116_3g w p base used fuel at_ _ pv _ Gt pile _ _ t tA tc h ht hs
  · exact own116_4g w p base used fuel at_ _ pv _ Gt pile _ _ t tA tc h ht hs
  · exact place5 w p base used fuel at_ _ pv _ Gt pile _ _ t tA tc h ht hl
  · exact place6 w p base used fuel at_ _ pv _ Gt pile _ _ t tA tc h ht hl
  · exact place7 w p base used fuel at_ _ pv _ Gt pile _ _ t tA tc h ht hl 7 (by decide) (by decide)
  · exact own116_8g w p base used fuel at_ _ pv _ Gt G pile _ _ t tA tc bm L f h hr21 hm hin hG ht
  · exact own116_9g w p base used fuel at_ _ pv _ Gt G pile _ _ t tA tc bm L f h hr21 hm hin hG ht
  · exact own116_10g w p base used fuel at_ _ pv pile _ _ t.length tA tc sbs snm _ hsb h
  · exact word11 w p base used fuel at_ pv _ pile n' m' tA t.length tc OA nops oc h
  · exact word12 w p base used fuel at_ pv _ pile n' m' tA t.length tc OA nops oc h
  · exact shift13 w p base used fuel at_ _ pv _ pile _ _ tA t.length tc h
  · exact shift14 w p base used fuel at_ _ pv _ pile _ _ tA t.length tc h
  · exact shift15 w p base used fuel at_ _ pv _ pile _ _ tA t.length tc h
  · exact shift16 w p base used fuel at_ _ pv _ pile _ _ tA t.length tc h
  · exact word17 w p base used fuel at_ pv _ pile n' m' tA t.length tc OA nops oc h hat hn'
  · exact word18 w p base used fuel at_ pv _ pile n' m' tA t.length tc OA nops oc h hat hn'
  · exact shift19 w p base used fuel at_ _ pv _ pile _ _ tA t.length tc h
  · exact word20 w p base used fuel at_ pv _ pile n' m' tA t.length tc OA nops oc h
end Go.Proofs.YtddmbdigdnmfgaaGreatDoor

/- spencelaw21.great, at any inputs. -/
namespace Go.Proofs.YtddmbdigdnmfgaaGreatDoor
open Go.RowKit
set_option maxHeartbeats 1000000
set_option maxRecDepth 100000

/-- An input with its name. -/
structure PInN where
  name : ByteArray
  bs : List UInt8
  nm : ByteArray
  x : PNode
def RepI (w : World) (G : Nat → Prop) : List PInN → List Value → Prop
  | [], cs => cs = []
  | i :: r, cs => ∃ A c B d t, cs = inCells i.name i.bs i.nm i.x.kind (.slice A i.x.bytes.length c) (.slice B i.x.kids.length d) ++ t ∧ i.bs.length = 20 ∧ RepN w G i.x (.slice A i.x.bytes.length c) (.slice B i.x.kids.length d) ∧ RepI w G r t
theorem RepI.get {w : World} {G : Nat → Prop} : ∀ {l : List PInN} {cs : List Value}, RepI w G l cs → ∀ k (hk : k < l.length), ∃ A c B d, (∀ j v, (inCells l[k].name l[k].bs l[k].nm l[k].x.kind (.slice A l[k].x.bytes.length c) (.slice B l[k].x.kids.length d))[j]? = some v → cs[k * 25 + j]? = some v) ∧ l[k].bs.length = 20 ∧ RepN w G l[k].x (.slice A l[k].x.bytes.length c) (.slice B l[k].x.kids.length d)
  | [], _, _, k, hk => absurd hk (by simp)
  | i :: r, _, ⟨A, c, B, d, t, h1, h2, h3, h4⟩, 0, _ => by
    subst h1
    refine ⟨A, c, B, d, fun j v hv => ?_, h2, h3⟩
    rw [Nat.zero_mul, Nat.zero_add]
    exact (List.getElem?_append_left (List.getElem?_eq_some_iff.1 hv).1).trans hv
  | i :: r, _, ⟨A, c, B, d, t, h1, h2, h3, h4⟩, k + 1, hk => by
    subst h1
    obtain ⟨A', c', B', d', e1, e2, e3⟩ := RepI.get h4 k (by simpa using hk)
    refine ⟨A', c', B', d', fun j v hv => ?_, e2, e3⟩
    have hl := inCells_len i.name i.nm i.bs i.x.kind (.slice A i.x.bytes.length c) (.slice B i.x.kids.length d) h2
    rw [List.getElem?_append_right (by omega), hl, show (k + 1) * 25 + j - 25 = k * 25 + j by omega]
    exact e1 j v hv
theorem RepI.keep {w w' : World} {G : Nat → Prop} (k : Keep G w w') : ∀ {l : List PInN} {cs : List Value}, RepI w G l cs → RepI w' G l cs
  | [], _, h => h
  | _ :: _, _, ⟨A, c, B, d, t, h1, h2, h3, h4⟩ => ⟨A, c, B, d, t, h1, h2, h3.keep k, RepI.keep k h4⟩
/-- The law's inputs: a slice of them. -/
def InsV (w : World) (G : Nat → Prop) (l : List PInN) (v : Value) : Prop := ∃ cs, Sl w G 25 v l.length cs ∧ RepI w G l cs
theorem InsV.keep {w w' : World} {G : Nat → Prop} {l : List PInN} {v : Value} (h : InsV w G l v) (k : Keep G w w') : InsV w' G l v := by
  obtain ⟨cs, h1, h2⟩ := h
  exact ⟨cs, h1.keep k, h2.keep k⟩
theorem InsV.at {w : World} {G : Nat → Prop} {l : List PInN} {B : Option Addr} {m d : Nat} (h : InsV w G l (.slice B m d)) : m = l.length ∧ m ≤ d ∧ d ≤ maxLen ∧ ∀ k (hk : k < l.length), ∃ g off A c D e, B = some ⟨g, off, none⟩ ∧ G g ∧ w.rangeAt g (off + k * 25) (inCells l[k].name l[k].bs l[k].nm l[k].x.kind (.slice A l[k].x.bytes.length c) (.slice D l[k].x.kids.length e)) ∧ l[k].bs.length = 20 ∧ RepN w G l[k].x (.slice A l[k].x.bytes.length c) (.slice D l[k].x.kids.length e) := by
  obtain ⟨cs, ⟨-, B', d', e, hl, hn, hm, -, hat⟩, hr⟩ := h
  simp only [Value.slice.injEq] at e
  obtain ⟨rfl, rfl, rfl⟩ := e
  refine ⟨rfl, hn, hm, fun k hk => ?_⟩
  obtain ⟨g, off, rfl, hg, ha⟩ := hat (by rw [hl]; omega)
  obtain ⟨A, c, D, e, h1, h2, h3⟩ := hr.get k hk
  exact ⟨g, off, A, c, D, e, rfl, hg, fun j v hv => by
    have := ha.get _ _ (h1 j v hv)
    rw [Nat.add_assoc]
    exact this, h2, h3⟩
theorem inCells_at (s nm : ByteArray) (bs : List UInt8) (k : Int) (vb vk : Value) (hb : bs.length = 20) : (inCells s bs nm k vb vk)[0]? = some (.string s) ∧ (inCells s bs nm k vb vk)[22]? = some (.int .i64 k) ∧ (inCells s bs nm k vb vk)[23]? = some vb ∧ (inCells s bs nm k vb vk)[24]? = some vk := by
  refine ⟨rfl, ?_, ?_, ?_⟩ <;> simp [inCells, pathCells, hb]
theorem great26 (w : World) (G : Nat → Prop) (l : List PInN) (v : Value) (h : InsV w G l v) (hl : l.length ≤ big) (hs : ∀ k (hk : k < l.length), l[k].name.size ≤ big ∧ LessN big l[k].x) :
    Calls Tryz.prog 26 #[v] w fun e w' => (∃ g : Bool, e = .returned (.bool g)) ∧ Keep All w w' := by
  obtain ⟨cs0, ⟨h1c, B, d, rfl, hlc, hn0, hm0, hA0, hat0⟩, hr0⟩ := id h
  obtain ⟨-, hmd, hdm, hat⟩ := h.at
  have HAT := Fact.mk hat
  have HS := Fact.mk hs
  have hll : l.length ≤ 140737488351232 := hl
  have hd9 : d ≤ 9223372036854775807 := by unfold maxLen at hdm; omega
  clear h h1c hlc hn0 hm0 hA0 hat0 hr0 hat hs hdm hl
  go_enter Tryz.func26, Tryz.ntmps26
  go_wp2
  go_loopg [3, 4] l.length (fun g o i w' => ∃ (j : Nat) (out : Int), j + g = l.length ∧ i = .int .i64 j ∧ o = .int .i64 out ∧ 0 ≤ out ∧ out ≤ 1000000000000000000 ∧ Keep All w w')
  case atStart => exact ⟨0, _, by omega, rfl, rfl, by omega, by omega, Keep.refl _ _⟩
  case round =>
    obtain ⟨j, out, hj, rfl, rfl, h0, h2, hkp⟩ := hrel
    have HJ := Fact.mk hj
    have HKP := Fact.mk hkp
    clear hj hkp
    by_cases hlt : j < l.length
    · by_cases hle : out ≤ 2000
      · obtain ⟨g, off, A, c, D, e, rfl, hg, hrg, hbs, hrx⟩ := HAT.out j hlt
        obtain ⟨i0, i22, i23, i24⟩ := inCells_at l[j].name l[j].nm l[j].bs l[j].x.kind (.slice A l[j].x.bytes.length c) (.slice D l[j].x.kids.length e) hbs
        have a0 := hrg 0 _ i0
        have a1 := hrg 22 _ i22
        have a2 := hrg 23 _ i23
        have a3 := hrg 24 _ i24
        simp only [Nat.add_zero] at a0
        have kk : ∀ p v, w.cell? p = some v → ∀ q : Kept wr, q.tw.cell? p = some v := fun p v h q => kept_cell (HKP.out.cell trivial h) q
        have e0 := kk _ _ a0
        have e1 := kk _ _ a1
        have e2 := kk _ _ a2
        have e3 := kk _ _ a3
        obtain ⟨z, hz⟩ : ∃ z, z = manyP l[j].x 2000 := ⟨_, rfl⟩
        obtain ⟨hs1, hs2⟩ := HS.out j hlt
        have hz1 : 1 ≤ z := hz ▸ manyP_pos _ _
        have hz2 : z ≤ 600000000000000000 := by
          have h1 := manyP_le l[j].x 2001 2000 (by omega) hs2
          have h2 := manyF_small (k := 2001) (Nat.le_refl _)
          rw [← hz] at h1
          omega
        have hsb : l[j].name.size ≤ 140737488351232 := hs1
        have HC : Fact (∀ w', Keep All wr w' → Calls Tryz.prog 62 #[.agg #[.int .i64 l[j].x.kind, .slice A l[j].x.bytes.length c, .slice D l[j].x.kids.length e], .int .i64 2000] w' fun e w2 => e = .returned (.int .i64 z) ∧ Keep All w' w2) := ⟨fun w' kp => by
          rw [hz]
          exact manyAt l[j].x w' G _ 2001 2000 ⟨A, c, D, e, rfl, hrx.keep (HKP.out.trans kp).all⟩ hs2 (by omega) (by omega) (by omega)⟩
        clear hz a0 a1 a2 a3 hg kk hs2 hs1 hrg i0 i22 i23 i24 hrx hbs
        go_upto_region 5 with (fail)
        refine wp_region_kept (by kernel_rfl) (by kernel_rfl) ?_
        repeat (go_big_quiet_step ((go_at_call 62; exact kept_call (HC.out _ (Kept.keep _)))))
        refine wpQuiet_nil ?_
        intro _ hw'
        obtain ⟨⟨wq, hq⟩, hw''⟩ := hw'
        subst hw''
        have KQ := Fact.mk (HKP.out.trans hq)
        clear hq e0 e1 e2 e3
        go_wp2
        go_roundg (gk - 1)
        case measure => have := HJ.out; omega
        case rel => exact ⟨j + 1, _, by have := HJ.out; omega, by go_num, rfl, by omega, by omega, KQ.out⟩
      · go_wp2
        go_ret
        exact ⟨.inr rfl, HKP.out⟩
    · go_wp2
      go_ret
      exact ⟨⟨_, rfl⟩, HKP.out⟩
end Go.Proofs.YtddmbdigdnmfgaaGreatDoor

/- recipe.had, plain: the map's entries, one for each input; what is found in it. -/
namespace Go.Proofs.YtddmbdigdnmfgaaGreatDoor
open Go.RowKit
set_option maxHeartbeats 1000000
set_option maxRecDepth 100000

def findIn (l : List PInN) (s : ByteArray) : Option PIn := (l.find? fun i => s == i.name).map fun i => ⟨i.bs, i.nm, i.x⟩
/-- The entries read as the inputs, one by one. -/
def EntR (w : World) (G : Nat → Prop) : List PInN → List (ByteArray × Value) → Prop
  | [], L => L = []
  | i :: r, L => ∃ A c B d L', L = (i.name, .agg (inCells i.name i.bs i.nm i.x.kind (.slice A i.x.bytes.length c) (.slice B i.x.kids.length d)).toArray) :: L' ∧ i.bs.length = 20 ∧ RepN w G i.x (.slice A i.x.bytes.length c) (.slice B i.x.kids.length d) ∧ EntR w G r L'
theorem lookI_map : ∀ (L : List (ByteArray × Value)) (s : ByteArray) (i j : Nat), (lookI L s i).map Prod.snd = (lookI L s j).map Prod.snd
  | [], s, i, j => rfl
  | (k, v) :: r, s, i, j => by
    rw [lookI, lookI]
    split
    · rfl
    · exact lookI_map r s (i + 1) (j + 1)
theorem lookS_cons (k : ByteArray) (v : Value) (r : List (ByteArray × Value)) (s : ByteArray) : lookS ((k, v) :: r) s = if (s == k) = true then some v else lookS r s := by
  rw [lookS, lookI]
  split
  · rfl
  · exact lookI_map r s 1 0
theorem EntR.inR {w : World} {G : Nat → Prop} : ∀ {l : List PInN} {L : List (ByteArray × Value)}, EntR w G l L → InR w G L (findIn l)
  | [], L, h, s => by
    rw [EntR] at h
    subst h
    rfl
  | i :: r, L, ⟨A, c, B, d, L', h1, h2, h3, h4⟩, s => by
    subst h1
    have ih := EntR.inR h4 s
    by_cases hs : (s == i.name) = true
    · have hf : findIn (i :: r) s = some ⟨i.bs, i.nm, i.x⟩ := by simp [findIn, hs]
      rw [hf]
      exact ⟨i.name, A, c, B, d, by rw [lookS_cons, if_pos hs], h2, h3⟩
    · have hs' : (s == i.name) = false := by simpa using hs
      have hf : findIn (i :: r) s = findIn r s := by simp [findIn, hs']
      rw [hf, lookS_cons, if_neg hs]
      exact ih
theorem EntR.keep {w w' : World} {G : Nat → Prop} (k : Keep G w w') : ∀ {l : List PInN} {L : List (ByteArray × Value)}, EntR w G l L → EntR w' G l L
  | [], _, h => h
  | _ :: _, _, ⟨A, c, B, d, L', h1, h2, h3, h4⟩ => ⟨A, c, B, d, L', h1, h2, h3.keep k, EntR.keep k h4⟩
theorem EntR.snoc {w : World} {G : Nat → Prop} {i : PInN} {A B : Option Addr} {c d : Nat} (hb : i.bs.length = 20) (hx : RepN w G i.x (.slice A i.x.bytes.length c) (.slice B i.x.kids.length d)) : ∀ {l : List PInN} {L : List (ByteArray × Value)}, EntR w G l L →
    EntR w G (l ++ [i]) (L ++ [(i.name, .agg (inCells i.name i.bs i.nm i.x.kind (.slice A i.x.bytes.length c) (.slice B i.x.kids.length d)).toArray)])
  | [], L, h => by
    rw [EntR] at h
    subst h
    exact ⟨A, c, B, d, [], rfl, hb, hx, rfl⟩
  | _ :: _, _, ⟨A', c', B', d', L', h1, h2, h3, h4⟩ => by
    subst h1
    exact ⟨A', c', B', d', _, rfl, h2, h3, EntR.snoc hb hx h4⟩
/-- No entry of that name yet. -/
theorem EntR.none {w : World} {G : Nat → Prop} {s : ByteArray} : ∀ {l : List PInN} {L : List (ByteArray × Value)}, EntR w G l L → (∀ i ∈ l, (s == i.name) = false) → ∀ n, lookI L s n = none
  | [], L, h, _, n => by
    rw [EntR] at h
    subst h
    rfl
  | i :: r, L, ⟨A, c, B, d, L', h1, h2, h3, h4⟩, hs, n => by
    subst h1
    rw [lookI, if_neg (by rw [hs i List.mem_cons_self]; simp)]
    exact EntR.none h4 (fun j hj => hs j (List.mem_cons_of_mem _ hj)) (n + 1)
theorem less_trans : ∀ (a b c : List UInt8), Op.bytesLess a b = true → Op.bytesLess b c = true → Op.bytesLess a c = true
  | _, _, [], _, h => by simp [Op.bytesLess] at h
  | [], _, _ :: _, _, _ => rfl
  | _ :: _, [], _, h, _ => by simp [Op.bytesLess] at h
  | a :: x, b :: y, c :: z, h1, h2 => by
    simp only [Op.bytesLess, Bool.or_eq_true, Bool.and_eq_true, decide_eq_true_eq, beq_iff_eq] at *
    rcases h1 with h1 | ⟨rfl, h1⟩
    · rcases h2 with h2 | ⟨rfl, h2⟩
      · exact .inl (UInt8.lt_trans h1 h2)
      · exact .inl h1
    · rcases h2 with h2 | ⟨rfl, h2⟩
      · exact .inl h2
      · exact .inr ⟨rfl, less_trans x y z h1 h2⟩
theorem less_irrefl : ∀ (a : List UInt8), Op.bytesLess a a = false
  | [] => rfl
  | a :: x => by simp [Op.bytesLess, less_irrefl x]
theorem less_total : ∀ (a b : List UInt8), Op.bytesLess a b = false → a ≠ b → Op.bytesLess b a = true
  | [], [], _, h => absurd rfl h
  | [], _ :: _, h, _ => by simp [Op.bytesLess] at h
  | _ :: _, [], _, _ => rfl
  | a :: x, b :: y, h, hn => by
    simp only [Op.bytesLess, Bool.or_eq_false_iff, Bool.and_eq_false_iff, decide_eq_false_iff_not, Bool.or_eq_true, Bool.and_eq_true, decide_eq_true_eq, beq_iff_eq] at *
    by_cases hab : a = b
    · subst hab
      refine .inr ⟨rfl, less_total x y ?_ (fun e => hn (by rw [e]))⟩
      rcases h.2 with h2 | h2
      · simp at h2
      · exact h2
    · refine .inl ?_
      have h1 := h.1
      rw [UInt8.not_lt] at h1
      exact UInt8.lt_of_le_of_ne h1 (Ne.symm hab)
/-- Is a text no more than another? -/
def leqS (a b : ByteArray) : Bool := Op.bytesLess a.toList b.toList || a.toList == b.toList
/-- Are the inputs in order, and right? -/
noncomputable def hadP : ByteArray → List PInN → Bool
  | _, [] => true
  | last, i :: r => nameP i.name && !leqS i.name last && nameP i.nm && rightP i.x && hadP i.name r
theorem leqS_no {a b : ByteArray} (h : leqS a b = false) : Op.bytesLess b.toList a.toList = true := by
  rw [leqS, Bool.or_eq_false_iff] at h
  exact less_total _ _ h.1 (fun e => by rw [e] at h; simp at h)
end Go.Proofs.YtddmbdigdnmfgaaGreatDoor

/- recipe.Run, plain; what RecipeFuel says of it. -/
namespace Go.Proofs.YtddmbdigdnmfgaaGreatDoor
set_option maxHeartbeats 1000000

/-- What Run tells: a tree, its steps, an error's number. -/
def runV (F : Nat) : Ends PNode → PNode × Nat × Int
  | .ok x s => (x, s, 0)
  | .fail s => (.mk 0 [] [], s, 19)
  | .out => (.mk 0 [] [], F, 11)
/-- The operations of a recipe. -/
noncomputable def opF (f : ByteArray → Option PIn) (sbs : List UInt8) (snm : ByteArray) (ops : List POp) : OpF PNode := fun i pile => match ops[i]? with
  | some o => opR f sbs snm ops.length o pile (i + 1)
  | none => none
noncomputable def buildP (f : ByteArray → Option PIn) (sbs : List UInt8) (snm : ByteArray) (ops : List POp) (F : Nat) : PNode × Nat × Int := runV F (runF ops.length (opF f sbs snm ops) F)
theorem runV_steps (F : Nat) (e : Ends PNode) : (runV F e).2.1 = e.steps F := by cases e <;> rfl
theorem runV_out (F : Nat) (e : Ends PNode) : (runV F e).2.2 = 11 ↔ e = .out := by cases e <;> simp [runV]
theorem runV_any {F F' : Nat} {e : Ends PNode} (h : e ≠ .out) : runV F e = runV F' e := by
  cases e with
  | out => exact absurd rfl h
  | _ => rfl
section
variable (f : ByteArray → Option PIn) (sbs : List UInt8) (snm : ByteArray) (ops : List POp)
/-- Out of fuel: all of it is used, nothing is told, and more fuel takes no fewer steps. -/
theorem fuel_out {F F' : Nat} (h : (buildP f sbs snm ops F).2.2 = 11) (hl : F ≤ F') : (buildP f sbs snm ops F).2.1 = F ∧ F ≤ (buildP f sbs snm ops F').2.1 ∧ (buildP f sbs snm ops F).1.kind = 0 := by
  have ho := (runV_out _ _).1 h
  refine ⟨?_, ?_, ?_⟩
  · rw [buildP, ho]; rfl
  · rw [buildP, runV_steps]; exact runF_out ho hl
  · rw [buildP, ho]; rfl
/-- Else it is what it is with any more fuel, with just the steps that it took; with one less it is out of fuel. -/
theorem fuel_in {F F' : Nat} (h : (buildP f sbs snm ops F).2.2 ≠ 11) (hl : F ≤ F') : buildP f sbs snm ops F' = buildP f sbs snm ops F ∧ (buildP f sbs snm ops F).2.1 ≤ F ∧ buildP f sbs snm ops (buildP f sbs snm ops F).2.1 = buildP f sbs snm ops F ∧
    ∀ F2, F2 < (buildP f sbs snm ops F).2.1 → (buildP f sbs snm ops F2).2.2 = 11 := by
  have ho : runF ops.length (opF f sbs snm ops) F ≠ .out := fun e => h ((runV_out _ _).2 e)
  have hs := runF_le ho
  have e1 : (buildP f sbs snm ops F).2.1 = (runF ops.length (opF f sbs snm ops) F).steps F := runV_steps _ _
  rw [e1]
  have same : ∀ F3, (runF ops.length (opF f sbs snm ops) F).steps F ≤ F3 → buildP f sbs snm ops F3 = buildP f sbs snm ops F := fun F3 h3 => by
    rw [buildP, buildP, runF_same ho h3]
    exact runV_any ho
  refine ⟨same _ (Nat.le_trans hs hl), hs, same _ (Nat.le_refl _), fun F2 h2 => ?_⟩
  rw [buildP, runF_less ho h2]
  rfl
/-- An error, and no tree; no error, and an end with one tree. -/
theorem fuel_err {F : Nat} (h : (buildP f sbs snm ops F).2.2 ≠ 0) : (buildP f sbs snm ops F).1.kind = 0 := by
  rw [buildP] at h ⊢
  cases hr : runF ops.length (opF f sbs snm ops) F with
  | ok x s => rw [hr] at h; exact absurd rfl h
  | fail s => rfl
  | out => rfl
end
end Go.Proofs.YtddmbdigdnmfgaaGreatDoor

/- recipe.had, at any inputs. -/
namespace Go.Proofs.YtddmbdigdnmfgaaGreatDoor
open Go.RowKit
set_option maxHeartbeats 1000000
set_option maxRecDepth 100000

theorem run_makeMapS (w : World) : (Instr.makeMap 134 none).run Tryz.prog w = .ok (.map (some w.heap.size)) (w.alloc (.map #[] 0)) := rfl
def HadOut (w : World) (G : Nat → Prop) (l : List PInN) (snm : ByteArray) (e : Ending) (w' : World) : Prop :=
  (if hadP ⟨#[]⟩ l = true then ∃ bm L, e = .returned (.tuple #[.map (some bm), .bool (nameP snm)]) ∧ w.heap.size ≤ bm ∧ MapS w' bm L ∧ EntR w' G l L else e = .returned (.tuple #[.map none, .bool false])) ∧ Keep All w w'
theorem HadOut.no {w w' : World} {G : Nat → Prop} {l : List PInN} {snm : ByteArray} {v : Value} (h : hadP ⟨#[]⟩ l = false) (hk : Keep All w w') (hv : v = .tuple #[.map none, .bool false]) : HadOut w G l snm (.returned v) w' :=
  ⟨by rw [if_neg (by rw [h]; simp), hv], hk⟩
theorem MapS.new (w : World) : MapS (w.alloc (.map #[] 0)) w.heap.size [] := ⟨#[], 0, by show (w.heap.push _)[w.heap.size]? = _; simp, rfl⟩
theorem MapS.lt {w : World} {b : Nat} {L : List (ByteArray × Value)} (h : MapS w b L) : b < w.heap.size := by
  obtain ⟨es, cl, h1, -⟩ := h
  exact (Array.getElem?_eq_some_iff.1 h1).1
/-- Where the loop stands: j inputs are in the map. -/
structure HadI (w : World) (bm : Nat) (G : Nat → Prop) (l : List PInN) (snm : ByteArray) (j : Nat) (last : ByteArray) (L : List (ByteArray × Value)) (w' : World) : Prop where
  keep : Keep All w w'
  map : MapS w' bm L
  ent : EntR w' G (l.take j) L
  order : hadP ⟨#[]⟩ l = hadP last (l.drop j)
  names : ∀ i ∈ l.take j, i.name = last ∨ Op.bytesLess i.name.toList last.toList = true
  self : w'.cell? ⟨w.heap.size, 20, none⟩ = some (.string snm)
  bm_ : w.heap.size < bm
theorem hadP_step {last : ByteArray} {l : List PInN} {j : Nat} (h : j < l.length) : hadP last (l.drop j) = (nameP l[j].name && !leqS l[j].name last && nameP l[j].nm && rightP l[j].x && hadP l[j].name (l.drop (j + 1))) := by
  rw [List.drop_eq_getElem_cons h, hadP]
theorem beq_ba {s t : ByteArray} (h : (s == t) = true) : s = t := by
  cases s; cases t
  rename_i a b
  have : (a == b) = true := h
  rw [eq_of_beq this]
theorem name_ne {s t : ByteArray} (h : Op.bytesLess t.toList s.toList = true) : (s == t) = false := by
  cases he : s == t with
  | false => rfl
  | true =>
    have e : s = t := beq_ba he
    rw [e, less_irrefl] at h
    cases h
/-- One input more. -/
theorem HadI.next {w w2 w' : World} {bm : Nat} {G : Nat → Prop} {l : List PInN} {snm : ByteArray} {j : Nat} {last : ByteArray} {L : List (ByteArray × Value)} {A D : Option Addr} {c e : Nat} (h : HadI w bm G l snm j last L w') (hj : j < l.length)
    (h1 : nameP l[j].name = true) (h2 : leqS l[j].name last = false) (h3 : nameP l[j].nm = true) (h4 : rightP l[j].x = true) (hb : l[j].bs.length = 20) (hx : RepN w G l[j].x (.slice A l[j].x.bytes.length c) (.slice D l[j].x.kids.length e)) (hG : ∀ i, G i → i < w.heap.size)
    (hm : MapS w2 bm (L ++ [(l[j].name, .agg (inCells l[j].name l[j].bs l[j].nm l[j].x.kind (.slice A l[j].x.bytes.length c) (.slice D l[j].x.kids.length e)).toArray)])) (k : Keep (fun i => i ≠ bm) w' w2) :
    HadI w bm G l snm (j + 1) l[j].name (L ++ [(l[j].name, .agg (inCells l[j].name l[j].bs l[j].nm l[j].x.kind (.slice A l[j].x.bytes.length c) (.slice D l[j].x.kids.length e)).toArray)]) w2 := by
  have hbm := h.bm_
  have hkg : Keep G w' w2 := k.mono fun i hi => by have := hG i hi; show i ≠ bm; omega
  have kw : Keep All w w2 := h.keep.then_ k fun i hi _ => by show i ≠ bm; omega
  refine ⟨kw, hm, ?_, ?_, fun i hi => ?_, k.cell (p := ⟨w.heap.size, 20, none⟩) (by show w.heap.size ≠ bm; omega) h.self, hbm⟩
  · rw [List.take_succ_eq_append_getElem hj]
    exact (h.ent.keep hkg).snoc hb (hx.keep kw.all)
  · rw [h.order, hadP_step hj, h1, h2, h3, h4]
    simp
  · rw [List.take_succ_eq_append_getElem hj, List.mem_append, List.mem_singleton] at hi
    rcases hi with hi | rfl
    · rcases h.names i hi with e' | hl
      · exact .inr (e' ▸ leqS_no h2)
      · exact .inr (less_trans _ _ _ hl (leqS_no h2))
    · exact .inl rfl
theorem HadI.fresh {w w' : World} {bm : Nat} {G : Nat → Prop} {l : List PInN} {snm : ByteArray} {j : Nat} {last s : ByteArray} {L : List (ByteArray × Value)} (h : HadI w bm G l snm j last L w') (h2 : leqS s last = false) : lookI L s 0 = none :=
  h.ent.none (fun i hi => name_ne (by
    rcases h.names i hi with e' | hl
    · exact e' ▸ leqS_no h2
    · exact less_trans _ _ _ hl (leqS_no h2))) 0
theorem HadI.all {w w' w2 : World} {bm : Nat} {G : Nat → Prop} {l : List PInN} {snm : ByteArray} {j : Nat} {last : ByteArray} {L : List (ByteArray × Value)} (h : HadI w bm G l snm j last L w') (k : Keep All w' w2) : HadI w bm G l snm j last L w2 :=
  ⟨h.keep.trans k, h.map.keep k trivial, h.ent.keep k.all, h.order, h.names, k.cell (p := ⟨w.heap.size, 20, none⟩) trivial h.self, h.bm_⟩
theorem had63g (w : World) (G : Nat → Prop) (sbs : List UInt8) (snm : ByteArray) (l : List PInN) (v : Value) (hsb : sbs.length = 20) (h : InsV w G l v) (hG : ∀ i, G i → i < w.heap.size) : Calls Tryz.prog 63 #[.agg (pathCells sbs snm).toArray, v] w (HadOut w G l snm) := by
  obtain ⟨cs0, ⟨h1c, B, d, rfl, hlc, hn0, hm0, hA0, hat0⟩, hr0⟩ := id h
  obtain ⟨-, hmd, hdm, hat⟩ := h.at
  have HAT := Fact.mk hat
  have HG := Fact.mk hG
  obtain ⟨cs, hcs⟩ : ∃ cs, cs = pathCells sbs snm := ⟨_, rfl⟩
  rw [← hcs]
  obtain ⟨W, hW⟩ : ∃ X, X = w.alloc (.cells cs.toArray 50) := ⟨_, rfl⟩
  have KW : Fact (Keep All w W) := ⟨hW ▸ (Keep.refl _ w).alloc _⟩
  have BW : Fact (Blk W w.heap.size cs 50) := ⟨hW ▸ Blk.new w cs 50⟩
  have HI : Fact (HadI w W.heap.size G l snm 0 ⟨#[]⟩ [] (W.alloc (.map #[] 0))) := ⟨⟨KW.out.alloc _, MapS.new W, rfl, rfl, fun i hi => (by simp at hi), by
    have c20 : W.cell? ⟨w.heap.size, 20, none⟩ = some (.string snm) := BW.out.cell 20 _ (by rw [hcs, pathCells, List.getElem?_append_right (by simp [hsb])]; simp [hsb])
    exact ((Keep.refl All W).alloc (.map #[] 0)).cell (p := ⟨w.heap.size, 20, none⟩) trivial c20, BW.out.lt⟩⟩
  have HW := Fact.mk hW
  have hmk := run_makeMapS W
  have hl9 : l.length ≤ 9223372036854775807 := by unfold maxLen at hdm; omega
  clear h h1c hlc hn0 hm0 hA0 hat0 hr0 hat hdm hcs hW BW hG
  go_enter Tryz.func63, Tryz.ntmps63
  go_upto_region 4 with (refine Great.wpList_boxTo rfl 50 (.tmp 0) rfl (some 2) rfl w.heap.size rfl cs.toArray rfl ?_; rw [← HW.out])
  obtain ⟨W1, hW1⟩ : ∃ X, X = W.alloc (.map #[] 0) := ⟨_, rfl⟩
  rw [← hW1] at HI ⊢
  obtain ⟨bm, hbm⟩ : ∃ q, q = W.heap.size := ⟨_, rfl⟩
  rw [← hbm] at HI ⊢
  clear hW1 hbm hmk HW KW
  go_loopg [4, 5, 6, 12] l.length (fun g m q b i w' => ∃ (j : Nat) (last : ByteArray) (L : List (ByteArray × Value)), j + g = l.length ∧ m = .map (some bm) ∧ q = .bool false ∧ b = .string last ∧ i = .int .i64 j ∧ HadI w bm G l snm j last L w')
  case atStart => exact ⟨0, _, _, by omega, rfl, rfl, rfl, rfl, HI.out⟩
  case round =>
    obtain ⟨j, last, L, hj, rfl, rfl, rfl, rfl, hin⟩ := hrel
    have HJ := Fact.mk hj
    have HIN := Fact.mk hin
    clear hj hin HI
    by_cases hlt : j < l.length
    · obtain ⟨g, off, A, c, D, e, rfl, hg, hrg, hbs, hrx⟩ := HAT.out j hlt
      obtain ⟨k0, hkd⟩ : ∃ q, q = l[j].x.kind := ⟨_, rfl⟩
      obtain ⟨nme, hnme⟩ : ∃ q, q = l[j].name := ⟨_, rfl⟩
      obtain ⟨nm, hnm⟩ : ∃ q, q = l[j].nm := ⟨_, rfl⟩
      obtain ⟨x, hx⟩ : ∃ q, q = l[j].x := ⟨_, rfl⟩
      obtain ⟨cs, hcs⟩ : ∃ q, q = inCells l[j].name l[j].bs l[j].nm l[j].x.kind (.slice A l[j].x.bytes.length c) (.slice D l[j].x.kids.length e) := ⟨_, rfl⟩
      have HCL : Fact (cs.length = 25) := ⟨by rw [hcs]; exact inCells_len _ _ _ _ _ _ hbs⟩
      have HC1 : Fact (∀ u ∈ cs, u.oneCell' = true) := ⟨fun u hu => by
        rw [hcs] at hu
        simp only [inCells, pathCells, List.mem_cons, List.mem_append, List.not_mem_nil, or_false] at hu
        rcases hu with rfl | (hu | rfl) | rfl | rfl | rfl
        · rfl
        · exact u8v_one _ u hu
        · rfl
        · rfl
        · rfl
        · rfl⟩
      have HI4 : Fact (cs[0]? = some (.string nme) ∧ cs[21]? = some (.string nm) ∧ cs[22]? = some (.int .i64 x.kind) ∧ cs[23]? = some (.slice A x.bytes.length c) ∧ cs[24]? = some (.slice D x.kids.length e)) := ⟨by
        rw [hcs, hnme, hnm, hx]
        refine ⟨rfl, ?_, ?_, ?_, ?_⟩ <;> simp [inCells, pathCells, hbs]⟩
      rw [← hcs] at hrg
      have HRG : Fact (wr.rangeAt g (off + j * 25) cs) := ⟨fun q v hv => HIN.out.keep.cell trivial (hrg q v hv)⟩
      have HNX : Fact (nameP nme = true → leqS nme last = false → nameP nm = true → rightP x = true → ∀ w2 w', HadI w bm G l snm j last L w' → MapS w2 bm (L ++ [(nme, .agg cs.toArray)]) → Keep (fun i => i ≠ bm) w' w2 → HadI w bm G l snm (j + 1) nme (L ++ [(nme, .agg cs.toArray)]) w2) := ⟨fun h1 h2 h3 h4 w2 w' hi hm hk => by
        subst hcs
        subst hnme
        rw [hnm] at h3
        rw [hx] at h4
        exact hi.next hlt h1 h2 h3 h4 hbs hrx HG.out hm hk⟩
      have HNO : Fact ((nameP nme && !leqS nme last && nameP nm && rightP x) = false → hadP ⟨#[]⟩ l = false) := ⟨fun h => by
        rw [HIN.out.order, hadP_step hlt, ← hnme, ← hnm, ← hx, h, Bool.false_and]⟩
      have HRX : Fact (∀ w', Keep All w w' → NodeV w' G x (.agg #[.int .i64 x.kind, .slice A x.bytes.length c, .slice D x.kids.length e])) := ⟨fun w' k => ⟨A, c, D, e, rfl, by rw [hx]; exact hrx.keep k.all⟩⟩
      clear hkd hnme hnm hx hcs hrg hg hbs hrx
      go_upto_region 6 with (first
        | (refine wpList_load_mid rfl 66 (.tmp 14) rfl g (off + j * 25) ?hx cs _ ?hc Tryz.underlying66 ?hd ?hi ?hrest
           case hx => go_must (rfl)
           case hc => go_must (exact HRG.out)
           case hd => go_must (rfl)
           case hi => go_must (rw [HCL.out]; kernel_rfl))
        | (refine wpList_alloc66 rfl rfl ?_)
        | (refine wpList_store_mid rfl 66 (.tmp 8) (.tmp 15) rfl wr.heap.size 0 cs.toArray rfl rfl ?sa ?sb ?sc ?sd
           case sa => go_must (exact there_new (Blk.new wr zero66 66) _ (by simp [HCL.out, zero66_len]))
           case sb => go_must (rw [List.size_toArray, HCL.out]; kernel_rfl)
           case sc => go_must (rw [Array.all_eq_true_iff_forall_mem]; intro u hu; exact HC1.out u (by simpa using hu))))
      obtain ⟨W5, hW5⟩ : ∃ X, X = (wr.alloc (.cells zero66.toArray 66)).setCells wr.heap.size 0 cs.toArray.toList := ⟨_, rfl⟩
      have K5 : Fact (Keep All wr W5) := ⟨hW5 ▸ Keep.setCellsK _ _ _ ((Keep.refl _ wr).alloc _) (.inl (Nat.le_refl _))⟩
      have R5 : Fact (W5.rangeAt wr.heap.size 0 cs) := ⟨by
        have := World.rangeAt_setCells_same (wr.alloc (.cells zero66.toArray 66)) wr.heap.size 0 cs (there_new (Blk.new wr zero66 66) _ (by simp [HCL.out, zero66_len]))
        rw [hW5]
        exact this⟩
      have I5 := Fact.mk (HIN.out.all K5.out)
      rw [← hW5]
      clear hW5 HRG
      obtain ⟨b, hb⟩ : ∃ q, q = wr.heap.size := ⟨_, rfl⟩
      rw [← hb] at R5 ⊢
      have HB : Fact (b < bm ∨ bm < b) := ⟨by have := HIN.out.map.lt; omega⟩
      clear hb K5 HIN
      have C5 : Fact (∀ w', Keep All W5 w' → w'.cell? ⟨b, 0, none⟩ = some (.string nme) ∧ w'.cell? ⟨b, 21, none⟩ = some (.string nm) ∧ w'.cell? ⟨b, 22, none⟩ = some (.int .i64 x.kind) ∧ w'.cell? ⟨b, 23, none⟩ = some (.slice A x.bytes.length c) ∧ w'.cell? ⟨b, 24, none⟩ = some (.slice D x.kids.length e)) := ⟨fun w' k => by
        have t := fun n u (hu : cs[n]? = some u) => k.cell (p := ⟨b, n, none⟩) trivial ((by rw [Nat.zero_add] : W5.cell? ⟨b, n, none⟩ = W5.cell? ⟨b, 0 + n, none⟩) ▸ R5.out n u hu)
        exact ⟨t _ _ HI4.out.1, t _ _ HI4.out.2.1, t _ _ HI4.out.2.2.1, t _ _ HI4.out.2.2.2.1, t _ _ HI4.out.2.2.2.2⟩⟩
      obtain ⟨q0, q1, q2, q3, q4⟩ := C5.out W5 (Keep.refl _ _)
      have KC : Fact (Keep All W5 W5) := ⟨Keep.refl _ _⟩
      cases n1 : nameP nme with
      | false =>
        have HR : Fact (hadP ⟨#[]⟩ l = false) := ⟨HNO.out (by rw [n1]; rfl)⟩
        go_wp2_with (go_at_call 110; go_must (refine (nameAny110 _ _).mono ?_); rintro e wn ⟨rfl, hk⟩; have KN := Fact.mk (KC.out.trans hk); clear KC q0 q1 q2 q3 q4 hk; have KC := Fact.mk KN.out; clear KN; obtain ⟨q0, q1, q2, q3, q4⟩ := C5.out _ KC.out)
        go_ret2
        exact .no HR.out (I5.out.keep.trans KC.out) rfl
      | true =>
        cases n2 : leqS nme last with
        | true =>
          have HR : Fact (hadP ⟨#[]⟩ l = false) := ⟨HNO.out (by rw [n1, n2]; rfl)⟩
          have n2' : (Op.bytesLess nme.toList last.toList || nme.toList == last.toList) = true := n2
          have n2'' : (Op.bytesLess nme.toList last.toList = true ∨ nme.toList = last.toList) := by simpa using n2'
          clear n2
          go_wp2_with (go_at_call 110; go_must (refine (nameAny110 _ _).mono ?_); rintro e wn ⟨rfl, hk⟩; have KN := Fact.mk (KC.out.trans hk); clear KC q0 q1 q2 q3 q4 hk; have KC := Fact.mk KN.out; clear KN; obtain ⟨q0, q1, q2, q3, q4⟩ := C5.out _ KC.out)
          go_ret2
          exact .no HR.out (I5.out.keep.trans KC.out) rfl
        | false =>
          have n2' : (Op.bytesLess nme.toList last.toList || nme.toList == last.toList) = false := n2
          rw [Bool.or_eq_false_iff] at n2'
          have HN2 := Fact.mk n2
          obtain ⟨n2a, n2b⟩ := n2'
          clear n2
          cases n3 : nameP nm with
          | false =>
            have HR : Fact (hadP ⟨#[]⟩ l = false) := ⟨HNO.out (by rw [n1, HN2.out, n3]; rfl)⟩
            go_wp2_with (go_at_call 110; go_must (refine (nameAny110 _ _).mono ?_); rintro e wn ⟨rfl, hk⟩; have KN := Fact.mk (KC.out.trans hk); clear KC q0 q1 q2 q3 q4 hk; have KC := Fact.mk KN.out; clear KN; obtain ⟨q0, q1, q2, q3, q4⟩ := C5.out _ KC.out)
            go_ret2
            exact .no HR.out (I5.out.keep.trans KC.out) rfl
          | true =>
            cases n4 : rightP x with
            | false =>
              have HR : Fact (hadP ⟨#[]⟩ l = false) := ⟨HNO.out (by rw [n1, HN2.out, n3, n4]; rfl)⟩
              go_wp2_with (first
        | (go_at_call 110; go_must (refine (nameAny110 _ _).mono ?_); rintro e wn ⟨rfl, hk⟩; have KN := Fact.mk (KC.out.trans hk); clear KC q0 q1 q2 q3 q4 hk; have KC := Fact.mk KN.out; clear KN; obtain ⟨q0, q1, q2, q3, q4⟩ := C5.out _ KC.out)
        | (go_at_call 29; go_must (refine (right29g _ G x _ (HRX.out _ (I5.out.keep.trans KC.out))).mono ?_); rintro e wn ⟨rfl, hk⟩; have KN := Fact.mk (KC.out.trans hk); clear KC q0 q1 q2 q3 q4 hk; have KC := Fact.mk KN.out; clear KN; obtain ⟨q0, q1, q2, q3, q4⟩ := C5.out _ KC.out))
              go_ret2
              exact .no HR.out (I5.out.keep.trans KC.out) rfl
            | true =>
              have HNY := Fact.mk (HNX.out n1 HN2.out n3 n4)
              go_upto_region 8 with (first
                | (go_at_call 110; go_must (refine (nameAny110 _ _).mono ?_); rintro e wn ⟨rfl, hk⟩; have KN := Fact.mk (KC.out.trans hk); clear KC q0 q1 q2 q3 q4 hk; have KC := Fact.mk KN.out; clear KN; obtain ⟨q0, q1, q2, q3, q4⟩ := C5.out _ KC.out)
                | (go_at_call 29; go_must (refine (right29g _ G x _ (HRX.out _ (I5.out.keep.trans KC.out))).mono ?_); rintro e wn ⟨rfl, hk⟩; have KN := Fact.mk (KC.out.trans hk); clear KC q0 q1 q2 q3 q4 hk; have KC := Fact.mk KN.out; clear KN; obtain ⟨q0, q1, q2, q3, q4⟩ := C5.out _ KC.out))
              obtain ⟨b5, hb5⟩ : ∃ q : Fact (W5.rangeAt b 0 cs), q = R5 := ⟨_, rfl⟩
              have IW := Fact.mk (I5.out.all KC.out)
              have S8 : Fact (∀ w', Keep (fun i => i ≠ bm) wn w' → w'.cell? ⟨b, 0, none⟩ = some (.string nme) ∧ w'.rangeAt b 0 cs) := ⟨fun w' k => ⟨k.cell (p := ⟨b, 0, none⟩) (by have := HB.out; show b ≠ bm; omega) q0, fun n u hu => k.cell (p := ⟨b, 0 + n, none⟩) (by have := HB.out; show b ≠ bm; omega) (KC.out.cell trivial (R5.out n u hu))⟩⟩
              have HFR : Fact (lookI L nme 0 = none) := ⟨IW.out.fresh HN2.out⟩
              have HLD : Fact (∀ w' : World, w'.rangeAt b 0 cs → (loadVar 66 ⟨b, 0, none⟩).run Tryz.prog w' = .ok (.agg cs.toArray) w') := ⟨fun w' h => run_loadVar_mid w' b 0 66 cs _ h Tryz.underlying66 rfl (by rw [HCL.out]; kernel_rfl)⟩
              clear b5 hb5 n1 n2a n2b n3 n4 q0 q1 q2 q3 q4
              refine wp_region_T 99 (fun w' => w'.cell? ⟨b, 0, none⟩ = some (.string nme) ∧ w'.rangeAt b 0 cs) (by kernel_rfl) (by exact S8.out _ (Keep.refl _ wn).drew) (fun hHeld => ?_)
              refine takeH (i := 0) (v := ?_) rfl (by kernel_rfl) (by kernel_rfl) (by kernel_rfl) rfl (fun _ _ _ h => h) rfl ?_ (by assumption) ?_
              rotate_left
              · (intro w hSw; (try dsimp only at hSw); go_simp; try with_reducible rfl)
              try simp only [Act.put, List.setIfInBounds_toArray, List.set_cons_zero, List.set_cons_succ]
              refine takeH (i := 1) (v := ?_) rfl (by kernel_rfl) (by kernel_rfl) (by kernel_rfl) rfl (fun _ _ _ h => h) rfl ?_ (by assumption) ?_
              rotate_left
              · (intro w hSw; (try dsimp only at hSw); go_simp; try with_reducible rfl)
              try simp only [Act.put, List.setIfInBounds_toArray, List.set_cons_zero, List.set_cons_succ]
              refine takeH (i := 2) (v := ?_) rfl (by kernel_rfl) (by kernel_rfl) (by kernel_rfl) rfl (fun _ _ _ h => h) rfl ?_ (by assumption) ?_
              rotate_left
              · (intro w hSw; (try dsimp only at hSw); go_simp; try with_reducible rfl)
              try simp only [Act.put, List.setIfInBounds_toArray, List.set_cons_zero, List.set_cons_succ]
              refine takeH (i := 3) (v := ?_) rfl (by kernel_rfl) (by kernel_rfl) (by kernel_rfl) rfl (fun _ _ _ h => h) rfl ?_ (by assumption) ?_
              rotate_left
              · (intro w hSw; (try dsimp only at hSw); go_simp; try with_reducible rfl)
              try simp only [Act.put, List.setIfInBounds_toArray, List.set_cons_zero, List.set_cons_succ]
              refine takeH (i := 4) (v := ?_) rfl (by kernel_rfl) (by kernel_rfl) (by kernel_rfl) rfl (fun _ _ _ h => h) rfl ?_ (by assumption) ?_
              rotate_left
              · (intro w hSw; (try dsimp only at hSw); go_simp; try with_reducible rfl)
              try simp only [Act.put, List.setIfInBounds_toArray, List.set_cons_zero, List.set_cons_succ]
              refine takeH (i := 5) (v := .agg cs.toArray) rfl (by kernel_rfl) (by kernel_rfl) (by kernel_rfl) rfl (fun _ _ _ h => h) rfl ?_ (by assumption) ?_
              · intro w2 hSw
                unfold execOp
                simp only [Instr.loadAt, Instr.sureAddr, Sem.run_bind, Sem.run_pure, Act.eval]
                exact congrArg (fun r => Result.andThen r fun v w => Result.ok (Next.value v) w) (HLD.out w2 hSw.2)
              try simp only [Act.put, List.setIfInBounds_toArray, List.set_cons_zero, List.set_cons_succ]
              refine takeH (i := 6) (v := ?_) rfl (by kernel_rfl) (by kernel_rfl) (by kernel_rfl) rfl (fun _ _ _ h => h) rfl ?_ (by assumption) ?_
              rotate_left
              · (intro w hSw; (try dsimp only at hSw); go_simp; try with_reducible rfl)
              try simp only [Act.put, List.setIfInBounds_toArray, List.set_cons_zero, List.set_cons_succ]
              clear hHeld
              refine nextT (i := 7) (by kernel_rfl) rfl (fun K hK => ?_)
              have ID := Fact.mk (IW.out.all (Keep.refl All wn).drew)
              obtain ⟨w8, hr8, hm8, hk8⟩ := run_updateS (P := Tryz.prog) (t := 134) (kt := 9) (et := 66) ID.out.map nme (.agg cs.toArray) (by kernel_rfl) Tryz.underlying9 HFR.out
              have I8 := Fact.mk (HNY.out w8 _ ID.out hm8 hk8)
              have HK8 := Fact.mk hk8
              clear hm8 hk8
              go_simp
              refine hK.out _ _ (by exact S8.out _ ((Keep.refl _ wn).drew.trans HK8.out)) (fun hHeld => ⟨by kernel_rfl, ?_⟩)
              clear hK K hHeld hr8
              try simp only [Act.put, List.setIfInBounds_toArray, List.set_cons_zero, List.set_cons_succ]
              go_wp2
              go_roundg (gk - 1)
              case measure => have := HJ.out; omega
              case rel => exact ⟨j + 1, _, _, by have := HJ.out; omega, rfl, rfl, rfl, by go_num, I8.out⟩
    · have hq := HIN.out.self
      have HE : Fact (hadP ⟨#[]⟩ l = true ∧ EntR wr G l L) := ⟨by
        have h1 := HIN.out.order
        have h2 := HIN.out.ent
        rw [List.drop_eq_nil_of_le (by omega)] at h1
        rw [List.take_of_length_le (by omega)] at h2
        exact ⟨h1, h2⟩⟩
      go_wp2_with (go_at_call 110; go_must (refine (nameAny110 _ _).mono ?_); rintro e wn ⟨rfl, hk⟩; have KN := Fact.mk hk; clear hk)
      go_ret2
      have hbm := HIN.out.bm_
      exact ⟨by rw [if_pos HE.out.1]; exact ⟨bm, L, rfl, by omega, HIN.out.map.keep KN.out trivial, HE.out.2.keep KN.out.all⟩, HIN.out.keep.trans KN.out⟩
end Go.Proofs.YtddmbdigdnmfgaaGreatDoor
