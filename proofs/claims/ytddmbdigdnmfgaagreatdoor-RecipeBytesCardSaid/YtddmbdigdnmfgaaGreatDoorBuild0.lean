import Derived.Test.YtddmbdigdnmfgaaGreatDoorRec7
import Derived.Test.YtddmbdigdnmfgaaGreatDoorPass
namespace Go.Proofs.YtddmbdigdnmfgaaGreatDoor
open Go.RowKit
set_option maxHeartbeats 1000000
set_option maxRecDepth 100000

/-- One operation's four cells from ⟨ob, o⟩ on. -/
structure OpAt (w : World) (G : Nat → Prop) (ob o : Nat) (k : Int) (t : List UInt8) (A : Option Addr) (c : Nat) : Prop where
  kind : w.cell? ⟨ob, o, none⟩ = some (.int .i64 k)
  n : w.cell? ⟨ob, o + 1, none⟩ = some (.int .i64 0)
  m : w.cell? ⟨ob, o + 2, none⟩ = some (.int .i64 0)
  text : w.cell? ⟨ob, o + 3, none⟩ = some (.slice A t.length c)
  by_ : By w G (.slice A t.length c) t
  own : G ob
theorem OpAt.keep {w w' : World} {G : Nat → Prop} {ob o c : Nat} {k : Int} {t : List UInt8} {A : Option Addr} (h : OpAt w G ob o k t A c) (hk : Keep G w w') : OpAt w' G ob o k t A c :=
  ⟨hk.cell (p := ⟨ob, o, none⟩) h.own h.kind, hk.cell (p := ⟨ob, o + 1, none⟩) h.own h.n, hk.cell (p := ⟨ob, o + 2, none⟩) h.own h.m, hk.cell (p := ⟨ob, o + 3, none⟩) h.own h.text, h.by_.keep hk, h.own⟩

theorem scope_passes {P : Program} {c rest : Code} {Q : Exit → Act → World → Prop} {a : Act} {w : World} (l n : Nat) (hf : findLabel c l = some rest)
    (first : ∀ J : Act → World → Prop, Fact (∀ a w, Pass P rest l Q n a w → J a w) → c.wp P (Exit.jump l J Q) a w) : (Code.scope c).wp P Q a w := wp_scope_passes l n hf (first _ ⟨fun _ _ h => h⟩)
theorem pass_succ {P : Program} {rest : Code} {Q : Exit → Act → World → Prop} {a : Act} {w : World} {l n : Nat}
    (h : ∀ J : Act → World → Prop, Fact (∀ a w, Pass P rest l Q n a w → J a w) → rest.wp P (Exit.jump l J Q) a w) : Pass P rest l Q (n + 1) a w := h _ ⟨fun _ _ h => h⟩
end Go.Proofs.YtddmbdigdnmfgaaGreatDoor
