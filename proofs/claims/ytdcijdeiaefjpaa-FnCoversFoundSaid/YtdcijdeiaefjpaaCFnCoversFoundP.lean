/- The kinds of values. Proved in this text: its theorems. Conditions: as each theorem states them. -/
import Derived.Test.YtdcijdeiaefjpaaProg
import Derived.Shelf.Abstract
import Derived.Deep.Slices
import Derived.Deep.Fields
import Derived.ChangeSame
import Derived.ChangeSlices
import Derived.Lib.SmallJoins
import Derived.ProofKit
import Derived.OpenShut
import Derived.ShutString
import Derived.ChangeOld
import Derived.SizedLaws
import Derived.Carry
import Derived.Below
import Derived.Deep.Draws
import Derived.Deep.AppendLies
import Derived.Maps.AppendAt
import Derived.OwnWalk
import Derived.Laws.BytesArg
import Derived.Laws.MakeOwn
import Derived.Laws.OwnMore
import Derived.Deep.OwnRows
import Derived.Tactics
import Derived.Lib.ConvBytes
import Derived.Laws.Slices
import Derived.WalkKit
import Derived.KernelRfl
import Derived.RowKit3
import Derived.Deep.LoopGhost
import Derived.Deep.QuietTactic
import Derived.BigQuiet
import Derived.WideLaws
import Derived.Deep.DeepCutAuto
import Derived.Deep.CutBlock
import Derived.Deep.RegionHeld3
import Derived.Laws.Rows
import Derived.Lib.AppendStr
import Derived.ArgAppend
import Derived.Laws.IdiomCopy
import Derived.RowKit
import Derived.OrdersHeld
import Derived.Laws.BitsLemmas
import Derived.Laws.StructEq
import Derived.Test.YtdcijdeiaefjpaaCFnCoversFoundW0

namespace Go.Proofs.Ytdcijdeiaefjpaa.P
open Go.RowKit Go.Proofs.YtdcijdeiaefjpaaW.PrintWords Go.Proofs.YtdcijdeiaefjpaaW.PrintLast Go.Proofs.YtdcijdeiaefjpaaW.PrintMore
attribute [local go_sem] max2_int min2_int max_two min_two max_three min_three max_four min_four
set_option linter.unusedVariables false
set_option linter.unusedSimpArgs false
def errW : Option Int → Value
  | none => .nilIface
  | some c => .iface 0 (.int .i64 c)
theorem errW_none : errW none = .nilIface := rfl
theorem errW_some (c : Int) : errW (some c) = .iface 0 (.int .i64 c) := rfl
theorem info3 : (Try.prog.info? 3).map (fun i => (i.zero, i.size, i.bytes)) = some (some (.int .i64 0), 1, 8) := by kernel_rfl
theorem info24 : (Try.prog.info? 24).map (fun i => (i.zero, i.size, i.bytes)) = some (some (.slice none 0 0), 1, 24) := by kernel_rfl
theorem info38 : (Try.prog.info? 38).map (fun i => (i.zero, i.size, i.bytes)) = some (some (.agg #[(.int .i64 0), (.int .i64 0)]), 2, 16) := by kernel_rfl
def rd_u8s (xs : List (List Int)) (i : Int) : (List Int) := xs.getD i.toNat ([] : List Int)
theorem at_u8s {w : World} {A : Option Addr} {n : Nat} {xs : List (List Int)} (h : Kd.C (Kd.slice 5 (Kd.int .u8)) w A n xs) (i : Int) (h0 : 0 ≤ i) (h1 : i < n) : ∃ ad A0 c0, A = some ad ∧ w.cell? (ad.add i.toNat) = some (.slice A0 (rd_u8s xs i).length c0) ∧ (rd_u8s xs i).length ≤ c0 ∧ (Kd.int .u8).C w A0 (rd_u8s xs i).length (rd_u8s xs i) := by
  obtain ⟨ad, c, e, _, hK, hc0⟩ := Kd.C_get h ([] : List Int) i h0 h1
  have hc : ∀ j u, c[j]? = some u → w.cell? (ad.add (i.toNat * 1 + j)) = some u := hc0
  obtain ⟨A0, c0, rfl, l0, g0⟩ := hK
  exact ⟨ad, A0, c0, e, by have hq := hc 0 _ rfl; rwa [Nat.mul_one, Nat.add_zero] at hq, l0, g0⟩
def rd_Ints (xs : List (List Int)) (i : Int) : (List Int) := xs.getD i.toNat ([] : List Int)
theorem at_Ints {w : World} {A : Option Addr} {n : Nat} {xs : List (List Int)} (h : Kd.C (Kd.slice 3 (Kd.int .i64)) w A n xs) (i : Int) (h0 : 0 ≤ i) (h1 : i < n) : ∃ ad A0 c0, A = some ad ∧ w.cell? (ad.add i.toNat) = some (.slice A0 (rd_Ints xs i).length c0) ∧ (rd_Ints xs i).length ≤ c0 ∧ (Kd.int .i64).C w A0 (rd_Ints xs i).length (rd_Ints xs i) := by
  obtain ⟨ad, c, e, _, hK, hc0⟩ := Kd.C_get h ([] : List Int) i h0 h1
  have hc : ∀ j u, c[j]? = some u → w.cell? (ad.add (i.toNat * 1 + j)) = some u := hc0
  obtain ⟨A0, c0, rfl, l0, g0⟩ := hK
  exact ⟨ad, A0, c0, e, by have hq := hc 0 _ rfl; rwa [Nat.mul_one, Nat.add_zero] at hq, l0, g0⟩
structure SRule where
  f0 : Int
  f1 : Int
def zRule : SRule := ⟨(0 : Int), (0 : Int)⟩
def kRule : Kd SRule := Kd.iso (Kd.pair (Kd.int .i64) (Kd.int .i64)) (fun x : SRule => (x.f0, x.f1))
theorem kRule_open {w : World} {x : SRule} {cs : List Value} (h : kRule.K w x cs) : cs = [.int .i64 x.f0, .int .i64 x.f1] := by
  obtain ⟨_, _, rfl, rfl, rfl⟩ := h
  exact rfl
theorem kRule_openM {w : World} {base : Nat} {ok : Nat → Prop} {x : SRule} {cs : List Value} (h : kRule.M w base ok x cs) : cs = [.int .i64 x.f0, .int .i64 x.f1] := by
  obtain ⟨_, _, rfl, rfl, rfl⟩ := h
  exact rfl
theorem kRule_mk (w : World) (x : SRule)  : kRule.K w x [.int .i64 x.f0, .int .i64 x.f1] := ⟨[.int .i64 x.f0], [.int .i64 x.f1], rfl, rfl, rfl⟩
theorem kRule_mkM (w : World) (base : Nat) (ok : Nat → Prop) (x : SRule)  : kRule.M w base ok x [.int .i64 x.f0, .int .i64 x.f1] := ⟨[.int .i64 x.f0], [.int .i64 x.f1], rfl, rfl, rfl⟩
def rd_Rule (xs : List SRule) (i : Int) : SRule := xs.getD i.toNat zRule
theorem at_Rule {w : World} {A : Option Addr} {n : Nat} {xs : List SRule} (h : Kd.C kRule w A n xs) (i : Int) (h0 : 0 ≤ i) (h1 : i < n) : ∃ ad , A = some ad ∧ w.cell? (ad.add (i.toNat * 2)) = some (.int .i64 (rd_Rule xs i).f0) ∧ w.cell? ⟨(ad.add (i.toNat * 2)).block, (ad.add (i.toNat * 2)).off + 1, none⟩ = some (.int .i64 (rd_Rule xs i).f1) := by
  obtain ⟨ad, c, e, _, hK, hc0⟩ := Kd.C_get h zRule i h0 h1
  have hc : ∀ j u, c[j]? = some u → w.cell? (ad.add (i.toNat * 2 + j)) = some u := hc0
  obtain rfl := kRule_open hK
  exact ⟨ad, e, hc 0 _ rfl, by rw [← add_field _ _ 1 (by omega)]; exact hc 1 _ rfl⟩
def rd_Rules (xs : List (List SRule)) (i : Int) : (List SRule) := xs.getD i.toNat ([] : List SRule)
theorem at_Rules {w : World} {A : Option Addr} {n : Nat} {xs : List (List SRule)} (h : Kd.C (Kd.slice 38 kRule) w A n xs) (i : Int) (h0 : 0 ≤ i) (h1 : i < n) : ∃ ad A0 c0, A = some ad ∧ w.cell? (ad.add i.toNat) = some (.slice A0 (rd_Rules xs i).length c0) ∧ (rd_Rules xs i).length ≤ c0 ∧ kRule.C w A0 (rd_Rules xs i).length (rd_Rules xs i) := by
  obtain ⟨ad, c, e, _, hK, hc0⟩ := Kd.C_get h ([] : List SRule) i h0 h1
  have hc : ∀ j u, c[j]? = some u → w.cell? (ad.add (i.toNat * 1 + j)) = some u := hc0
  obtain ⟨A0, c0, rfl, l0, g0⟩ := hK
  exact ⟨ad, A0, c0, e, by have hq := hc 0 _ rfl; rwa [Nat.mul_one, Nat.add_zero] at hq, l0, g0⟩
def rd_Ruless (xs : List (List (List SRule))) (i : Int) : (List (List SRule)) := xs.getD i.toNat ([] : List (List SRule))
theorem at_Ruless {w : World} {A : Option Addr} {n : Nat} {xs : List (List (List SRule))} (h : Kd.C (Kd.slice 28 (Kd.slice 38 kRule)) w A n xs) (i : Int) (h0 : 0 ≤ i) (h1 : i < n) : ∃ ad A0 c0, A = some ad ∧ w.cell? (ad.add i.toNat) = some (.slice A0 (rd_Ruless xs i).length c0) ∧ (rd_Ruless xs i).length ≤ c0 ∧ (Kd.slice 38 kRule).C w A0 (rd_Ruless xs i).length (rd_Ruless xs i) := by
  obtain ⟨ad, c, e, _, hK, hc0⟩ := Kd.C_get h ([] : List (List SRule)) i h0 h1
  have hc : ∀ j u, c[j]? = some u → w.cell? (ad.add (i.toNat * 1 + j)) = some u := hc0
  obtain ⟨A0, c0, rfl, l0, g0⟩ := hK
  exact ⟨ad, A0, c0, e, by have hq := hc 0 _ rfl; rwa [Nat.mul_one, Nat.add_zero] at hq, l0, g0⟩
class Near (w w1 : World) : Prop where nr : Below w.heap.size w w1
instance Near.same (w : World) : Near w w := ⟨Below.refl _ _⟩
instance Near.drewN (w w1 : World) (n : Nat) [h : Near w w1] : Near w (w1.drewN n) := ⟨pw_below_drewN h.nr n⟩
instance Near.drew (w w1 : World) [h : Near w w1] : Near w w1.drew := ⟨below_drew1 h.nr⟩
instance Near.alloc (w w1 : World) (o : Obj) [h : Near w w1] : Near w (w1.alloc o) := ⟨below_alloc h.nr o⟩
class Mv (P : Prop) (w1 w2 : World) (Q : outParam Prop) : Prop where mv : P → Below w1.heap.size w1 w2 → Q
instance Mv.R {α : Type} (d : Kd α) (e base : Nat) (ok : Nat → Prop) (v : Value) (xs : List α) (w w1 w2 : World) [h : Near w w1] : Mv (d.R e w base ok v xs) w1 w2 (d.R e w2 base ok v xs) := ⟨fun p hb => Kd.R_below p (below_step h.nr hb)⟩
instance Mv.S {α : Type} (d : Kd α) (e base : Nat) (ok : Nat → Prop) (v : Value) (xs : List α) (w w1 w2 : World) [h : Near w w1] : Mv (d.S e w base ok v xs) w1 w2 (d.S e w2 base ok v xs) := ⟨fun p hb => Kd.S_below p (below_step h.nr hb)⟩
instance Mv.blk (g : Nat) (o : Obj) (w w1 w2 : World) [h : Near w w1] : Mv (w.heap[g]? = some o) w1 w2 (w2.heap[g]? = some o) := ⟨fun p hb => blk_below p (below_step h.nr hb)⟩
instance Mv.below (w0 w w1 w2 : World) [h : Near w w1] : Mv (Below w0.heap.size w0 w) w1 w2 (Below w0.heap.size w0 w2) := ⟨fun p hb => below_step p (below_step h.nr hb)⟩
instance Mv.keep (w0 w w1 w2 : World) (g : Nat) [h : Near w w1] : Mv (KeepBut w0 w g none) w1 w2 (KeepBut w0 w2 g none) := ⟨fun p hb => KeepBut.trans p (KeepBut.of_below (below_step h.nr hb) g none) (.inl rfl)⟩
theorem _root_.Go.Proofs.YtdcijdeiaefjpaaW.PrintWords.Aside0.mv {P Q : Prop} {w1 w2 : World} (h : Aside0 P) (hb : Below w1.heap.size w1 w2) [m : Mv P w1 w2 Q] : Q := m.mv h.out hb
theorem _root_.Go.Proofs.YtdcijdeiaefjpaaW.PrintWords.Aside0.ge {w w1 W : World} (h : Aside0 (Below w.heap.size w w1)) [m : Near w1 W] {g : Nat} (hg : g = W.heap.size) : w.heap.size ≤ g := hg ▸ Nat.le_trans h.out.size m.nr.size
theorem _root_.Go.Proofs.YtdcijdeiaefjpaaW.PrintWords.Aside0.ne {w W : World} {g g' : Nat} {o : Obj} (h : Aside0 (w.heap[g]? = some o)) [m : Near w W] (hg : g' = W.heap.size) : g ≠ g' := fun e => by
  have h1 := blk_lt h.out
  have h2 := m.nr.size
  omega
end Go.Proofs.Ytdcijdeiaefjpaa.P
