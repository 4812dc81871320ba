/- The kinds of values. Proved in this text: its theorems. Conditions: as each theorem states them. -/
import Derived.Test.YtgmfaleamhpfjaaDoorProg
import Derived.Shelf.Abstract
import Derived.Shelf.Strings.SlTrimAscii
import Derived.Lib.OthersKept
import Derived.Deep.Slices
import Derived.Deep.Fields
import Derived.ChangeSame
import Derived.ChangeSlices
import Derived.Lib.SmallJoins
import Derived.ProofKit
import Derived.OpenShut
import Derived.ShutString
import Derived.ChangeOld
import Derived.SizedLaws
import Derived.Carry
import Derived.Deep.DeepHandedRow
import Derived.Lib.LaidTab
import Derived.Below
import Derived.Deep.Draws
import Derived.Deep.AppendLies
import Derived.Maps.AppendAt
import Derived.OwnWalk
import Derived.Laws.BytesArg
import Derived.Laws.MakeOwn
import Derived.Laws.OwnMore
import Derived.Deep.OwnRows
import Derived.Tactics
import Derived.Lib.ConvBytes
import Derived.Laws.Slices
import Derived.WalkKit
import Derived.KernelRfl
import Derived.RowKit3
import Derived.Deep.LoopGhost
import Derived.Deep.QuietTactic
import Derived.BigQuiet
import Derived.WideLaws
import Derived.Deep.DeepCutAuto
import Derived.Deep.CutBlock
import Derived.Deep.RegionHeld3
import Derived.Laws.Rows
import Derived.Lib.AppendStr
import Derived.ArgAppend
import Derived.Laws.IdiomCopy
import Derived.RowKit
import Derived.OrdersHeld
import Derived.Laws.BitsLemmas
import Derived.Laws.StructEq
import Derived.Test.YtgmfaleamhpfjaaDoorCFnPuzzlesSievedW0

namespace Go.Proofs.YtgmfaleamhpfjaaDoor.P
open Go.RowKit Go.Proofs.YtgmfaleamhpfjaaDoorW.PrintWords Go.Proofs.YtgmfaleamhpfjaaDoorW.PrintLast Go.Proofs.YtgmfaleamhpfjaaDoorW.PrintMore
attribute [local go_sem] max2_int min2_int max_two min_two max_three min_three max_four min_four
set_option linter.unusedVariables false
set_option linter.unusedSimpArgs false
def errW : Option Int → Value
  | none => .nilIface
  | some c => .iface 0 (.int .i64 c)
theorem errW_none : errW none = .nilIface := rfl
theorem errW_some (c : Int) : errW (some c) = .iface 0 (.int .i64 c) := rfl
theorem info3 : (Tryd.prog.info? 3).map (fun i => (i.zero, i.size, i.bytes)) = some (some (.int .i64 0), 1, 8) := by kernel_rfl
theorem info9 : (Tryd.prog.info? 9).map (fun i => (i.zero, i.size, i.bytes)) = some (some (.string ⟨#[]⟩), 1, 16) := by kernel_rfl
theorem info61 : (Tryd.prog.info? 61).map (fun i => (i.zero, i.size, i.bytes)) = some (some (.agg #[(.int .i64 0), (.int .i64 0)]), 2, 16) := by kernel_rfl
def rd_u8s (xs : List (List Int)) (i : Int) : (List Int) := xs.getD i.toNat ([] : List Int)
theorem at_u8s {w : World} {A : Option Addr} {n : Nat} {xs : List (List Int)} (h : Kd.C (Kd.slice 5 (Kd.int .u8)) w A n xs) (i : Int) (h0 : 0 ≤ i) (h1 : i < n) : ∃ ad A0 c0, A = some ad ∧ w.cell? (ad.add i.toNat) = some (.slice A0 (rd_u8s xs i).length c0) ∧ (rd_u8s xs i).length ≤ c0 ∧ (Kd.int .u8).C w A0 (rd_u8s xs i).length (rd_u8s xs i) := by
  obtain ⟨ad, c, e, _, hK, hc0⟩ := Kd.C_get h ([] : List Int) i h0 h1
  have hc : ∀ j u, c[j]? = some u → w.cell? (ad.add (i.toNat * 1 + j)) = some u := hc0
  obtain ⟨A0, c0, rfl, l0, g0⟩ := hK
  exact ⟨ad, A0, c0, e, by have hq := hc 0 _ rfl; rwa [Nat.mul_one, Nat.add_zero] at hq, l0, g0⟩
structure SRule where
  f0 : Int
  f1 : Int
def zRule : SRule := ⟨(0 : Int), (0 : Int)⟩
def kRule : Kd SRule := Kd.iso (Kd.pair (Kd.int .i64) (Kd.int .i64)) (fun x : SRule => (x.f0, x.f1))
theorem kRule_open {w : World} {x : SRule} {cs : List Value} (h : kRule.K w x cs) : cs = [.int .i64 x.f0, .int .i64 x.f1] := by
  obtain ⟨_, _, rfl, rfl, rfl⟩ := h
  exact rfl
theorem kRule_openM {w : World} {base : Nat} {ok : Nat → Prop} {x : SRule} {cs : List Value} (h : kRule.M w base ok x cs) : cs = [.int .i64 x.f0, .int .i64 x.f1] := by
  obtain ⟨_, _, rfl, rfl, rfl⟩ := h
  exact rfl
theorem kRule_mk (w : World) (x : SRule)  : kRule.K w x [.int .i64 x.f0, .int .i64 x.f1] := ⟨[.int .i64 x.f0], [.int .i64 x.f1], rfl, rfl, rfl⟩
theorem kRule_mkM (w : World) (base : Nat) (ok : Nat → Prop) (x : SRule)  : kRule.M w base ok x [.int .i64 x.f0, .int .i64 x.f1] := ⟨[.int .i64 x.f0], [.int .i64 x.f1], rfl, rfl, rfl⟩
def rd_Rule (xs : List SRule) (i : Int) : SRule := xs.getD i.toNat zRule
theorem at_Rule {w : World} {A : Option Addr} {n : Nat} {xs : List SRule} (h : Kd.C kRule w A n xs) (i : Int) (h0 : 0 ≤ i) (h1 : i < n) : ∃ ad , A = some ad ∧ w.cell? (ad.add (i.toNat * 2)) = some (.int .i64 (rd_Rule xs i).f0) ∧ w.cell? ⟨(ad.add (i.toNat * 2)).block, (ad.add (i.toNat * 2)).off + 1, none⟩ = some (.int .i64 (rd_Rule xs i).f1) := by
  obtain ⟨ad, c, e, _, hK, hc0⟩ := Kd.C_get h zRule i h0 h1
  have hc : ∀ j u, c[j]? = some u → w.cell? (ad.add (i.toNat * 2 + j)) = some u := hc0
  obtain rfl := kRule_open hK
  exact ⟨ad, e, hc 0 _ rfl, by rw [← add_field _ _ 1 (by omega)]; exact hc 1 _ rfl⟩
def rd_Rules (xs : List (List SRule)) (i : Int) : (List SRule) := xs.getD i.toNat ([] : List SRule)
theorem at_Rules {w : World} {A : Option Addr} {n : Nat} {xs : List (List SRule)} (h : Kd.C (Kd.slice 61 kRule) w A n xs) (i : Int) (h0 : 0 ≤ i) (h1 : i < n) : ∃ ad A0 c0, A = some ad ∧ w.cell? (ad.add i.toNat) = some (.slice A0 (rd_Rules xs i).length c0) ∧ (rd_Rules xs i).length ≤ c0 ∧ kRule.C w A0 (rd_Rules xs i).length (rd_Rules xs i) := by
  obtain ⟨ad, c, e, _, hK, hc0⟩ := Kd.C_get h ([] : List SRule) i h0 h1
  have hc : ∀ j u, c[j]? = some u → w.cell? (ad.add (i.toNat * 1 + j)) = some u := hc0
  obtain ⟨A0, c0, rfl, l0, g0⟩ := hK
  exact ⟨ad, A0, c0, e, by have hq := hc 0 _ rfl; rwa [Nat.mul_one, Nat.add_zero] at hq, l0, g0⟩
structure SPuzzle where
  f0 : ByteArray
  f1 : Int
def zPuzzle : SPuzzle := ⟨(⟨#[]⟩ : ByteArray), (0 : Int)⟩
def kPuzzle : Kd SPuzzle := Kd.iso (Kd.pair Kd.string (Kd.int .i64)) (fun x : SPuzzle => (x.f0, x.f1))
theorem kPuzzle_open {w : World} {x : SPuzzle} {cs : List Value} (h : kPuzzle.K w x cs) : cs = [.string x.f0, .int .i64 x.f1] := by
  obtain ⟨_, _, rfl, rfl, rfl⟩ := h
  exact rfl
theorem kPuzzle_openM {w : World} {base : Nat} {ok : Nat → Prop} {x : SPuzzle} {cs : List Value} (h : kPuzzle.M w base ok x cs) : cs = [.string x.f0, .int .i64 x.f1] := by
  obtain ⟨_, _, rfl, rfl, rfl⟩ := h
  exact rfl
theorem kPuzzle_mk (w : World) (x : SPuzzle)  : kPuzzle.K w x [.string x.f0, .int .i64 x.f1] := ⟨[.string x.f0], [.int .i64 x.f1], rfl, rfl, rfl⟩
theorem kPuzzle_mkM (w : World) (base : Nat) (ok : Nat → Prop) (x : SPuzzle)  : kPuzzle.M w base ok x [.string x.f0, .int .i64 x.f1] := ⟨[.string x.f0], [.int .i64 x.f1], rfl, rfl, rfl⟩
def rd_Puzzle (xs : List SPuzzle) (i : Int) : SPuzzle := xs.getD i.toNat zPuzzle
theorem at_Puzzle {w : World} {A : Option Addr} {n : Nat} {xs : List SPuzzle} (h : Kd.C kPuzzle w A n xs) (i : Int) (h0 : 0 ≤ i) (h1 : i < n) : ∃ ad , A = some ad ∧ w.cell? (ad.add (i.toNat * 2)) = some (.string (rd_Puzzle xs i).f0) ∧ w.cell? ⟨(ad.add (i.toNat * 2)).block, (ad.add (i.toNat * 2)).off + 1, none⟩ = some (.int .i64 (rd_Puzzle xs i).f1) := by
  obtain ⟨ad, c, e, _, hK, hc0⟩ := Kd.C_get h zPuzzle i h0 h1
  have hc : ∀ j u, c[j]? = some u → w.cell? (ad.add (i.toNat * 2 + j)) = some u := hc0
  obtain rfl := kPuzzle_open hK
  exact ⟨ad, e, hc 0 _ rfl, by rw [← add_field _ _ 1 (by omega)]; exact hc 1 _ rfl⟩
def rd_Ruless (xs : List (List (List SRule))) (i : Int) : (List (List SRule)) := xs.getD i.toNat ([] : List (List SRule))
theorem at_Ruless {w : World} {A : Option Addr} {n : Nat} {xs : List (List (List SRule))} (h : Kd.C (Kd.slice 47 (Kd.slice 61 kRule)) w A n xs) (i : Int) (h0 : 0 ≤ i) (h1 : i < n) : ∃ ad A0 c0, A = some ad ∧ w.cell? (ad.add i.toNat) = some (.slice A0 (rd_Ruless xs i).length c0) ∧ (rd_Ruless xs i).length ≤ c0 ∧ (Kd.slice 61 kRule).C w A0 (rd_Ruless xs i).length (rd_Ruless xs i) := by
  obtain ⟨ad, c, e, _, hK, hc0⟩ := Kd.C_get h ([] : List (List SRule)) i h0 h1
  have hc : ∀ j u, c[j]? = some u → w.cell? (ad.add (i.toNat * 1 + j)) = some u := hc0
  obtain ⟨A0, c0, rfl, l0, g0⟩ := hK
  exact ⟨ad, A0, c0, e, by have hq := hc 0 _ rfl; rwa [Nat.mul_one, Nat.add_zero] at hq, l0, g0⟩
class Near (w w1 : World) : Prop where nr : Below w.heap.size w w1
instance Near.same (w : World) : Near w w := ⟨Below.refl _ _⟩
instance Near.drewN (w w1 : World) (n : Nat) [h : Near w w1] : Near w (w1.drewN n) := ⟨pw_below_drewN h.nr n⟩
instance Near.drew (w w1 : World) [h : Near w w1] : Near w w1.drew := ⟨below_drew1 h.nr⟩
instance Near.alloc (w w1 : World) (o : Obj) [h : Near w w1] : Near w (w1.alloc o) := ⟨below_alloc h.nr o⟩
class Mv (P : Prop) (w1 w2 : World) (Q : outParam Prop) : Prop where mv : P → Below w1.heap.size w1 w2 → Q
instance Mv.R {α : Type} (d : Kd α) (e base : Nat) (ok : Nat → Prop) (v : Value) (xs : List α) (w w1 w2 : World) [h : Near w w1] : Mv (d.R e w base ok v xs) w1 w2 (d.R e w2 base ok v xs) := ⟨fun p hb => Kd.R_below p (below_step h.nr hb)⟩
instance Mv.S {α : Type} (d : Kd α) (e base : Nat) (ok : Nat → Prop) (v : Value) (xs : List α) (w w1 w2 : World) [h : Near w w1] : Mv (d.S e w base ok v xs) w1 w2 (d.S e w2 base ok v xs) := ⟨fun p hb => Kd.S_below p (below_step h.nr hb)⟩
instance Mv.blk (g : Nat) (o : Obj) (w w1 w2 : World) [h : Near w w1] : Mv (w.heap[g]? = some o) w1 w2 (w2.heap[g]? = some o) := ⟨fun p hb => blk_below p (below_step h.nr hb)⟩
instance Mv.below (w0 w w1 w2 : World) [h : Near w w1] : Mv (Below w0.heap.size w0 w) w1 w2 (Below w0.heap.size w0 w2) := ⟨fun p hb => below_step p (below_step h.nr hb)⟩
instance Mv.keep (w0 w w1 w2 : World) (g : Nat) [h : Near w w1] : Mv (KeepBut w0 w g none) w1 w2 (KeepBut w0 w2 g none) := ⟨fun p hb => KeepBut.trans p (KeepBut.of_below (below_step h.nr hb) g none) (.inl rfl)⟩
theorem _root_.Go.Proofs.YtgmfaleamhpfjaaDoorW.PrintWords.Aside0.mv {P Q : Prop} {w1 w2 : World} (h : Aside0 P) (hb : Below w1.heap.size w1 w2) [m : Mv P w1 w2 Q] : Q := m.mv h.out hb
theorem _root_.Go.Proofs.YtgmfaleamhpfjaaDoorW.PrintWords.Aside0.ge {w w1 W : World} (h : Aside0 (Below w.heap.size w w1)) [m : Near w1 W] {g : Nat} (hg : g = W.heap.size) : w.heap.size ≤ g := hg ▸ Nat.le_trans h.out.size m.nr.size
theorem _root_.Go.Proofs.YtgmfaleamhpfjaaDoorW.PrintWords.Aside0.ne {w W : World} {g g' : Nat} {o : Obj} (h : Aside0 (w.heap[g]? = some o)) [m : Near w W] (hg : g' = W.heap.size) : g ≠ g' := fun e => by
  have h1 := blk_lt h.out
  have h2 := m.nr.size
  omega
theorem obnd_ {α β : Type} {o : Option α} {f : α → Option β} {b : β} (h : o.bind f = some b) : ∃ a, Go.Proofs.YtgmfaleamhpfjaaDoorW.PrintWords.Aside0 (o = some a) ∧ f a = some b := by
  obtain ⟨a, h1, h2⟩ := Option.bind_eq_some_iff.mp h
  exact ⟨a, ⟨h1⟩, h2⟩
theorem _root_.Go.Proofs.YtgmfaleamhpfjaaDoorW.PrintWords.Aside0.mw {P Q : Prop} {w1 w2 : World} (h : Aside0 P) (hb : Below w1.heap.size w1 w2) [m : Mv P w1 w2 Q] : Aside0 Q := ⟨m.mv h.out hb⟩
theorem k0_ {p : Prop} (h : p := by (with_reducible repeat (first | refine blk_drewN ?_ _ | refine blk_drew ?_ | refine blk_alloc ?_ _)); refine blk_put (cs := #[.string (((a0_0.extract 0 ((ji4) : Int).toNat) ++ a2) ++ (a0_0.extract (a1 : Int).toNat a0_0.size)), .int .i64 0]) ?_ 1 _ rfl; (with_reducible repeat (first | refine blk_drewN ?_ _ | refine blk_drew ?_ | refine blk_alloc ?_ _)); refine blk_put (cs := #[.string (⟨#[]⟩ : ByteArray), .int .i64 0]) ?_ 0 _ rfl; (with_reducible repeat (first | refine blk_drewN ?_ _ | refine blk_drew ?_ | refine blk_alloc ?_ _)); refine blk_far ?_ NB102_101.out _; apply_rules only [BK102.out, blk_drewN, blk_drew, blk_alloc]) : p := h
theorem k1_ {p : Prop} (h : p := by (with_reducible repeat (first | apply Kd.R_alloc | apply Kd.R_drewN | apply Kd.R_drew)); exact (Kd.R_mono (Kd.R_far (p := ⟨gb105, 1, none⟩) (Kd.R_far (p := ⟨gb105, 0, none⟩) (Kd.R_mono HO_9.out (fun k_ hk => (⟨hk, hk.2⟩ : _ ∧ k_ ≠ gb105))) (fun _ hk => hk.2) (.int .i64 (wrap64 ((Int.tmod (Int.tmod (wrap64 ((wrap64 (x8_2 * 177)) + 2221)) 10007) 9) + 2)))) (fun _ hk => hk.2) (.int .i64 (Int.tmod (Int.tmod (wrap64 ((wrap64 ((Int.tmod (wrap64 ((wrap64 (x8_2 * 177)) + 2221)) 10007) * 177)) + 2221)) 10007) (wrap64 ((Int.tmod (Int.tmod (wrap64 ((wrap64 (x8_2 * 177)) + 2221)) 10007) 9) + 2))))) (fun _ h_ => h_.1))) : p := h
theorem k2_ {p : Prop} (h : p := by (with_reducible repeat (first | refine blk_drewN ?_ _ | refine blk_drew ?_ | refine blk_alloc ?_ _)); refine blk_put (cs := #[.int .i64 (wrap64 ((Int.tmod (Int.tmod (wrap64 ((wrap64 (x8_2 * 177)) + 2221)) 10007) 9) + 2)), .int .i64 0]) ?_ 1 _ rfl; (with_reducible repeat (first | refine blk_drewN ?_ _ | refine blk_drew ?_ | refine blk_alloc ?_ _)); refine blk_put (cs := #[.int .i64 0, .int .i64 0]) ?_ 0 _ rfl; apply_rules only [BK105.out, blk_drewN, blk_drew, blk_alloc]) : p := h
theorem k3_ {p : Prop} (h : p := by (with_reducible repeat (first | refine blk_drewN ?_ _ | refine blk_drew ?_ | refine blk_alloc ?_ _)); refine blk_put (cs := #[.string (⟨#[]⟩ : ByteArray), .int .i64 0]) ?_ 1 _ rfl; (with_reducible repeat (first | refine blk_drewN ?_ _ | refine blk_drew ?_ | refine blk_alloc ?_ _)); refine blk_put (cs := #[.string (⟨#[]⟩ : ByteArray), .int .i64 0]) ?_ 0 _ rfl; apply_rules only [BK101.out, blk_drewN, blk_drew, blk_alloc]) : p := h
theorem k4_ {p : Prop} (h : p := by (with_reducible repeat (first | refine blk_drewN ?_ _ | refine blk_drew ?_ | refine blk_alloc ?_ _)); refine blk_put (cs := #[.string (⟨#[]⟩ : ByteArray), .int .i64 0]) ?_ 1 _ rfl; (with_reducible repeat (first | refine blk_drewN ?_ _ | refine blk_drew ?_ | refine blk_alloc ?_ _)); refine blk_put (cs := #[.string (⟨#[]⟩ : ByteArray), .int .i64 0]) ?_ 0 _ rfl; apply_rules only [BK102.out, blk_drewN, blk_drew, blk_alloc]) : p := h
theorem k5_ {p : Prop} (h : p := by (with_reducible repeat (first | refine blk_drewN ?_ _ | refine blk_drew ?_ | refine blk_alloc ?_ _)); refine blk_put (cs := #[.string t127, .int .i64 x115001_2]) ?_ 1 _ rfl; (with_reducible repeat (first | refine blk_drewN ?_ _ | refine blk_drew ?_ | refine blk_alloc ?_ _)); refine blk_put (cs := #[.string x115000_2, .int .i64 x115001_2]) ?_ 0 _ rfl; apply_rules only [BK114.out, blk_drewN, blk_drew, blk_alloc]) : p := h
theorem k6_ {p : Prop} (h : p := by (with_reducible repeat (first | refine blk_drewN ?_ _ | refine blk_drew ?_ | refine blk_alloc ?_ _)); refine blk_put (cs := #[.int .i64 ((rd_Rule l0 x10_1).f0), .int .i64 0]) ?_ 1 _ rfl; (with_reducible repeat (first | refine blk_drewN ?_ _ | refine blk_drew ?_ | refine blk_alloc ?_ _)); refine blk_put (cs := #[.int .i64 0, .int .i64 0]) ?_ 0 _ rfl; apply_rules only [BK102.out, blk_drewN, blk_drew, blk_alloc]) : p := h
theorem k7_ {p : Prop} (h : p := by (with_reducible repeat (first | refine blk_drewN ?_ _ | refine blk_drew ?_ | refine blk_alloc ?_ _)); refine blk_put (cs := #[.string x102000_2, .int .i64 0]) ?_ 1 _ rfl; (with_reducible repeat (first | refine blk_drewN ?_ _ | refine blk_drew ?_ | refine blk_alloc ?_ _)); refine blk_put (cs := #[.string (⟨#[]⟩ : ByteArray), .int .i64 0]) ?_ 0 _ rfl; apply_rules only [BK102.out, blk_drewN, blk_drew, blk_alloc]) : p := h
theorem k8_ {p : Prop} (h : p := by (with_reducible repeat (first | refine blk_drewN ?_ _ | refine blk_drew ?_ | refine blk_alloc ?_ _)); refine blk_put (cs := #[.string t111, .int .i64 0]) ?_ 1 _ rfl; (with_reducible repeat (first | refine blk_drewN ?_ _ | refine blk_drew ?_ | refine blk_alloc ?_ _)); refine blk_put (cs := #[.string (⟨#[]⟩ : ByteArray), .int .i64 0]) ?_ 0 _ rfl; apply_rules only [BK114.out, blk_drewN, blk_drew, blk_alloc]) : p := h
theorem k9_ {p : Prop} (h : p := by (with_reducible repeat (first | refine blk_drewN ?_ _ | refine blk_drew ?_ | refine blk_alloc ?_ _)); refine blk_put (cs := #[.string t136, .int .i64 0]) ?_ 1 _ rfl; (with_reducible repeat (first | refine blk_drewN ?_ _ | refine blk_drew ?_ | refine blk_alloc ?_ _)); refine blk_put (cs := #[.string (⟨#[]⟩ : ByteArray), .int .i64 0]) ?_ 0 _ rfl; apply_rules only [BK139.out, blk_drewN, blk_drew, blk_alloc]) : p := h
theorem k10_ {p : Prop} (h : p := by (with_reducible repeat (first | refine blk_drewN ?_ _ | refine blk_drew ?_ | refine blk_alloc ?_ _)); refine blk_put (cs := #[.string t105, .int .i64 0]) ?_ 1 _ rfl; (with_reducible repeat (first | refine blk_drewN ?_ _ | refine blk_drew ?_ | refine blk_alloc ?_ _)); refine blk_put (cs := #[.string (⟨#[]⟩ : ByteArray), .int .i64 0]) ?_ 0 _ rfl; apply_rules only [BK102.out, blk_drewN, blk_drew, blk_alloc]) : p := h
theorem k11_ {p : Prop} (h : p := by (with_reducible repeat (first | refine blk_drewN ?_ _ | refine blk_drew ?_ | refine blk_alloc ?_ _)); refine blk_put (cs := #[.string t104, .int .i64 0]) ?_ 1 _ rfl; (with_reducible repeat (first | refine blk_drewN ?_ _ | refine blk_drew ?_ | refine blk_alloc ?_ _)); refine blk_put (cs := #[.string (⟨#[]⟩ : ByteArray), .int .i64 0]) ?_ 0 _ rfl; apply_rules only [BK102.out, blk_drewN, blk_drew, blk_alloc]) : p := h
theorem k12_ {p : Prop} (h : p := by (with_reducible repeat (first | refine blk_drewN ?_ _ | refine blk_drew ?_ | refine blk_alloc ?_ _)); refine blk_put (cs := #[.string t123, .int .i64 0]) ?_ 1 _ rfl; (with_reducible repeat (first | refine blk_drewN ?_ _ | refine blk_drew ?_ | refine blk_alloc ?_ _)); refine blk_put (cs := #[.string (⟨#[]⟩ : ByteArray), .int .i64 0]) ?_ 0 _ rfl; apply_rules only [BK126.out, blk_drewN, blk_drew, blk_alloc]) : p := h
theorem k13_ {p : Prop} (h : p := by (with_reducible repeat (first | refine blk_drewN ?_ _ | refine blk_drew ?_ | refine blk_alloc ?_ _)); refine blk_put (cs := #[.string t105, .int .i64 0]) ?_ 1 _ rfl; (with_reducible repeat (first | refine blk_drewN ?_ _ | refine blk_drew ?_ | refine blk_alloc ?_ _)); refine blk_put (cs := #[.string (⟨#[]⟩ : ByteArray), .int .i64 0]) ?_ 0 _ rfl; apply_rules only [BK108.out, blk_drewN, blk_drew, blk_alloc]) : p := h
theorem k14_ {p : Prop} (h : p := by (with_reducible repeat (first | refine blk_drewN ?_ _ | refine blk_drew ?_ | refine blk_alloc ?_ _)); refine blk_put (cs := #[.string t109, .int .i64 0]) ?_ 1 _ rfl; (with_reducible repeat (first | refine blk_drewN ?_ _ | refine blk_drew ?_ | refine blk_alloc ?_ _)); refine blk_put (cs := #[.string (⟨#[]⟩ : ByteArray), .int .i64 0]) ?_ 0 _ rfl; apply_rules only [BK112.out, blk_drewN, blk_drew, blk_alloc]) : p := h
theorem k15_ {p : Prop} (h : p := by (with_reducible repeat (first | refine blk_drewN ?_ _ | refine blk_drew ?_ | refine blk_alloc ?_ _)); refine blk_put (cs := #[.string t102, .int .i64 0]) ?_ 1 _ rfl; (with_reducible repeat (first | refine blk_drewN ?_ _ | refine blk_drew ?_ | refine blk_alloc ?_ _)); refine blk_put (cs := #[.string (⟨#[]⟩ : ByteArray), .int .i64 0]) ?_ 0 _ rfl; apply_rules only [BK101.out, blk_drewN, blk_drew, blk_alloc]) : p := h
theorem k16_ {p : Prop} (h : p := by (with_reducible repeat (first | refine blk_drewN ?_ _ | refine blk_drew ?_ | refine blk_alloc ?_ _)); refine blk_put (cs := #[.string t107, .int .i64 0]) ?_ 1 _ rfl; (with_reducible repeat (first | refine blk_drewN ?_ _ | refine blk_drew ?_ | refine blk_alloc ?_ _)); refine blk_put (cs := #[.string (⟨#[]⟩ : ByteArray), .int .i64 0]) ?_ 0 _ rfl; apply_rules only [BK109.out, blk_drewN, blk_drew, blk_alloc]) : p := h
theorem k17_ {p : Prop} (h : p := by (with_reducible repeat (first | refine blk_drewN ?_ _ | refine blk_drew ?_ | refine blk_alloc ?_ _)); refine blk_put (cs := #[.string a0, .int .i64 0]) ?_ 1 _ rfl; (with_reducible repeat (first | refine blk_drewN ?_ _ | refine blk_drew ?_ | refine blk_alloc ?_ _)); refine blk_put (cs := #[.string (⟨#[]⟩ : ByteArray), .int .i64 0]) ?_ 0 _ rfl; apply_rules only [BK101.out, blk_drewN, blk_drew, blk_alloc]) : p := h
theorem k18_ {p : Prop} (h : p := by (with_reducible repeat (first | refine blk_drewN ?_ _ | refine blk_drew ?_ | refine blk_alloc ?_ _)); refine blk_put (cs := #[.int .i64 x4_1, .int .i64 0]) ?_ 1 _ rfl; (with_reducible repeat (first | refine blk_drewN ?_ _ | refine blk_drew ?_ | refine blk_alloc ?_ _)); refine blk_put (cs := #[.int .i64 0, .int .i64 0]) ?_ 0 _ rfl; apply_rules only [BK101.out, blk_drewN, blk_drew, blk_alloc]) : p := h
theorem k19_ {p : Prop} (h : p := by (with_reducible repeat (first | refine blk_drewN ?_ _ | refine blk_drew ?_ | refine blk_alloc ?_ _)); refine blk_far ?_ NB122_139.out _; (with_reducible repeat (first | refine blk_drewN ?_ _ | refine blk_drew ?_ | refine blk_alloc ?_ _)); refine blk_far ?_ NB122_139.out _; apply_rules only [BK122.out, blk_drewN, blk_drew, blk_alloc]) : p := h
theorem k20_ {p : Prop} (h : p := by (with_reducible repeat (first | refine blk_drewN ?_ _ | refine blk_drew ?_ | refine blk_alloc ?_ _)); refine blk_far ?_ NB108_139.out _; (with_reducible repeat (first | refine blk_drewN ?_ _ | refine blk_drew ?_ | refine blk_alloc ?_ _)); refine blk_far ?_ NB108_139.out _; apply_rules only [BK108.out, blk_drewN, blk_drew, blk_alloc]) : p := h
theorem k21_ {p : Prop} (h : p := by (with_reducible repeat (first | refine blk_drewN ?_ _ | refine blk_drew ?_ | refine blk_alloc ?_ _)); refine blk_far ?_ NB102_101.out _; (with_reducible repeat (first | refine blk_drewN ?_ _ | refine blk_drew ?_ | refine blk_alloc ?_ _)); refine blk_far ?_ NB102_101.out _; apply_rules only [BK102.out, blk_drewN, blk_drew, blk_alloc]) : p := h
theorem k22_ {p : Prop} (h : p := by (with_reducible repeat (first | refine blk_drewN ?_ _ | refine blk_drew ?_ | refine blk_alloc ?_ _)); refine blk_far ?_ NB102_109.out _; (with_reducible repeat (first | refine blk_drewN ?_ _ | refine blk_drew ?_ | refine blk_alloc ?_ _)); refine blk_far ?_ NB102_109.out _; apply_rules only [BK102.out, blk_drewN, blk_drew, blk_alloc]) : p := h
theorem k23_ {p : Prop} (h : p := by (with_reducible repeat (first | refine blk_drewN ?_ _ | refine blk_drew ?_ | refine blk_alloc ?_ _)); refine blk_far ?_ NB108_126.out _; (with_reducible repeat (first | refine blk_drewN ?_ _ | refine blk_drew ?_ | refine blk_alloc ?_ _)); refine blk_far ?_ NB108_126.out _; apply_rules only [BK108.out, blk_drewN, blk_drew, blk_alloc]) : p := h
theorem k24_ {p : Prop} (h : p := by (with_reducible repeat (first | refine blk_drewN ?_ _ | refine blk_drew ?_ | refine blk_alloc ?_ _)); refine blk_far ?_ NB101_114.out _; (with_reducible repeat (first | refine blk_drewN ?_ _ | refine blk_drew ?_ | refine blk_alloc ?_ _)); refine blk_far ?_ NB101_114.out _; apply_rules only [BK101.out, blk_drewN, blk_drew, blk_alloc]) : p := h
theorem k25_ {p : Prop} (h : p := by (with_reducible repeat (first | refine blk_drewN ?_ _ | refine blk_drew ?_ | refine blk_alloc ?_ _)); refine blk_far ?_ NB126_139.out _; (with_reducible repeat (first | refine blk_drewN ?_ _ | refine blk_drew ?_ | refine blk_alloc ?_ _)); refine blk_far ?_ NB126_139.out _; apply_rules only [BK126.out, blk_drewN, blk_drew, blk_alloc]) : p := h
theorem k26_ {p : Prop} (h : p := by (with_reducible repeat (first | refine blk_drewN ?_ _ | refine blk_drew ?_ | refine blk_alloc ?_ _)); refine blk_far ?_ NB118_139.out _; (with_reducible repeat (first | refine blk_drewN ?_ _ | refine blk_drew ?_ | refine blk_alloc ?_ _)); refine blk_far ?_ NB118_139.out _; apply_rules only [BK118.out, blk_drewN, blk_drew, blk_alloc]) : p := h
theorem k27_ {p : Prop} (h : p := by (with_reducible repeat (first | refine blk_drewN ?_ _ | refine blk_drew ?_ | refine blk_alloc ?_ _)); refine blk_far ?_ NB101_108.out _; (with_reducible repeat (first | refine blk_drewN ?_ _ | refine blk_drew ?_ | refine blk_alloc ?_ _)); refine blk_far ?_ NB101_108.out _; apply_rules only [BK101.out, blk_drewN, blk_drew, blk_alloc]) : p := h
theorem k28_ {p : Prop} (h : p := by (with_reducible repeat (first | refine blk_drewN ?_ _ | refine blk_drew ?_ | refine blk_alloc ?_ _)); refine blk_far ?_ NB102_108.out _; (with_reducible repeat (first | refine blk_drewN ?_ _ | refine blk_drew ?_ | refine blk_alloc ?_ _)); refine blk_far ?_ NB102_108.out _; apply_rules only [BK102.out, blk_drewN, blk_drew, blk_alloc]) : p := h
theorem k29_ {p : Prop} (h : p := by (with_reducible repeat (first | refine blk_drewN ?_ _ | refine blk_drew ?_ | refine blk_alloc ?_ _)); refine blk_far ?_ NB108_112.out _; (with_reducible repeat (first | refine blk_drewN ?_ _ | refine blk_drew ?_ | refine blk_alloc ?_ _)); refine blk_far ?_ NB108_112.out _; apply_rules only [BK108.out, blk_drewN, blk_drew, blk_alloc]) : p := h
theorem k30_ {p : Prop} (h : p := by (with_reducible repeat (first | refine blk_drewN ?_ _ | refine blk_drew ?_ | refine blk_alloc ?_ _)); refine blk_far ?_ NB101_105.out _; (with_reducible repeat (first | refine blk_drewN ?_ _ | refine blk_drew ?_ | refine blk_alloc ?_ _)); refine blk_far ?_ NB101_105.out _; apply_rules only [BK101.out, blk_drewN, blk_drew, blk_alloc]) : p := h
theorem k31_ {p : Prop} (h : p := by (with_reducible repeat (first | refine blk_drewN ?_ _ | refine blk_drew ?_ | refine blk_alloc ?_ _)); refine blk_far ?_ NB112_126.out _; (with_reducible repeat (first | refine blk_drewN ?_ _ | refine blk_drew ?_ | refine blk_alloc ?_ _)); refine blk_far ?_ NB112_126.out _; apply_rules only [BK112.out, blk_drewN, blk_drew, blk_alloc]) : p := h
theorem k32_ {p : Prop} (h : p := by (with_reducible repeat (first | refine blk_drewN ?_ _ | refine blk_drew ?_ | refine blk_alloc ?_ _)); refine blk_far ?_ NB112_139.out _; (with_reducible repeat (first | refine blk_drewN ?_ _ | refine blk_drew ?_ | refine blk_alloc ?_ _)); refine blk_far ?_ NB112_139.out _; apply_rules only [BK112.out, blk_drewN, blk_drew, blk_alloc]) : p := h
theorem k33_ {p : Prop} (h : p := by (with_reducible repeat (first | refine blk_drewN ?_ _ | refine blk_drew ?_ | refine blk_alloc ?_ _)); refine blk_far ?_ NB122_126.out _; (with_reducible repeat (first | refine blk_drewN ?_ _ | refine blk_drew ?_ | refine blk_alloc ?_ _)); refine blk_far ?_ NB122_126.out _; apply_rules only [BK122.out, blk_drewN, blk_drew, blk_alloc]) : p := h
theorem k34_ {p : Prop} (h : p := by (with_reducible repeat (first | refine blk_drewN ?_ _ | refine blk_drew ?_ | refine blk_alloc ?_ _)); refine blk_far ?_ NB118_126.out _; (with_reducible repeat (first | refine blk_drewN ?_ _ | refine blk_drew ?_ | refine blk_alloc ?_ _)); refine blk_far ?_ NB118_126.out _; apply_rules only [BK118.out, blk_drewN, blk_drew, blk_alloc]) : p := h
theorem k35_ {p : Prop} (h : p := by (with_reducible repeat (first | refine blk_drewN ?_ _ | refine blk_drew ?_ | refine blk_alloc ?_ _)); refine blk_far ?_ NB101_109.out _; (with_reducible repeat (first | refine blk_drewN ?_ _ | refine blk_drew ?_ | refine blk_alloc ?_ _)); refine blk_far ?_ NB101_109.out _; apply_rules only [BK101.out, blk_drewN, blk_drew, blk_alloc]) : p := h
theorem k36_ {p : Prop} (h : p := by (with_reducible repeat (first | apply Kd.R_alloc | apply Kd.R_drewN | apply Kd.R_drew)); exact (Kd.R_mono (Kd.R_far (p := ⟨gb101, 1, none⟩) (Kd.R_far (p := ⟨gb101, 0, none⟩) (Kd.R_mono HO_3.out (fun k_ hk => (⟨hk, hk.2⟩ : _ ∧ k_ ≠ gb101))) (fun _ hk => hk.2) (.int .i64 x4_1)) (fun _ hk => hk.2) (.int .i64 x5_2)) (fun _ h_ => h_.1))) : p := h
theorem k37_ {p : Prop} (h : p := by (with_reducible repeat (first | apply Kd.R_alloc | apply Kd.R_drewN | apply Kd.R_drew)); exact (Kd.R_mono (Kd.R_far (p := ⟨gb114, 1, none⟩) (Kd.R_far (p := ⟨gb114, 0, none⟩) (Kd.R_types HO123.out BK114.out (by decide)) (fun _ hk => hk.2) (.string t127)) (fun _ hk => hk.2) (.int .i64 t128)) (fun _ h_ => h_.1))) : p := h
theorem k38_ {p : Prop} (h : p := by first | (rw [hy_]; with_reducible exact H) | (have H2_ := (Option.bind_some _ _).symm.trans H; rw [hy_]; with_reducible exact H2_) | (have H2_ := (Option.bind_some _ _).symm.trans H; with_reducible exact H2_) | with_reducible exact H | (rw [hy_]; exact H) | exact H) : p := h
theorem k39_ {p : Prop} (h : p := by exact (MkSt.reads ((S2.out.1.put gx 0 (.int .i64 (wrap64 (Int.tmod (nextZ z) 9 + 2))) hn1 hn2 (fun _ hk => hk.2) S2.out.2.2.2).put gx 1 (.int .i64 (Int.tmod (nextZ (nextZ z)) (wrap64 (Int.tmod (nextZ z) 9 + 2)))) hn1 hn2 (fun _ hk => hk.2) S2.out.2.2.2)).2) : p := h
theorem k40_ {p : Prop} (h : p := by repeat (first | (with_reducible first | exact HI0.out | apply IsS55.alloc | apply IsS55.drewN | apply IsS55.drew | apply IsS55.set_1 | apply IsS55.set_2 | refine IsS55.far ?_ NB0_101.out _ | refine IsS55.far ?_ NB0_114.out _) | exact HI0.out)) : p := h
theorem k41_ {p : Prop} (h : p := by repeat (first | (with_reducible first | exact HI0.out | apply IsS55.alloc | apply IsS55.drewN | apply IsS55.drew | apply IsS55.set_1 | apply IsS55.set_2 | refine IsS55.far ?_ NB0_101.out _ | refine IsS55.far ?_ NB0_106.out _) | exact HI0.out)) : p := h
theorem k42_ {p : Prop} (h : p := by repeat (first | (with_reducible first | exact HB.out | apply below_alloc | apply pw_below_drewN | apply below_drew1 | refine below_set ?_ (IsS55.ge HI0.out) | refine below_set ?_ GE101.out | refine below_set ?_ GE114.out) | exact HB.out)) : p := h
theorem k43_ {p : Prop} (h : p := by repeat (first | (with_reducible first | exact HB.out | apply below_alloc | apply pw_below_drewN | apply below_drew1 | refine below_set ?_ (IsS55.ge HI0.out) | refine below_set ?_ GE101.out | refine below_set ?_ GE106.out) | exact HB.out)) : p := h
theorem k44_ {p : Prop} (h : p := by (first | exact blk_new w _ | (simp; done) | (refine blk_put (cs := #[.string (⟨#[]⟩ : ByteArray), .int .i64 0]) ?_ 1 _ rfl; refine blk_put (cs := #[.string (⟨#[]⟩ : ByteArray), .int .i64 0]) ?_ 0 _ rfl; exact blk_new w _))) : p := h
theorem k45_ {p : Prop} (h : p := by repeat (first | (with_reducible first | exact HK.out | apply KeepBut.set_ | apply keep_drewN | apply keep_drew | apply keep_alloc | refine keep_far ?_ GW101.out _ | refine keep_far ?_ GW114.out _) | exact HK.out)) : p := h
theorem k46_ {p : Prop} (h : p := by repeat (first | (with_reducible first | exact HK.out | apply KeepBut.set_ | apply keep_drewN | apply keep_drew | apply keep_alloc | refine keep_far ?_ GW101.out _ | refine keep_far ?_ GW106.out _) | exact HK.out)) : p := h
theorem k47_ {p : Prop} (h : p := by apply_rules only [HB.out, below_alloc, pw_below_drewN, below_drew1, below_set, GE108.out, GE112.out, GE118.out, GE122.out, GE126.out, GE146.out, GE150.out, GE154.out, GE158.out, GE162.out, GE166.out, GE187.out]) : p := h
theorem k48_ {p : Prop} (h : p := by repeat (first | (with_reducible first | exact HI0.out | apply IsS55.alloc | apply IsS55.drewN | apply IsS55.drew | apply IsS55.set_1 | apply IsS55.set_2 | refine IsS55.far ?_ NB0_101.out _) | exact HI0.out)) : p := h
theorem k49_ {p : Prop} (h : p := by repeat (first | (with_reducible first | exact HB.out | apply below_alloc | apply pw_below_drewN | apply below_drew1 | refine below_set ?_ (IsS55.ge HI0.out) | refine below_set ?_ GE101.out) | exact HB.out)) : p := h
theorem k50_ {p : Prop} (h : p := by apply_rules only [HB.out, below_alloc, pw_below_drewN, below_drew1, below_set, GE108.out, GE112.out, GE118.out, GE122.out, GE126.out, GE146.out, GE150.out, GE154.out, GE158.out, GE162.out, GE166.out]) : p := h
theorem k51_ {p : Prop} (h : p := by apply_rules only [HB.out, below_alloc, pw_below_drewN, below_drew1, below_set, GE108.out, GE112.out, GE118.out, GE122.out, GE126.out, GE146.out, GE150.out, GE154.out, GE158.out, GE162.out]) : p := h
theorem k52_ {p : Prop} (h : p := by repeat (first | (with_reducible first | exact HK.out | apply KeepBut.set_ | apply keep_drewN | apply keep_drew | apply keep_alloc | refine keep_far ?_ GW101.out _) | exact HK.out)) : p := h
theorem k53_ {p : Prop} (h : p := by apply_rules only [HB.out, below_alloc, pw_below_drewN, below_drew1, below_set, GE108.out, GE112.out, GE118.out, GE122.out, GE126.out, GE146.out, GE150.out, GE154.out, GE158.out]) : p := h
theorem k54_ {p : Prop} (h : p := by repeat (first | exact (Kd.C_below HR0.out HB.out) | (with_reducible refine Kd.C_alloc ?_ _) | (with_reducible refine Kd.C_drewN ?_ _) | (with_reducible refine Kd.C_drew ?_))) : p := h
theorem k55_ {p : Prop} (h : p := by repeat (first | exact (Kd.C_below HR1.out HB.out) | (with_reducible refine Kd.C_alloc ?_ _) | (with_reducible refine Kd.C_drewN ?_ _) | (with_reducible refine Kd.C_drew ?_))) : p := h
theorem k56_ {p : Prop} (h : p := by repeat (first | (with_reducible first | exact HB.out | apply below_alloc | apply pw_below_drewN | apply below_drew1 | refine below_set ?_ (IsS55.ge HI0.out)) | exact HB.out)) : p := h
theorem k57_ {p : Prop} (h : p := by refine blk_put (cs := #[.int .i64 (wrap64 (Int.tmod (nextZ z) 9 + 2)), .int .i64 0]) ?_ 1 _ rfl; refine blk_put (cs := #[.int .i64 0, .int .i64 0]) ?_ 0 _ rfl; exact BX.out) : p := h
theorem k58_ {p : Prop} (h : p := by repeat (first | (with_reducible first | exact HI0.out | apply IsS55.alloc | apply IsS55.drewN | apply IsS55.drew | apply IsS55.set_1 | apply IsS55.set_2) | exact HI0.out)) : p := h
theorem k59_ {p : Prop} (h : p := by apply_rules only [HB.out, below_alloc, pw_below_drewN, below_drew1, below_set, GE108.out, GE112.out, GE118.out, GE122.out, GE126.out, GE146.out, GE150.out, GE154.out]) : p := h
theorem k60_ {p : Prop} (h : p := by repeat (first | exact HR102_0.out | (with_reducible refine Kd.C_alloc ?_ _) | (with_reducible refine Kd.C_drewN ?_ _) | (with_reducible refine Kd.C_drew ?_))) : p := h
theorem k61_ {p : Prop} (h : p := by repeat (first | exact HR101_0.out | (with_reducible refine Kd.C_alloc ?_ _) | (with_reducible refine Kd.C_drewN ?_ _) | (with_reducible refine Kd.C_drew ?_))) : p := h
theorem k62_ {p : Prop} (h : p := by apply_rules only [HB.out, below_alloc, pw_below_drewN, below_drew1, below_set, GE108.out, GE112.out, GE118.out, GE122.out, GE126.out, GE146.out, GE150.out]) : p := h
theorem k63_ {p : Prop} (h : p := by repeat (first | exact HR0.out | (with_reducible refine Kd.C_alloc ?_ _) | (with_reducible refine Kd.C_drewN ?_ _) | (with_reducible refine Kd.C_drew ?_))) : p := h
theorem k64_ {p : Prop} (h : p := by repeat (first | (with_reducible first | exact HK.out | apply KeepBut.set_ | apply keep_drewN | apply keep_drew | apply keep_alloc) | exact HK.out)) : p := h
theorem k65_ {p : Prop} (h : p := by apply_rules only [HB.out, below_alloc, pw_below_drewN, below_drew1, below_set, GE108.out, GE112.out, GE118.out, GE122.out, GE126.out, GE139.out]) : p := h
theorem k66_ {p : Prop} (h : p := by apply_rules only [HB.out, below_alloc, pw_below_drewN, below_drew1, below_set, GE108.out, GE112.out, GE118.out, GE122.out, GE126.out, GE146.out]) : p := h
theorem k67_ {p : Prop} (h : p := by first | exact Kd.S_nil _ _ _ _ _ | exact Kd.N_nil _ _ _ _ _ | exact Kd.V_nil _ _ _ _ _ | exact Kd.Q_nil _ _ _ _ _ | exact Kd.R_nil _ _ _ _ _) : p := h
theorem k68_ {p : Prop} (h : p := by first | exact Kd.R_nil _ _ _ _ _ | exact Kd.N_nil _ _ _ _ _ | exact Kd.V_nil _ _ _ _ _ | exact Kd.Q_nil _ _ _ _ _ | exact Kd.S_nil _ _ _ _ _) : p := h
theorem k69_ {p : Prop} (h : p := by first | exact below_alloc (Below.refl _ _) _ | exact below_set (below_set (below_alloc (Below.refl _ _) _) (Nat.le_refl _)) (Nat.le_refl _)) : p := h
theorem k70_ {p : Prop} (h : p := by (try simp only [List.map_toArray, List.map_cons, List.map_nil]); first | done | rfl | (simp only [List.length_drop, List.length_take]; rfl)) : p := h
theorem k71_ {p : Prop} (h : p := by apply_rules only [HB.out, below_alloc, pw_below_drewN, below_drew1, below_set, GE108.out, GE112.out, GE118.out, GE122.out, GE126.out]) : p := h
theorem k72_ {p : Prop} (h : p := by apply_rules only [HB.out, below_alloc, pw_below_drewN, below_drew1, below_set, GE108.out, GE112.out, GE118.out, GE122.out]) : p := h
theorem k73_ {p : Prop} (h : p := by apply_rules only [HB.out, below_alloc, pw_below_drewN, below_drew1, below_set, GE101.out, GE102.out, GE109.out]) : p := h
theorem k74_ {p : Prop} (h : p := by apply_rules only [HB.out, below_alloc, pw_below_drewN, below_drew1, below_set, GE108.out, GE112.out, GE118.out]) : p := h
theorem k75_ {p : Prop} (h : p := by apply_rules only [HB.out, below_alloc, pw_below_drewN, below_drew1, below_set, GE101.out, GE102.out, GE108.out]) : p := h
theorem k76_ {p : Prop} (h : p := by (with_reducible repeat (first | apply Kd.R_alloc | apply Kd.R_drewN | apply Kd.R_drew)); exact HO_3.out) : p := h
theorem k77_ {p : Prop} (h : p := by apply_rules only [HB.out, below_alloc, pw_below_drewN, below_drew1, below_set, GE101.out, GE105.out]) : p := h
theorem k78_ {p : Prop} (h : p := by apply_rules only [HB.out, below_alloc, pw_below_drewN, below_drew1, below_set, GE101.out, GE102.out]) : p := h
theorem k79_ {p : Prop} (h : p := by apply_rules only [HB.out, below_alloc, pw_below_drewN, below_drew1, below_set, GE108.out, GE112.out]) : p := h
theorem k80_ {p : Prop} (h : p := by simp only [putAll, Act.put, List.setIfInBounds_toArray, List.set_cons_zero, List.set_cons_succ]) : p := h
theorem k81_ {p : Prop} (h : p := by first | rfl | (simp [errW_none, errW_some] <;> rfl) | (simp [*, errW_none, errW_some] <;> rfl)) : p := h
theorem k82_ {p : Prop} (h : p := by apply_rules only [HB.out, below_alloc, pw_below_drewN, below_drew1, below_set, GE101.out]) : p := h
theorem k83_ {p : Prop} (h : p := by apply_rules only [HB.out, below_alloc, pw_below_drewN, below_drew1, below_set, GE102.out]) : p := h
theorem k84_ {p : Prop} (h : p := by (try simp only [List.map_toArray, List.map_cons, List.map_nil]); first | done | rfl) : p := h
theorem k85_ {p : Prop} (h : p := by apply_rules only [HB.out, below_alloc, pw_below_drewN, below_drew1]) : p := h
theorem k86_ {p : Prop} (h : p := by apply_rules only [HO103.out, Kd.R_alloc, Kd.R_drewN, Kd.R_drew]) : p := h
theorem k87_ {p : Prop} (h : p := by apply_rules only [HO_3.out, Kd.R_alloc, Kd.R_drewN, Kd.R_drew]) : p := h
theorem k88_ {p : Prop} (h : p := by apply_rules only [BK118.out, blk_drewN, blk_drew, blk_alloc]) : p := h
theorem k89_ {p : Prop} (h : p := by apply_rules only [BK122.out, blk_drewN, blk_drew, blk_alloc]) : p := h
theorem k90_ {p : Prop} (h : p := by apply_rules only [BK101.out, blk_drewN, blk_drew, blk_alloc]) : p := h
theorem k91_ {p : Prop} (h : p := by apply_rules only [BK102.out, blk_drewN, blk_drew, blk_alloc]) : p := h
theorem k92_ {p : Prop} (h : p := by apply_rules only [BK112.out, blk_drewN, blk_drew, blk_alloc]) : p := h
theorem k93_ {p : Prop} (h : p := by apply_rules only [BK114.out, blk_drewN, blk_drew, blk_alloc]) : p := h
theorem k94_ {p : Prop} (h : p := by apply_rules only [BK108.out, blk_drewN, blk_drew, blk_alloc]) : p := h
theorem k95_ {p : Prop} (h : p := by apply_rules only [BK126.out, blk_drewN, blk_drew, blk_alloc]) : p := h
theorem k96_ {p : Prop} (h : p := by repeat (first | exact Drawn0.refl _ | apply Drawn0.step)) : p := h
theorem k97_ {p : Prop} (h : p := by first | (with_reducible assumption) | assumption) : p := h
theorem k98_ {p : Prop} (h : p := by first | rfl | (simp; done) | (simp [*]; done)) : p := h
theorem k99_ {p : Prop} (h : p := by first | (go_simp; done) | (go_simp; rfl)) : p := h
theorem k100_ {p : Prop} (h : p := by first | omega | exact Nat.le_refl _) : p := h
theorem k101_ {p : Prop} (h : p := by have := HK1.out; omega) : p := h
end Go.Proofs.YtgmfaleamhpfjaaDoor.P
