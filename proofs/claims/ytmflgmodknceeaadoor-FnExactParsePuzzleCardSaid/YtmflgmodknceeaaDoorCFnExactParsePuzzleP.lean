/- The kinds of values. Proved in this text: its theorems. Conditions: as each theorem states them. -/
import Derived.Test.YtmflgmodknceeaaDoorProg
import Derived.Shelf.Abstract
import Derived.Shelf.Strings.SlTrimAscii
import Derived.Lib.OthersKept
import Derived.Shelf.Strconv.Itoa3
import Derived.Shelf.Strings.Cut
import Derived.Shelf.Strconv.AtoiAll
import Derived.Deep.Slices
import Derived.Deep.Fields
import Derived.ChangeSame
import Derived.ChangeSlices
import Derived.Lib.SmallJoins
import Derived.ProofKit
import Derived.OpenShut
import Derived.ShutString
import Derived.ChangeOld
import Derived.SizedLaws
import Derived.Carry
import Derived.Deep.DeepHandedRow
import Derived.Lib.LaidTab
import Derived.Stop.LaidErr
import Derived.Shelf.Vars
import Derived.LaidLaws
import Derived.Below
import Derived.Deep.Draws
import Derived.Deep.AppendLies
import Derived.Maps.AppendAt
import Derived.OwnWalk
import Derived.Laws.BytesArg
import Derived.Laws.MakeOwn
import Derived.Laws.OwnMore
import Derived.Deep.OwnRows
import Derived.Tactics
import Derived.Lib.ConvBytes
import Derived.Laws.Slices
import Derived.WalkKit
import Derived.KernelRfl
import Derived.RowKit3
import Derived.Deep.LoopGhost
import Derived.Deep.QuietTactic
import Derived.BigQuiet
import Derived.WideLaws
import Derived.Deep.DeepCutAuto
import Derived.Deep.CutBlock
import Derived.Deep.RegionHeld3
import Derived.Laws.Rows
import Derived.Lib.AppendStr
import Derived.ArgAppend
import Derived.Laws.IdiomCopy
import Derived.RowKit
import Derived.OrdersHeld
import Derived.Laws.BitsLemmas
import Derived.Laws.StructEq
import Derived.Test.YtmflgmodknceeaaDoorCFnExactParsePuzzleW0

namespace Go.Proofs.YtmflgmodknceeaaDoor.P
open Go.RowKit Go.Proofs.YtmflgmodknceeaaDoorW.PrintWords Go.Proofs.YtmflgmodknceeaaDoorW.PrintLast Go.Proofs.YtmflgmodknceeaaDoorW.PrintMore
attribute [local go_sem] max2_int min2_int max_two min_two max_three min_three max_four min_four
set_option linter.unusedVariables false
set_option linter.unusedSimpArgs false
def errW : Option Int → Value
  | none => .nilIface
  | some c => .iface 0 (.int .i64 c)
theorem errW_none : errW none = .nilIface := rfl
theorem errW_some (c : Int) : errW (some c) = .iface 0 (.int .i64 c) := rfl
theorem info9 : (Tryd.prog.info? 9).map (fun i => (i.zero, i.size, i.bytes)) = some (some (.string ⟨#[]⟩), 1, 16) := by kernel_rfl
structure SPuzzle where
  f0 : ByteArray
  f1 : Int
def zPuzzle : SPuzzle := ⟨(⟨#[]⟩ : ByteArray), (0 : Int)⟩
def kPuzzle : Kd SPuzzle := Kd.iso (Kd.pair Kd.string (Kd.int .i64)) (fun x : SPuzzle => (x.f0, x.f1))
theorem kPuzzle_open {w : World} {x : SPuzzle} {cs : List Value} (h : kPuzzle.K w x cs) : cs = [.string x.f0, .int .i64 x.f1] := by
  obtain ⟨_, _, rfl, rfl, rfl⟩ := h
  exact rfl
theorem kPuzzle_openM {w : World} {base : Nat} {ok : Nat → Prop} {x : SPuzzle} {cs : List Value} (h : kPuzzle.M w base ok x cs) : cs = [.string x.f0, .int .i64 x.f1] := by
  obtain ⟨_, _, rfl, rfl, rfl⟩ := h
  exact rfl
theorem kPuzzle_mk (w : World) (x : SPuzzle)  : kPuzzle.K w x [.string x.f0, .int .i64 x.f1] := ⟨[.string x.f0], [.int .i64 x.f1], rfl, rfl, rfl⟩
theorem kPuzzle_mkM (w : World) (base : Nat) (ok : Nat → Prop) (x : SPuzzle)  : kPuzzle.M w base ok x [.string x.f0, .int .i64 x.f1] := ⟨[.string x.f0], [.int .i64 x.f1], rfl, rfl, rfl⟩
def rd_Puzzle (xs : List SPuzzle) (i : Int) : SPuzzle := xs.getD i.toNat zPuzzle
theorem at_Puzzle {w : World} {A : Option Addr} {n : Nat} {xs : List SPuzzle} (h : Kd.C kPuzzle w A n xs) (i : Int) (h0 : 0 ≤ i) (h1 : i < n) : ∃ ad , A = some ad ∧ w.cell? (ad.add (i.toNat * 2)) = some (.string (rd_Puzzle xs i).f0) ∧ w.cell? ⟨(ad.add (i.toNat * 2)).block, (ad.add (i.toNat * 2)).off + 1, none⟩ = some (.int .i64 (rd_Puzzle xs i).f1) := by
  obtain ⟨ad, c, e, _, hK, hc0⟩ := Kd.C_get h zPuzzle i h0 h1
  have hc : ∀ j u, c[j]? = some u → w.cell? (ad.add (i.toNat * 2 + j)) = some u := hc0
  obtain rfl := kPuzzle_open hK
  exact ⟨ad, e, hc 0 _ rfl, by rw [← add_field _ _ 1 (by omega)]; exact hc 1 _ rfl⟩
class Near (w w1 : World) : Prop where nr : Below w.heap.size w w1
instance Near.same (w : World) : Near w w := ⟨Below.refl _ _⟩
instance Near.drewN (w w1 : World) (n : Nat) [h : Near w w1] : Near w (w1.drewN n) := ⟨pw_below_drewN h.nr n⟩
instance Near.drew (w w1 : World) [h : Near w w1] : Near w w1.drew := ⟨below_drew1 h.nr⟩
instance Near.alloc (w w1 : World) (o : Obj) [h : Near w w1] : Near w (w1.alloc o) := ⟨below_alloc h.nr o⟩
class Mv (P : Prop) (w1 w2 : World) (Q : outParam Prop) : Prop where mv : P → Below w1.heap.size w1 w2 → Q
instance Mv.R {α : Type} (d : Kd α) (e base : Nat) (ok : Nat → Prop) (v : Value) (xs : List α) (w w1 w2 : World) [h : Near w w1] : Mv (d.R e w base ok v xs) w1 w2 (d.R e w2 base ok v xs) := ⟨fun p hb => Kd.R_below p (below_step h.nr hb)⟩
instance Mv.S {α : Type} (d : Kd α) (e base : Nat) (ok : Nat → Prop) (v : Value) (xs : List α) (w w1 w2 : World) [h : Near w w1] : Mv (d.S e w base ok v xs) w1 w2 (d.S e w2 base ok v xs) := ⟨fun p hb => Kd.S_below p (below_step h.nr hb)⟩
instance Mv.blk (g : Nat) (o : Obj) (w w1 w2 : World) [h : Near w w1] : Mv (w.heap[g]? = some o) w1 w2 (w2.heap[g]? = some o) := ⟨fun p hb => blk_below p (below_step h.nr hb)⟩
instance Mv.below (w0 w w1 w2 : World) [h : Near w w1] : Mv (Below w0.heap.size w0 w) w1 w2 (Below w0.heap.size w0 w2) := ⟨fun p hb => below_step p (below_step h.nr hb)⟩
instance Mv.keep (w0 w w1 w2 : World) (g : Nat) [h : Near w w1] : Mv (KeepBut w0 w g none) w1 w2 (KeepBut w0 w2 g none) := ⟨fun p hb => KeepBut.trans p (KeepBut.of_below (below_step h.nr hb) g none) (.inl rfl)⟩
theorem _root_.Go.Proofs.YtmflgmodknceeaaDoorW.PrintWords.Aside0.mv {P Q : Prop} {w1 w2 : World} (h : Aside0 P) (hb : Below w1.heap.size w1 w2) [m : Mv P w1 w2 Q] : Q := m.mv h.out hb
theorem _root_.Go.Proofs.YtmflgmodknceeaaDoorW.PrintWords.Aside0.ge {w w1 W : World} (h : Aside0 (Below w.heap.size w w1)) [m : Near w1 W] {g : Nat} (hg : g = W.heap.size) : w.heap.size ≤ g := hg ▸ Nat.le_trans h.out.size m.nr.size
theorem _root_.Go.Proofs.YtmflgmodknceeaaDoorW.PrintWords.Aside0.ne {w W : World} {g g' : Nat} {o : Obj} (h : Aside0 (w.heap[g]? = some o)) [m : Near w W] (hg : g' = W.heap.size) : g ≠ g' := fun e => by
  have h1 := blk_lt h.out
  have h2 := m.nr.size
  omega
theorem obnd_ {α β : Type} {o : Option α} {f : α → Option β} {b : β} (h : o.bind f = some b) : ∃ a, Go.Proofs.YtmflgmodknceeaaDoorW.PrintWords.Aside0 (o = some a) ∧ f a = some b := by
  obtain ⟨a, h1, h2⟩ := Option.bind_eq_some_iff.mp h
  exact ⟨a, ⟨h1⟩, h2⟩
theorem _root_.Go.Proofs.YtmflgmodknceeaaDoorW.PrintWords.Aside0.mw {P Q : Prop} {w1 w2 : World} (h : Aside0 P) (hb : Below w1.heap.size w1 w2) [m : Mv P w1 w2 Q] : Aside0 Q := ⟨m.mv h.out hb⟩
def rB_ : Bool → List Nat → List Bool
 | _, [] => []
 | b, n :: l => List.replicate n b ++ rB_ (!b) l
def rA_ (l : List Nat) : Array Bool := ⟨rB_ true l⟩
theorem pu_ {P : Program} {ops : Array Oper} {Q : Exit → Act → World → Prop} {md : Region.Mode} {S : World → Prop} {ds : List Nat} {oi : Oper} {v : Value} {fuel : Nat} {l : Array Bool} {a : Act} {w : World} {a' : Act} (i n : Nat) (r : List Nat) (h : wpAnyLast P md ops Q S ds fuel (rA_ r) a' w) (hx : ops[i]? = some oi ∧ oi.dst = some n ∧ anyB md ops l (rA_ r) i = true ∧ (∀ c a w, Q (.panic c) (a.put oi.dst v) w → Q (.panic c) a w) ∧ Yields P ops oi v a ∧ a.put (some n) v = a' := by (refine ⟨rfl, rfl, any_of HT_.out (by kernel_rfl), fun _ _ _ h => h, Or.inl ⟨by rfl, ?_⟩, ?_⟩; intro w'; go_simp; with_reducible rfl; simp only [Act.put, List.setIfInBounds_toArray, List.set_cons_zero, List.set_cons_succ, i64_w, i32_w]; rfl)) : wpAnyLast P md ops Q S ds (fuel + 1) l a w := pure_ (rA_ r) hx.1 hx.2.1 hx.2.2.1 hx.2.2.2.1 hx.2.2.2.2.1 hx.2.2.2.2.2 h
theorem pz_ {P : Program} {ops : Array Oper} {Q : Exit → Act → World → Prop} {md : Region.Mode} {S : World → Prop} {ds : List Nat} {oi : Oper} {fuel : Nat} {l : Array Bool} {a : Act} {w : World} {a' : Act} (i n : Nat) (r : List Nat) (h : wpAnyLast P md ops Q S ds fuel (rA_ r) a' w) (hx : ops[i]? = some oi ∧ oi.dst = some n ∧ anyB md ops l (rA_ r) i = true ∧ (∀ c a w, Q (.panic c) (a.put oi.dst undef) w → Q (.panic c) a w) ∧ Yields P ops oi undef a ∧ a.put (some n) undef = a' := by (refine ⟨rfl, rfl, any_of HT_.out (by kernel_rfl), fun _ _ _ h => h, Or.inr ⟨by rfl, rfl⟩, ?_⟩; simp only [Act.put, List.setIfInBounds_toArray, List.set_cons_zero, List.set_cons_succ, i64_w, i32_w]; rfl)) : wpAnyLast P md ops Q S ds (fuel + 1) l a w := pure_ (rA_ r) hx.1 hx.2.1 hx.2.2.1 hx.2.2.2.1 hx.2.2.2.2.1 hx.2.2.2.2.2 h
theorem ta_ {P : Program} {ops : Array Oper} {Q : Exit → Act → World → Prop} {md : Region.Mode} {S : World → Prop} {ds : List Nat} {oi : Oper} {v : Value} {fuel : Nat} {l : Array Bool} {a : Act} {w : World} {a' : Act} (i n : Nat) (r : List Nat) (h : wpAnyLast P md ops Q S ds fuel (rA_ r) a' w) (hx : ops[i]? = some oi ∧ oi.dst = some n ∧ takeB md ops ds l (rA_ r) i = true ∧ (∀ c a w, Q (.panic c) (a.put oi.dst v) w → Q (.panic c) a w) ∧ YieldsIf P ops S oi v a ∧ S w ∧ a.put (some n) v = a' := by (refine ⟨rfl, rfl, take_ofW HT_.out HW_.out (by kernel_rfl), fun _ _ _ h => h, Or.inl ⟨by rfl, ?_⟩, hHeld, ?_⟩; intro w' _; go_simp; with_reducible rfl; simp only [Act.put, List.setIfInBounds_toArray, List.set_cons_zero, List.set_cons_succ, i64_w, i32_w]; rfl)) : wpAnyLast P md ops Q S ds (fuel + 1) l a w := take_ (rA_ r) hx.1 hx.2.1 hx.2.2.1 hx.2.2.2.1 hx.2.2.2.2.1 hx.2.2.2.2.2.1 hx.2.2.2.2.2.2 h
theorem ta2_ {P : Program} {ops : Array Oper} {Q : Exit → Act → World → Prop} {md : Region.Mode} {S : World → Prop} {ds : List Nat} {oi : Oper} {v : Value} {fuel : Nat} {l : Array Bool} {a : Act} {w : World} {a' : Act} (i n : Nat) (r : List Nat) (h : wpAnyLast P md ops Q S ds fuel (rA_ r) a' w) (hx : ops[i]? = some oi ∧ oi.dst = some n ∧ takeB md ops ds l (rA_ r) i = true ∧ (∀ c a w, Q (.panic c) (a.put oi.dst v) w → Q (.panic c) a w) ∧ YieldsIf P ops S oi v a ∧ S w ∧ a.put (some n) v = a' := by (refine ⟨rfl, rfl, take_ofW HT_.out HW_.out (by kernel_rfl), fun _ _ _ h => h, Or.inl ⟨by rfl, ?_⟩, hHeld, ?_⟩; rintro w' ⟨s0, s1⟩; go_simp; with_reducible rfl; simp only [Act.put, List.setIfInBounds_toArray, List.set_cons_zero, List.set_cons_succ, i64_w, i32_w]; rfl)) : wpAnyLast P md ops Q S ds (fuel + 1) l a w := take_ (rA_ r) hx.1 hx.2.1 hx.2.2.1 hx.2.2.2.1 hx.2.2.2.2.1 hx.2.2.2.2.2.1 hx.2.2.2.2.2.2 h
theorem ta3_ {P : Program} {ops : Array Oper} {Q : Exit → Act → World → Prop} {md : Region.Mode} {S : World → Prop} {ds : List Nat} {oi : Oper} {v : Value} {fuel : Nat} {l : Array Bool} {a : Act} {w : World} {a' : Act} (i n : Nat) (r : List Nat) (h : wpAnyLast P md ops Q S ds fuel (rA_ r) a' w) (hx : ops[i]? = some oi ∧ oi.dst = some n ∧ takeB md ops ds l (rA_ r) i = true ∧ (∀ c a w, Q (.panic c) (a.put oi.dst v) w → Q (.panic c) a w) ∧ YieldsIf P ops S oi v a ∧ S w ∧ a.put (some n) v = a' := by (refine ⟨rfl, rfl, take_ofW HT_.out HW_.out (by kernel_rfl), fun _ _ _ h => h, Or.inl ⟨by rfl, ?_⟩, hHeld, ?_⟩; rintro w' ⟨s0, s1, s2⟩; go_simp; with_reducible rfl; simp only [Act.put, List.setIfInBounds_toArray, List.set_cons_zero, List.set_cons_succ, i64_w, i32_w]; rfl)) : wpAnyLast P md ops Q S ds (fuel + 1) l a w := take_ (rA_ r) hx.1 hx.2.1 hx.2.2.1 hx.2.2.2.1 hx.2.2.2.2.1 hx.2.2.2.2.2.1 hx.2.2.2.2.2.2 h
theorem ta4_ {P : Program} {ops : Array Oper} {Q : Exit → Act → World → Prop} {md : Region.Mode} {S : World → Prop} {ds : List Nat} {oi : Oper} {v : Value} {fuel : Nat} {l : Array Bool} {a : Act} {w : World} {a' : Act} (i n : Nat) (r : List Nat) (h : wpAnyLast P md ops Q S ds fuel (rA_ r) a' w) (hx : ops[i]? = some oi ∧ oi.dst = some n ∧ takeB md ops ds l (rA_ r) i = true ∧ (∀ c a w, Q (.panic c) (a.put oi.dst v) w → Q (.panic c) a w) ∧ YieldsIf P ops S oi v a ∧ S w ∧ a.put (some n) v = a' := by (refine ⟨rfl, rfl, take_ofW HT_.out HW_.out (by kernel_rfl), fun _ _ _ h => h, Or.inl ⟨by rfl, ?_⟩, hHeld, ?_⟩; rintro w' ⟨s0, s1, s2, s3⟩; go_simp; with_reducible rfl; simp only [Act.put, List.setIfInBounds_toArray, List.set_cons_zero, List.set_cons_succ, i64_w, i32_w]; rfl)) : wpAnyLast P md ops Q S ds (fuel + 1) l a w := take_ (rA_ r) hx.1 hx.2.1 hx.2.2.1 hx.2.2.2.1 hx.2.2.2.2.1 hx.2.2.2.2.2.1 hx.2.2.2.2.2.2 h
theorem ta5_ {P : Program} {ops : Array Oper} {Q : Exit → Act → World → Prop} {md : Region.Mode} {S : World → Prop} {ds : List Nat} {oi : Oper} {v : Value} {fuel : Nat} {l : Array Bool} {a : Act} {w : World} {a' : Act} (i n : Nat) (r : List Nat) (h : wpAnyLast P md ops Q S ds fuel (rA_ r) a' w) (hx : ops[i]? = some oi ∧ oi.dst = some n ∧ takeB md ops ds l (rA_ r) i = true ∧ (∀ c a w, Q (.panic c) (a.put oi.dst v) w → Q (.panic c) a w) ∧ YieldsIf P ops S oi v a ∧ S w ∧ a.put (some n) v = a' := by (refine ⟨rfl, rfl, take_ofW HT_.out HW_.out (by kernel_rfl), fun _ _ _ h => h, Or.inl ⟨by rfl, ?_⟩, hHeld, ?_⟩; rintro w' ⟨s0, s1, s2, s3, s4⟩; go_simp; with_reducible rfl; simp only [Act.put, List.setIfInBounds_toArray, List.set_cons_zero, List.set_cons_succ, i64_w, i32_w]; rfl)) : wpAnyLast P md ops Q S ds (fuel + 1) l a w := take_ (rA_ r) hx.1 hx.2.1 hx.2.2.1 hx.2.2.2.1 hx.2.2.2.2.1 hx.2.2.2.2.2.1 hx.2.2.2.2.2.2 h
theorem ta6_ {P : Program} {ops : Array Oper} {Q : Exit → Act → World → Prop} {md : Region.Mode} {S : World → Prop} {ds : List Nat} {oi : Oper} {v : Value} {fuel : Nat} {l : Array Bool} {a : Act} {w : World} {a' : Act} (i n : Nat) (r : List Nat) (h : wpAnyLast P md ops Q S ds fuel (rA_ r) a' w) (hx : ops[i]? = some oi ∧ oi.dst = some n ∧ takeB md ops ds l (rA_ r) i = true ∧ (∀ c a w, Q (.panic c) (a.put oi.dst v) w → Q (.panic c) a w) ∧ YieldsIf P ops S oi v a ∧ S w ∧ a.put (some n) v = a' := by (refine ⟨rfl, rfl, take_ofW HT_.out HW_.out (by kernel_rfl), fun _ _ _ h => h, Or.inl ⟨by rfl, ?_⟩, hHeld, ?_⟩; rintro w' ⟨s0, s1, s2, s3, s4, s5⟩; go_simp; with_reducible rfl; simp only [Act.put, List.setIfInBounds_toArray, List.set_cons_zero, List.set_cons_succ, i64_w, i32_w]; rfl)) : wpAnyLast P md ops Q S ds (fuel + 1) l a w := take_ (rA_ r) hx.1 hx.2.1 hx.2.2.1 hx.2.2.2.1 hx.2.2.2.2.1 hx.2.2.2.2.2.1 hx.2.2.2.2.2.2 h
theorem nm_ {P : Program} {ops : Array Oper} {Q : Exit → Act → World → Prop} {md : Region.Mode} {S : World → Prop} {ds : List Nat} {v : Value} {fuel : Nat} {l : Array Bool} {a a' : Act} {w : World} (n : Nat) (h : wpAnyLast P md ops Q S ds fuel l a' w) (ha : a.put (some n) v = a' := by show Act.put _ _ _ = _; simp only [Act.put, List.setIfInBounds_toArray, List.set_cons_zero, List.set_cons_succ, i64_w, i32_w]; rfl) : wpAnyLast P md ops Q S ds fuel l (a.put (some n) v) w := norm_ ha h
theorem k0_ {p : Prop} (h : p := by (with_reducible repeat (first | refine blk_drewN ?_ _ | refine blk_drew ?_ | refine blk_alloc ?_ _)); refine blk_put (cs := #[.string (rdOf ByteArray.empty t102 0), .int .i64 0]) ?_ 1 _ rfl; (with_reducible repeat (first | refine blk_drewN ?_ _ | refine blk_drew ?_ | refine blk_alloc ?_ _)); refine blk_put (cs := #[.string (⟨#[]⟩ : ByteArray), .int .i64 0]) ?_ 0 _ rfl; apply_rules only [BK108.out, blk_drewN, blk_drew, blk_alloc]) : p := h
theorem k1_ {p : Prop} (h : p := by (with_reducible repeat (first | refine blk_drewN ?_ _ | refine blk_drew ?_ | refine blk_alloc ?_ _)); refine blk_put (cs := #[.string (⟨#[]⟩ : ByteArray), .int .i64 0]) ?_ 1 _ rfl; (with_reducible repeat (first | refine blk_drewN ?_ _ | refine blk_drew ?_ | refine blk_alloc ?_ _)); refine blk_put (cs := #[.string (⟨#[]⟩ : ByteArray), .int .i64 0]) ?_ 0 _ rfl; apply_rules only [BK101.out, blk_drewN, blk_drew, blk_alloc]) : p := h
theorem k2_ {p : Prop} (h : p := by (with_reducible repeat (first | apply Kd.R_alloc | apply Kd.R_drewN | apply Kd.R_drew)); exact (Kd.R_mono (Kd.R_far (p := ⟨gb108, 1, none⟩) (Kd.R_far (p := ⟨gb108, 0, none⟩) (Kd.R_types HO_4.out BK108.out (by decide)) (fun _ hk => hk.2) (.string (rdOf ByteArray.empty t102 0))) (fun _ hk => hk.2) (.int .i64 t107)) (fun _ h_ => h_.1))) : p := h
theorem k3_ {p : Prop} (h : p := by (with_reducible repeat (first | refine blk_drewN ?_ _ | refine blk_drew ?_ | refine blk_alloc ?_ _)); refine blk_far ?_ NB101_108.out _; (with_reducible repeat (first | refine blk_drewN ?_ _ | refine blk_drew ?_ | refine blk_alloc ?_ _)); refine blk_far ?_ NB101_108.out _; apply_rules only [BK101.out, blk_drewN, blk_drew, blk_alloc]) : p := h
theorem k4_ {p : Prop} (h : p := by first | exact Kd.own_blk (Kd.R_ne HO_4.out BK108.out (by decide)) | (rw [add_block]; exact Kd.own_blk (Kd.R_ne HO_4.out BK108.out (by decide))) | (show (Addr.add _ _).block ≠ _; rw [add_block]; exact Kd.own_blk (Kd.R_ne HO_4.out BK108.out (by decide))) | (dsimp only; exact Kd.own_blk (Kd.R_ne HO_4.out BK108.out (by decide)))) : p := h
theorem k5_ {p : Prop} (h : p := by (try simp only [List.map_toArray, List.map_cons, List.map_nil]); first | done | rfl | (simp only [List.length_drop, List.length_take]; rfl)) : p := h
theorem k6_ {p : Prop} (h : p := by apply_rules only [HB.out, below_alloc, pw_below_drewN, below_drew1, below_set, GE101.out, GE108.out]) : p := h
theorem k7_ {p : Prop} (h : p := by first | rfl | (simp [errW_none, errW_some] <;> rfl) | (simp [*, errW_none, errW_some] <;> rfl)) : p := h
theorem k8_ {p : Prop} (h : p := by apply_rules only [HB.out, below_alloc, pw_below_drewN, below_drew1, below_set, GE101.out]) : p := h
theorem k9_ {p : Prop} (h : p := by apply_rules only [HB.out, below_alloc, pw_below_drewN, below_drew1, below_set, GE104.out]) : p := h
theorem k10_ {p : Prop} (h : p := by (try simp only [List.map_toArray, List.map_cons, List.map_nil]); first | done | rfl) : p := h
theorem k11_ {p : Prop} (h : p := by apply_rules only [HB.out, below_alloc, pw_below_drewN, below_drew1]) : p := h
theorem k12_ {p : Prop} (h : p := by apply_rules only [BK101.out, blk_drewN, blk_drew, blk_alloc]) : p := h
theorem k13_ {p : Prop} (h : p := by repeat (first | exact Drawn0.refl _ | apply Drawn0.step)) : p := h
theorem k14_ {p : Prop} (h : p := by first | (with_reducible assumption) | assumption) : p := h
theorem k15_ {p : Prop} (h : p := by first | rfl | (simp; done) | (simp [*]; done)) : p := h
theorem k16_ {p : Prop} (h : p := by first | (go_simp; done) | (go_simp; rfl)) : p := h
end Go.Proofs.YtmflgmodknceeaaDoor.P
