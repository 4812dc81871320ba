/- The kinds of values. Proved in this text: its theorems. Conditions: as each theorem states them. -/
import Derived.Test.YtjeoabbnalamcaaGreatDoorProg
import Derived.Shelf.Abstract
import Derived.Shelf.Strings.SlTrimAscii
import Derived.Lib.OthersKept
import Derived.Shelf.Strconv.Itoa3
import Derived.Shelf.Strings.Cut
import Derived.Shelf.Strconv.AtoiAll
import Derived.Shelf.Sort.Plain
import Derived.Shelf.Strings.Split
import Derived.Room.Shelf.Join48
import Derived.Deep.RegionLaw
import Derived.StillTailTactics
import Derived.Deep.Slices
import Derived.Deep.Fields
import Derived.ChangeSame
import Derived.ChangeSlices
import Derived.Lib.SmallJoins
import Derived.ProofKit
import Derived.OpenShut
import Derived.ShutString
import Derived.ChangeOld
import Derived.SizedLaws
import Derived.Carry
import Derived.Deep.DeepHandedRow
import Derived.Lib.LaidTab
import Derived.Stop.LaidErr
import Derived.Shelf.Vars
import Derived.LaidLaws
import Derived.Below
import Derived.Deep.Draws
import Derived.Deep.AppendLies
import Derived.Maps.AppendAt
import Derived.OwnWalk
import Derived.Laws.BytesArg
import Derived.Laws.MakeOwn
import Derived.Laws.OwnMore
import Derived.Deep.OwnRows
import Derived.Tactics
import Derived.Lib.ConvBytes
import Derived.Laws.Slices
import Derived.WalkKit
import Derived.KernelRfl
import Derived.RowKit3
import Derived.Deep.LoopGhost
import Derived.Deep.QuietTactic
import Derived.BigQuiet
import Derived.WideLaws
import Derived.Deep.DeepCutAuto
import Derived.Deep.CutBlock
import Derived.Deep.RegionHeld3
import Derived.Laws.Rows
import Derived.Lib.AppendStr
import Derived.ArgAppend
import Derived.Laws.IdiomCopy
import Derived.RowKit
import Derived.OrdersHeld
import Derived.Laws.BitsLemmas
import Derived.Laws.StructEq
import Derived.Test.YtjeoabbnalamcaaGreatDoorCFnExactRunScriptW0

namespace Go.Proofs.YtjeoabbnalamcaaGreatDoor.P
open Go.RowKit Go.Proofs.YtjeoabbnalamcaaGreatDoorW.qaY Go.Proofs.YtjeoabbnalamcaaGreatDoorW.PrintLast Go.Proofs.YtjeoabbnalamcaaGreatDoorW.PrintMore
attribute [local go_sem] qgV qgX qif qig qge qgf qgW qgY
set_option linter.unusedVariables false
set_option linter.unusedSimpArgs false
def errW : Option Int → Value
  | none => .nilIface
  | some c => .iface 184 (.int .i64 c)
theorem qdZ : errW none = .nilIface := rfl
theorem qd0 (c : Int) : errW (some c) = .iface 184 (.int .i64 c) := rfl
theorem info3 : (Tryz.prog.info? 3).map (fun i => (i.zero, i.size, i.bytes)) = some (some (.int .i64 0), 1, 8) := by kernel_rfl
theorem ql7 : (Tryz.prog.info? 9).map (fun i => (i.zero, i.size, i.bytes)) = some (some (.string ⟨#[]⟩), 1, 16) := by kernel_rfl
theorem info48 : (Tryz.prog.info? 48).map (fun i => (i.zero, i.size, i.bytes)) = some (some (.slice none 0 0), 1, 24) := by kernel_rfl
theorem qfQ : (Tryz.prog.info? 85).map (fun i => (i.zero, i.size, i.bytes)) = some (some (.agg #[(.int .i64 0), (.int .i64 0)]), 2, 16) := by kernel_rfl
structure qac where
  f0 : Int
  f1 : Int
def zRule : qac := ⟨(0 : Int), (0 : Int)⟩
def qaN : Kd qac := Kd.iso (Kd.pair (Kd.int .i64) (Kd.int .i64)) (fun x : qac => (x.f0, x.f1))
theorem qqt {w : World} {x : qac} {cs : List Value} (h : qaN.K w x cs) : cs = [.int .i64 x.f0, .int .i64 x.f1] := by
  obtain ⟨_, _, rfl, rfl, rfl⟩ := h; exact rfl
theorem qdo (w : World) (base : Nat) (ok : Nat → Prop) (x : qac)  : qaN.M w base ok x [.int .i64 x.f0, .int .i64 x.f1] := ⟨[.int .i64 x.f0], [.int .i64 x.f1], rfl, rfl, rfl⟩
def qae (xs : List qac) (i : Int) : qac := xs.getD i.toNat zRule
theorem qdV {w : World} {A : Option Addr} {n : Nat} {xs : List qac} (h : Kd.C qaN w A n xs) (i : Int) (h0 : 0 ≤ i) (h1 : i < n) : ∃ ad , A = some ad ∧ w.cell? (ad.add (i.toNat * 2)) = some (.int .i64 (qae xs i).f0) ∧ w.cell? ⟨(ad.add (i.toNat * 2)).block, (ad.add (i.toNat * 2)).off + 1, none⟩ = some (.int .i64 (qae xs i).f1) := by
  obtain ⟨ad, c, e, _, hK, hc0⟩ := Kd.C_get h zRule i h0 h1; have hc : ∀ j u, c[j]? = some u → w.cell? (ad.add (i.toNat * 2 + j)) = some u := hc0; obtain rfl := qqt hK; exact ⟨ad, e, hc 0 _ rfl, by rw [← qq6 _ _ 1 (by omega)]; exact hc 1 _ rfl⟩
def qer (xs : List (List qac)) (i : Int) : (List qac) := xs.getD i.toNat ([] : List qac)
theorem qpk {w : World} {A : Option Addr} {n : Nat} {xs : List (List qac)} (h : Kd.C (Kd.slice 85 qaN) w A n xs) (i : Int) (h0 : 0 ≤ i) (h1 : i < n) : ∃ ad A0 c0, A = some ad ∧ w.cell? (ad.add i.toNat) = some (.slice A0 (qer xs i).length c0) ∧ (qer xs i).length ≤ c0 ∧ qaN.C w A0 (qer xs i).length (qer xs i) := by
  obtain ⟨ad, c, e, _, hK, hc0⟩ := Kd.C_get h ([] : List qac) i h0 h1; have hc : ∀ j u, c[j]? = some u → w.cell? (ad.add (i.toNat * 1 + j)) = some u := hc0; obtain ⟨A0, c0, rfl, l0, g0⟩ := hK; exact ⟨ad, A0, c0, e, by have hq := hc 0 _ rfl; rwa [Nat.mul_one, Nat.add_zero] at hq, l0, g0⟩
def qa0 (xs : List (List Int)) (i : Int) : (List Int) := xs.getD i.toNat ([] : List Int)
theorem qiR {w : World} {A : Option Addr} {n : Nat} {xs : List (List Int)} (h : Kd.C (Kd.slice 3 (Kd.int .i64)) w A n xs) (i : Int) (h0 : 0 ≤ i) (h1 : i < n) : ∃ ad A0 c0, A = some ad ∧ w.cell? (ad.add i.toNat) = some (.slice A0 (qa0 xs i).length c0) ∧ (qa0 xs i).length ≤ c0 ∧ (Kd.int .i64).C w A0 (qa0 xs i).length (qa0 xs i) := by
  obtain ⟨ad, c, e, _, hK, hc0⟩ := Kd.C_get h ([] : List Int) i h0 h1; have hc : ∀ j u, c[j]? = some u → w.cell? (ad.add (i.toNat * 1 + j)) = some u := hc0; obtain ⟨A0, c0, rfl, l0, g0⟩ := hK; exact ⟨ad, A0, c0, e, by have hq := hc 0 _ rfl; rwa [Nat.mul_one, Nat.add_zero] at hq, l0, g0⟩
class qnJ (w w1 : World) : Prop where nr : Below w.heap.size w w1
instance qnJ.same (w : World) : qnJ w w := ⟨Below.refl _ _⟩
instance qnJ.drewN (w w1 : World) (n : Nat) [h : qnJ w w1] : qnJ w (w1.drewN n) := ⟨qaf h.nr n⟩
instance qnJ.drew (w w1 : World) [h : qnJ w w1] : qnJ w w1.drew := ⟨qah h.nr⟩
instance qnJ.alloc (w w1 : World) (o : Obj) [h : qnJ w w1] : qnJ w (w1.alloc o) := ⟨qai h.nr o⟩
class Mv (P : Prop) (w1 w2 : World) (Q : outParam Prop) : Prop where mv : P → Below w1.heap.size w1 w2 → Q
instance Mv.R {α : Type} (d : Kd α) (e base : Nat) (ok : Nat → Prop) (v : Value) (xs : List α) (w w1 w2 : World) [h : qnJ w w1] : Mv (d.R e w base ok v xs) w1 w2 (d.R e w2 base ok v xs) := ⟨fun p hb => Kd.qbx p (qaa h.nr hb)⟩
instance Mv.blk (g : Nat) (o : Obj) (w w1 w2 : World) [h : qnJ w w1] : Mv (w.heap[g]? = some o) w1 w2 (w2.heap[g]? = some o) := ⟨fun p hb => qao p (qaa h.nr hb)⟩
instance Mv.below (w0 w w1 w2 : World) [h : qnJ w w1] : Mv (Below w0.heap.size w0 w) w1 w2 (Below w0.heap.size w0 w2) := ⟨fun p hb => qaa p (qaa h.nr hb)⟩
theorem _root_.Go.Proofs.YtjeoabbnalamcaaGreatDoorW.qaY.qag.mv {P Q : Prop} {w1 w2 : World} (h : qag P) (hb : Below w1.heap.size w1 w2) [m : Mv P w1 w2 Q] : Q := m.mv h.out hb
theorem _root_.Go.Proofs.YtjeoabbnalamcaaGreatDoorW.qaY.qag.ge {w w1 W : World} (h : qag (Below w.heap.size w w1)) [m : qnJ w1 W] {g : Nat} (hg : g = W.heap.size) : w.heap.size ≤ g := hg ▸ Nat.le_trans h.out.size m.nr.size
theorem _root_.Go.Proofs.YtjeoabbnalamcaaGreatDoorW.qaY.qag.ne {w W : World} {g g' : Nat} {o : Obj} (h : qag (w.heap[g]? = some o)) [m : qnJ w W] (hg : g' = W.heap.size) : g ≠ g' := fun e => by
  have h1 := qdT h.out; have h2 := m.nr.size; omega
theorem qaw {α β : Type} {o : Option α} {f : α → Option β} {b : β} (h : o.bind f = some b) : ∃ a, Go.Proofs.YtjeoabbnalamcaaGreatDoorW.qaY.qag (o = some a) ∧ f a = some b := by
  obtain ⟨a, h1, h2⟩ := Option.bind_eq_some_iff.mp h; exact ⟨a, ⟨h1⟩, h2⟩
theorem _root_.Go.Proofs.YtjeoabbnalamcaaGreatDoorW.qaY.qag.mw {P Q : Prop} {w1 w2 : World} (h : qag P) (hb : Below w1.heap.size w1 w2) [m : Mv P w1 w2 Q] : qag Q := ⟨m.mv h.out hb⟩
def rB_ : Bool → List Nat → List Bool
 | _, [] => []
 | b, n :: l => List.replicate n b ++ rB_ (!b) l
def rA_ (l : List Nat) : Array Bool := ⟨rB_ true l⟩
theorem pu_ {P : Program} {ops : Array Oper} {Q : Exit → Act → World → Prop} {md : Region.Mode} {S : World → Prop} {ds : List Nat} {oi : Oper} {v : Value} {fuel : Nat} {l : Array Bool} {a : Act} {w : World} {a' : Act} (i n : Nat) (r : List Nat) (h : qbh P md ops Q S ds fuel (rA_ r) a' w) (hx : ops[i]? = some oi ∧ oi.dst = some n ∧ anyB md ops l (rA_ r) i = true ∧ (∀ c a w, Q (.panic c) (a.put oi.dst v) w → Q (.panic c) a w) ∧ Yields P ops oi v a ∧ a.put (some n) v = a' := by (refine ⟨rfl, rfl, any_of HT_.out (by kernel_rfl), fun _ _ _ h => h, Or.inl ⟨by rfl, ?_⟩, ?_⟩; intro w'; go_simp; with_reducible rfl; simp only [Act.put, List.setIfInBounds_toArray, List.set_cons_zero, List.set_cons_succ, qcF, qcO]; rfl)) : qbh P md ops Q S ds (fuel + 1) l a w := qe8 (rA_ r) hx.1 hx.2.1 hx.2.2.1 hx.2.2.2.1 hx.2.2.2.2.1 hx.2.2.2.2.2 h
theorem pz_ {P : Program} {ops : Array Oper} {Q : Exit → Act → World → Prop} {md : Region.Mode} {S : World → Prop} {ds : List Nat} {oi : Oper} {fuel : Nat} {l : Array Bool} {a : Act} {w : World} {a' : Act} (i n : Nat) (r : List Nat) (h : qbh P md ops Q S ds fuel (rA_ r) a' w) (hx : ops[i]? = some oi ∧ oi.dst = some n ∧ anyB md ops l (rA_ r) i = true ∧ (∀ c a w, Q (.panic c) (a.put oi.dst undef) w → Q (.panic c) a w) ∧ Yields P ops oi undef a ∧ a.put (some n) undef = a' := by (refine ⟨rfl, rfl, any_of HT_.out (by kernel_rfl), fun _ _ _ h => h, Or.inr ⟨by rfl, rfl⟩, ?_⟩; simp only [Act.put, List.setIfInBounds_toArray, List.set_cons_zero, List.set_cons_succ, qcF, qcO]; rfl)) : qbh P md ops Q S ds (fuel + 1) l a w := qe8 (rA_ r) hx.1 hx.2.1 hx.2.2.1 hx.2.2.2.1 hx.2.2.2.2.1 hx.2.2.2.2.2 h
theorem ta_ {P : Program} {ops : Array Oper} {Q : Exit → Act → World → Prop} {md : Region.Mode} {S : World → Prop} {ds : List Nat} {oi : Oper} {v : Value} {fuel : Nat} {l : Array Bool} {a : Act} {w : World} {a' : Act} (i n : Nat) (r : List Nat) (h : qbh P md ops Q S ds fuel (rA_ r) a' w) (hx : ops[i]? = some oi ∧ oi.dst = some n ∧ qnG md ops ds l (rA_ r) i = true ∧ (∀ c a w, Q (.panic c) (a.put oi.dst v) w → Q (.panic c) a w) ∧ YieldsIf P ops S oi v a ∧ S w ∧ a.put (some n) v = a' := by (refine ⟨rfl, rfl, qmm HT_.out HW_.out (by kernel_rfl), fun _ _ _ h => h, Or.inl ⟨by rfl, ?_⟩, hHeld, ?_⟩; intro w' _; go_simp; with_reducible rfl; simp only [Act.put, List.setIfInBounds_toArray, List.set_cons_zero, List.set_cons_succ, qcF, qcO]; rfl)) : qbh P md ops Q S ds (fuel + 1) l a w := qkH (rA_ r) hx.1 hx.2.1 hx.2.2.1 hx.2.2.2.1 hx.2.2.2.2.1 hx.2.2.2.2.2.1 hx.2.2.2.2.2.2 h
theorem qip {P : Program} {ops : Array Oper} {Q : Exit → Act → World → Prop} {md : Region.Mode} {S : World → Prop} {ds : List Nat} {oi : Oper} {v : Value} {fuel : Nat} {l : Array Bool} {a : Act} {w : World} {a' : Act} (i n : Nat) (r : List Nat) (h : qbh P md ops Q S ds fuel (rA_ r) a' w) (hx : ops[i]? = some oi ∧ oi.dst = some n ∧ qnG md ops ds l (rA_ r) i = true ∧ (∀ c a w, Q (.panic c) (a.put oi.dst v) w → Q (.panic c) a w) ∧ YieldsIf P ops S oi v a ∧ S w ∧ a.put (some n) v = a' := by (refine ⟨rfl, rfl, qmm HT_.out HW_.out (by kernel_rfl), fun _ _ _ h => h, Or.inl ⟨by rfl, ?_⟩, hHeld, ?_⟩; rintro w' ⟨s0, s1⟩; go_simp; with_reducible rfl; simp only [Act.put, List.setIfInBounds_toArray, List.set_cons_zero, List.set_cons_succ, qcF, qcO]; rfl)) : qbh P md ops Q S ds (fuel + 1) l a w := qkH (rA_ r) hx.1 hx.2.1 hx.2.2.1 hx.2.2.2.1 hx.2.2.2.2.1 hx.2.2.2.2.2.1 hx.2.2.2.2.2.2 h
theorem ta3_ {P : Program} {ops : Array Oper} {Q : Exit → Act → World → Prop} {md : Region.Mode} {S : World → Prop} {ds : List Nat} {oi : Oper} {v : Value} {fuel : Nat} {l : Array Bool} {a : Act} {w : World} {a' : Act} (i n : Nat) (r : List Nat) (h : qbh P md ops Q S ds fuel (rA_ r) a' w) (hx : ops[i]? = some oi ∧ oi.dst = some n ∧ qnG md ops ds l (rA_ r) i = true ∧ (∀ c a w, Q (.panic c) (a.put oi.dst v) w → Q (.panic c) a w) ∧ YieldsIf P ops S oi v a ∧ S w ∧ a.put (some n) v = a' := by (refine ⟨rfl, rfl, qmm HT_.out HW_.out (by kernel_rfl), fun _ _ _ h => h, Or.inl ⟨by rfl, ?_⟩, hHeld, ?_⟩; rintro w' ⟨s0, s1, s2⟩; go_simp; with_reducible rfl; simp only [Act.put, List.setIfInBounds_toArray, List.set_cons_zero, List.set_cons_succ, qcF, qcO]; rfl)) : qbh P md ops Q S ds (fuel + 1) l a w := qkH (rA_ r) hx.1 hx.2.1 hx.2.2.1 hx.2.2.2.1 hx.2.2.2.2.1 hx.2.2.2.2.2.1 hx.2.2.2.2.2.2 h
theorem nm_ {P : Program} {ops : Array Oper} {Q : Exit → Act → World → Prop} {md : Region.Mode} {S : World → Prop} {ds : List Nat} {v : Value} {fuel : Nat} {l : Array Bool} {a a' : Act} {w : World} (n : Nat) (h : qbh P md ops Q S ds fuel l a' w) (ha : a.put (some n) v = a' := by show Act.put _ _ _ = _; simp only [Act.put, List.setIfInBounds_toArray, List.set_cons_zero, List.set_cons_succ, qcF, qcO]; rfl) : qbh P md ops Q S ds fuel l (a.put (some n) v) w := qeq ha h
theorem k0_ {p : Prop} (h : p := by (with_reducible repeat (first | refine qal ?_ _ | refine qan ?_ | refine qaj ?_ _)); refine qbp (cs := #[.string (qeW ByteArray.empty qaI 0), .int .i64 0]) ?_ 1 _ rfl; (with_reducible repeat (first | refine qal ?_ _ | refine qan ?_ | refine qaj ?_ _)); refine qbp (cs := #[.string (⟨#[]⟩ : ByteArray), .int .i64 0]) ?_ 0 _ rfl; apply_rules only [qfC.out, qal, qan, qaj]) : p := h
theorem k1_ {p : Prop} (h : p := by (with_reducible repeat (first | refine qal ?_ _ | refine qan ?_ | refine qaj ?_ _)); refine qbp (cs := #[.string (⟨#[]⟩ : ByteArray), .int .i64 0]) ?_ 1 _ rfl; (with_reducible repeat (first | refine qal ?_ _ | refine qan ?_ | refine qaj ?_ _)); refine qbp (cs := #[.string (⟨#[]⟩ : ByteArray), .int .i64 0]) ?_ 0 _ rfl; apply_rules only [qaF.out, qal, qan, qaj]) : p := h
theorem k2_ {p : Prop} (h : p := by (with_reducible repeat (first | refine qal ?_ _ | refine qan ?_ | refine qaj ?_ _)); refine qbp (cs := #[.int .i64 ((qae l0 qca).f0), .int .i64 0]) ?_ 1 _ rfl; (with_reducible repeat (first | refine qal ?_ _ | refine qan ?_ | refine qaj ?_ _)); refine qbp (cs := #[.int .i64 0, .int .i64 0]) ?_ 0 _ rfl; apply_rules only [qcr.out, qal, qan, qaj]) : p := h
theorem k3_ {p : Prop} (h : p := by (with_reducible repeat (first | refine qal ?_ _ | refine qan ?_ | refine qaj ?_ _)); refine qbp (cs := #[.int .i64 ((qae l0 qb2).f0), .int .i64 0]) ?_ 1 _ rfl; (with_reducible repeat (first | refine qal ?_ _ | refine qan ?_ | refine qaj ?_ _)); refine qbp (cs := #[.int .i64 0, .int .i64 0]) ?_ 0 _ rfl; apply_rules only [qcr.out, qal, qan, qaj]) : p := h
theorem k5_ {p : Prop} (h : p := by (with_reducible repeat (first | refine qal ?_ _ | refine qan ?_ | refine qaj ?_ _)); refine qbp (cs := #[.slice Ao4 qaI.length co4, .int .i64 0]) ?_ 1 _ rfl; (with_reducible repeat (first | refine qal ?_ _ | refine qan ?_ | refine qaj ?_ _)); refine qbp (cs := #[.slice none 0 0, .int .i64 0]) ?_ 0 _ rfl; apply_rules only [qaF.out, qal, qan, qaj]) : p := h
theorem k6_ {p : Prop} (h : p := by (with_reducible repeat (first | refine qal ?_ _ | refine qan ?_ | refine qaj ?_ _)); refine qbp (cs := #[.int .i64 qas, .slice none 0 0]) ?_ 1 _ rfl; (with_reducible repeat (first | refine qal ?_ _ | refine qan ?_ | refine qaj ?_ _)); refine qbp (cs := #[.int .i64 0, .slice none 0 0]) ?_ 0 _ rfl; apply_rules only [qek.out, qal, qan, qaj]) : p := h
theorem k7_ {p : Prop} (h : p := by (with_reducible repeat (first | refine qal ?_ _ | refine qan ?_ | refine qaj ?_ _)); refine qbp (cs := #[.int .i64 0, .slice none 0 0]) ?_ 1 _ rfl; (with_reducible repeat (first | refine qal ?_ _ | refine qan ?_ | refine qaj ?_ _)); refine qbp (cs := #[.int .i64 0, .slice none 0 0]) ?_ 0 _ rfl; apply_rules only [qaF.out, qal, qan, qaj]) : p := h
theorem k8_ {p : Prop} (h : p := by (with_reducible repeat (first | refine qal ?_ _ | refine qan ?_ | refine qaj ?_ _)); refine qbp (cs := #[.int .i64 qcs, .int .i64 0]) ?_ 1 _ rfl; (with_reducible repeat (first | refine qal ?_ _ | refine qan ?_ | refine qaj ?_ _)); refine qbp (cs := #[.int .i64 0, .int .i64 0]) ?_ 0 _ rfl; apply_rules only [qaF.out, qal, qan, qaj]) : p := h
theorem k9_ {p : Prop} (h : p := by (with_reducible repeat (first | apply Kd.qaq | apply Kd.qar | apply Kd.qaC)); exact (Kd.qa8 (Kd.qc7 (p := ⟨qeo, 1, none⟩) (Kd.qc7 (p := ⟨qeo, 0, none⟩) (Kd.qcH qdn.out qfC.out (by decide)) (fun _ hk => hk.2) (.string (qeW ByteArray.empty qaI 0))) (fun _ hk => hk.2) (.int .i64 t107)) (fun _ h_ => h_.1))) : p := h
theorem k10_ {p : Prop} (h : p := by (with_reducible repeat (first | refine qal ?_ _ | refine qan ?_ | refine qaj ?_ _)); refine qcY ?_ qdy.out _; (with_reducible repeat (first | refine qal ?_ _ | refine qan ?_ | refine qaj ?_ _)); refine qcY ?_ qdy.out _; apply_rules only [qaF.out, qal, qan, qaj]) : p := h
theorem k11_ {p : Prop} (h : p := by (with_reducible repeat (first | apply Kd.qaq | apply Kd.qar | apply Kd.qaC)); exact (Kd.qa8 (Kd.qc7 (p := ⟨qb8, 1, none⟩) (Kd.qc7 (p := ⟨qb8, 0, none⟩) (Kd.qa8 qdr.out (fun k_ hk => (⟨hk, hk.2⟩ : _ ∧ k_ ≠ qb8))) (fun _ hk => hk.2) (.int .i64 qcs)) (fun _ hk => hk.2) (.int .i64 qfL)) (fun _ h_ => h_.1))) : p := h
theorem k17_ {p : Prop} (h : p := by first | exact Kd.qmd (Kd.R_ne qdn.out qfC.out (by decide)) | (rw [add_block]; exact Kd.qmd (Kd.R_ne qdn.out qfC.out (by decide))) | (show (Addr.add _ _).block ≠ _; rw [add_block]; exact Kd.qmd (Kd.R_ne qdn.out qfC.out (by decide))) | (dsimp only; exact Kd.qmd (Kd.R_ne qdn.out qfC.out (by decide)))) : p := h
theorem k18_ {p : Prop} (h : p := by (with_reducible repeat (first | apply Kd.qaq | apply Kd.qar | apply Kd.qaC)); exact Kd.qa8 (Kd.qc7 (p := ⟨qeU, 1, none⟩) (Kd.qc7 (p := ⟨qeU, 0, none⟩) (Kd.qcH qbW.out qek.out (by decide)) (fun _ hk => hk.2) (.int .i64 qas)) (fun _ hk => hk.2) (.slice Ao8 qaI.length co8)) (fun _ hk => trivial)) : p := h
theorem k19_ {p : Prop} (h : p := by (with_reducible repeat (first | apply Kd.qaq | apply Kd.qar | apply Kd.qaC)); exact Kd.qa8 (Kd.qc7 (p := ⟨qrD, 1, none⟩) (Kd.qc7 (p := ⟨qrD, 0, none⟩) (Kd.qcH qe2.out qqR.out (by decide)) (fun _ hk => hk.2) (.slice Ao5 qas.length co5)) (fun _ hk => hk.2) (.int .i64 qcf)) (fun _ hk => trivial)) : p := h
theorem k20_ {p : Prop} (h : p := by (with_reducible repeat (first | apply Kd.qaq | apply Kd.qar | apply Kd.qaC)); exact (Kd.qa8 (Kd.qc7 (p := ⟨qeU, 1, none⟩) (Kd.qc7 (p := ⟨qeU, 0, none⟩) (Kd.qcH qbW.out qek.out (by decide)) (fun _ hk => hk.2) (.int .i64 qas)) (fun _ hk => hk.2) (.slice Ao8 qaI.length co8)) (fun _ h_ => h_.1))) : p := h
theorem k22_ {p : Prop} (h : p := by repeat (first | exact (Kd.R_reads' (Kd.qgJ (by apply_rules only [HO.out, Kd.qaq, Kd.qar, Kd.qaC]) (by apply_rules only [HC.out, qal, qan, qaj]) (by decide) 1 _)).2.2 | (with_reducible refine Kd.C_alloc ?_ _) | (with_reducible refine Kd.C_drewN ?_ _) | (with_reducible refine Kd.C_drew ?_))) : p := h
theorem k23_ {p : Prop} (h : p := by repeat (first | exact (Kd.R_reads' (Kd.qgJ (by apply_rules only [HX.out, Kd.qaq, Kd.qar, Kd.qaC]) (by apply_rules only [HC.out, qal, qan, qaj]) (by decide) 0 _)).2.2 | (with_reducible refine Kd.C_alloc ?_ _) | (with_reducible refine Kd.C_drewN ?_ _) | (with_reducible refine Kd.C_drew ?_))) : p := h
theorem qe6 {p : Prop} (h : p := by first | (rw [hy_]; with_reducible exact H) | (have H2_ := (Option.bind_some _ _).symm.trans H; rw [hy_]; with_reducible exact H2_) | (have H2_ := (Option.bind_some _ _).symm.trans H; with_reducible exact H2_) | with_reducible exact H | (rw [hy_]; exact H) | exact H) : p := h
theorem k26_ {p : Prop} (h : p := by repeat (first | exact (Kd.qei HR0.out (by apply_rules only [HB.out, qai, qaf, qah])) | (with_reducible refine Kd.C_alloc ?_ _) | (with_reducible refine Kd.C_drewN ?_ _) | (with_reducible refine Kd.C_drew ?_))) : p := h
theorem k28_ {p : Prop} (h : p := by (try simp only [List.map_toArray, List.map_cons, List.map_nil]); first | done | (rw [show qlG.length = t105.length from (Kd.R_reads' qfE.out).1.symm] <;> rfl) | rfl | (simp only [List.length_drop, List.length_take]; rfl)) : p := h
theorem k32_ {p : Prop} (h : p := by repeat (first | (with_reducible exact qjP.out) | (with_reducible refine Kd.C_alloc ?_ _) | (with_reducible refine Kd.C_drewN ?_ _) | (with_reducible refine Kd.C_drew ?_) | exact qjP.out)) : p := h
theorem qg3 {p : Prop} (h : p := by repeat (first | exact (Kd.qei HR0.out HB.out) | (with_reducible refine Kd.C_alloc ?_ _) | (with_reducible refine Kd.C_drewN ?_ _) | (with_reducible refine Kd.C_drew ?_))) : p := h
theorem k38_ {p : Prop} (h : p := by repeat (first | exact (Kd.R_reads' qbW.out).2.2 | (with_reducible refine Kd.C_alloc ?_ _) | (with_reducible refine Kd.C_drewN ?_ _) | (with_reducible refine Kd.C_drew ?_))) : p := h
theorem k39_ {p : Prop} (h : p := by repeat (first | exact (Kd.R_reads' qfE.out).2.2 | (with_reducible refine Kd.C_alloc ?_ _) | (with_reducible refine Kd.C_drewN ?_ _) | (with_reducible refine Kd.C_drew ?_))) : p := h
theorem k41_ {p : Prop} (h : p := by repeat (first | exact (Kd.R_reads' qdr.out).2.2 | (with_reducible refine Kd.C_alloc ?_ _) | (with_reducible refine Kd.C_drewN ?_ _) | (with_reducible refine Kd.C_drew ?_))) : p := h
theorem k42_ {p : Prop} (h : p := by repeat (first | exact (Kd.R_reads' qdn.out).2.2 | (with_reducible refine Kd.C_alloc ?_ _) | (with_reducible refine Kd.C_drewN ?_ _) | (with_reducible refine Kd.C_drew ?_))) : p := h
theorem k43_ {p : Prop} (h : p := by repeat (first | exact (Kd.R_reads' qgy.out).2.2 | (with_reducible refine Kd.C_alloc ?_ _) | (with_reducible refine Kd.C_drewN ?_ _) | (with_reducible refine Kd.C_drew ?_))) : p := h
theorem k44_ {p : Prop} (h : p := by repeat (first | exact (Kd.R_reads' qit.out).2.2 | (with_reducible refine Kd.C_alloc ?_ _) | (with_reducible refine Kd.C_drewN ?_ _) | (with_reducible refine Kd.C_drew ?_))) : p := h
theorem k45_ {p : Prop} (h : p := by repeat (first | exact (Kd.R_reads' HO4.out).2.2 | (with_reducible refine Kd.C_alloc ?_ _) | (with_reducible refine Kd.C_drewN ?_ _) | (with_reducible refine Kd.C_drew ?_))) : p := h
theorem qjk {p : Prop} (h : p := by repeat (first | exact (Kd.R_reads' HO.out).2.2 | (with_reducible refine Kd.C_alloc ?_ _) | (with_reducible refine Kd.C_drewN ?_ _) | (with_reducible refine Kd.C_drew ?_))) : p := h
theorem qqq {p : Prop} (h : p := by repeat (first | exact (Kd.R_reads' HX.out).2.2 | (with_reducible refine Kd.C_alloc ?_ _) | (with_reducible refine Kd.C_drewN ?_ _) | (with_reducible refine Kd.C_drew ?_))) : p := h
theorem k49_ {p : Prop} (h : p := by with_reducible repeat (first | exact HB3.out | refine qap ?_ G7.out | refine qap ?_ G11.out | apply qai | apply qaf | apply qah)) : p := h
theorem qfM {p : Prop} (h : p := by repeat (first | exact HR0.out | (with_reducible refine Kd.C_alloc ?_ _) | (with_reducible refine Kd.C_drewN ?_ _) | (with_reducible refine Kd.C_drew ?_))) : p := h
theorem k51_ {p : Prop} (h : p := by apply ho_; (with_reducible repeat (first | exact B2.out | refine qal ?_ _ | refine qan ?_ | refine qaj ?_ _ | apply qeB)); rfl) : p := h
theorem k52_ {p : Prop} (h : p := by apply ho_; (with_reducible repeat (first | exact B3.out | refine qal ?_ _ | refine qan ?_ | refine qaj ?_ _ | apply qeB)); rfl) : p := h
theorem qg4 {p : Prop} (h : p := by first | exact Kd.qfO _ _ _ _ _ | exact Kd.N_nil _ _ _ _ _ | exact Kd.V_nil _ _ _ _ _ | exact Kd.Q_nil _ _ _ _ _ | exact Kd.S_nil _ _ _ _ _) : p := h
theorem k55_ {p : Prop} (h : p := by first | exact Kd.S_nil _ _ _ _ _ | exact Kd.N_nil _ _ _ _ _ | exact Kd.V_nil _ _ _ _ _ | exact Kd.Q_nil _ _ _ _ _ | exact Kd.qfO _ _ _ _ _) : p := h
theorem qbK {p : Prop} (h : p := by (try simp only [List.map_toArray, List.map_cons, List.map_nil]); first | done | rfl | (simp only [List.length_drop, List.length_take]; rfl)) : p := h
theorem k57_ {p : Prop} (h : p := by with_reducible repeat (first | exact HB.out | refine qap ?_ G2.out | apply qai | apply qaf | apply qah)) : p := h
theorem k58_ {p : Prop} (h : p := by repeat (first | (with_reducible first | exact HK.out | apply Kept.alloc | apply Kept.drewN | apply Kept.drew) | exact HK.out)) : p := h
theorem qpL {p : Prop} (h : p := by rw [HWE.out]; exact Kd.qau how (qab (by apply_rules only [HB.out, qai, qaf, qah]))) : p := h
theorem k62_ {p : Prop} (h : p := by rw [show qlG.length = t105.length from (Kd.R_reads' qfE.out).1.symm]; exact (Kd.R_reads' qfE.out).2.1) : p := h
theorem k63_ {p : Prop} (h : p := by (with_reducible repeat (first | apply Kd.qaq | apply Kd.qar | apply Kd.qaC)); exact qbW.out) : p := h
theorem k64_ {p : Prop} (h : p := by (with_reducible repeat (first | apply Kd.qaq | apply Kd.qar | apply Kd.qaC)); exact qdr.out) : p := h
theorem k65_ {p : Prop} (h : p := by (with_reducible repeat (first | apply Kd.qaq | apply Kd.qar | apply Kd.qaC)); exact qgy.out) : p := h
theorem k67_ {p : Prop} (h : p := by apply_rules only [HB.out, qai, qaf, qah, qap, qen.out, qkN.out]) : p := h
theorem qsi {p : Prop} (h : p := by rw [hg]; exact qab (by apply_rules only [HB.out, qai, qaf, qah])) : p := h
theorem qqr {p : Prop} (h : p := by simp only [qiG, Act.put, List.setIfInBounds_toArray, List.set_cons_zero, List.set_cons_succ]) : p := h
theorem qce {p : Prop} (h : p := by first | rfl | (simp [qdZ, qd0] <;> rfl) | (simp [*, qdZ, qd0] <;> rfl)) : p := h
theorem qdt {p : Prop} (h : p := by apply_rules only [HB.out, qai, qaf, qah, qap, qen.out]) : p := h
theorem qmt {p : Prop} (h : p := by apply_rules only [HB.out, qai, qaf, qah, qap, qgj.out]) : p := h
theorem k75_ {p : Prop} (h : p := by apply_rules only [HB.out, qai, qaf, qah, qap, GE105.out]) : p := h
theorem qoJ {p : Prop} (h : p := by apply_rules only [HB.out, qai, qaf, qah, qap, qmz.out]) : p := h
theorem k77_ {p : Prop} (h : p := by apply_rules only [HB.out, qai, qaf, qah, qap, GE109.out]) : p := h
theorem qb1 {p : Prop} (h : p := by (try simp only [List.map_toArray, List.map_cons, List.map_nil]); first | done | rfl) : p := h
theorem k79_ {p : Prop} (h : p := by apply_rules only [HB3.out, qai, qaf, qah]) : p := h
theorem qam {p : Prop} (h : p := by apply_rules only [HB.out, qai, qaf, qah]) : p := h
theorem qpM {p : Prop} (h : p := by apply_rules only [qdi.out, Kd.qaq, Kd.qar, Kd.qaC]) : p := h
theorem qqL {p : Prop} (h : p := by apply_rules only [qbW.out, Kd.qaq, Kd.qar, Kd.qaC]) : p := h
theorem k84_ {p : Prop} (h : p := by apply_rules only [qeK.out, Kd.qaq, Kd.qar, Kd.qaC]) : p := h
theorem k85_ {p : Prop} (h : p := by apply_rules only [qfE.out, Kd.qaq, Kd.qar, Kd.qaC]) : p := h
theorem k86_ {p : Prop} (h : p := by apply_rules only [qqT.out, Kd.qaq, Kd.qar, Kd.qaC]) : p := h
theorem qhQ {p : Prop} (h : p := by apply_rules only [qdr.out, Kd.qaq, Kd.qar, Kd.qaC]) : p := h
theorem qjI {p : Prop} (h : p := by apply_rules only [qdn.out, Kd.qaq, Kd.qar, Kd.qaC]) : p := h
theorem qnM {p : Prop} (h : p := by apply_rules only [qgy.out, Kd.qaq, Kd.qar, Kd.qaC]) : p := h
theorem qoK {p : Prop} (h : p := by apply_rules only [qfv.out, Kd.qaq, Kd.qar, Kd.qaC]) : p := h
theorem k91_ {p : Prop} (h : p := by apply_rules only [qit.out, Kd.qaq, Kd.qar, Kd.qaC]) : p := h
theorem qmu {p : Prop} (h : p := by apply_rules only [qaF.out, qal, qan, qaj]) : p := h
theorem k94_ {p : Prop} (h : p := by apply_rules only [HO.out, Kd.qaq, Kd.qar, Kd.qaC]) : p := h
theorem qmv {p : Prop} (h : p := by apply_rules only [HX.out, Kd.qaq, Kd.qar, Kd.qaC]) : p := h
theorem qqM {p : Prop} (h : p := by unfold qbE.f; rw [HCM.out]; simp only [HKD.out]) : p := h
theorem k97_ {p : Prop} (h : p := by apply_rules only [B3.out, qal, qan, qaj]) : p := h
theorem qqs {p : Prop} (h : p := by apply_rules only [HC.out, qal, qan, qaj]) : p := h
theorem k99_ {p : Prop} (h : p := by have := HK1.out; have := HK2.out; have := HK3.out; omega) : p := h
theorem qc2 {p : Prop} (h : p := by repeat (first | exact qcX.refl _ | apply qcX.step)) : p := h
theorem qaU {p : Prop} (h : p := by first | (with_reducible assumption) | assumption) : p := h
theorem k102_ {p : Prop} (h : p := by first | simpa using c3 | (simp at c3 ⊢; omega)) : p := h
theorem qav {p : Prop} (h : p := by first | rfl | (simp; done) | (simp [*]; done)) : p := h
theorem qbb {p : Prop} (h : p := by first | (go_simp; done) | (go_simp; rfl)) : p := h
theorem ql9 {p : Prop} (h : p := by have := HK1.out; have := HK2.out; omega) : p := h
theorem qid {p : Prop} (h : p := by first | omega | exact Nat.le_refl _) : p := h
theorem qc9 {p : Prop} (h : p := by have := HK1.out; omega) : p := h
theorem qb6 {p : Prop} (h : p := by exact HC0.out) : p := h
theorem qed {w : World} {g : Nat} {a0 : Value} {l : List Value} {T : TypeId} (h : w.heap[g]? = some (.cells (a0 :: l).toArray T (0, 0))) : w.cell? ⟨g, 0, none⟩ = some a0 := by rw [qa7 h 0]; rfl
theorem qbB {w : World} {g : Nat} {a0 a1 : Value} {l : List Value} {T : TypeId} (h : w.heap[g]? = some (.cells (a0 :: a1 :: l).toArray T (0, 0))) : w.cell? ⟨g, 1, none⟩ = some a1 := by rw [qa7 h 1]; rfl
theorem qfl {w : World} {g : Nat} {a0 a1 a2 : Value} {l : List Value} {T : TypeId} (h : w.heap[g]? = some (.cells (a0 :: a1 :: a2 :: l).toArray T (0, 0))) : w.cell? ⟨g, 2, none⟩ = some a2 := by rw [qa7 h 2]; rfl
theorem qft {w : World} {g : Nat} {a0 a1 a2 a3 : Value} {l : List Value} {T : TypeId} (h : w.heap[g]? = some (.cells (a0 :: a1 :: a2 :: a3 :: l).toArray T (0, 0))) : w.cell? ⟨g, 3, none⟩ = some a3 := by rw [qa7 h 3]; rfl
theorem qfu {w : World} {g : Nat} {a0 a1 a2 a3 a4 : Value} {l : List Value} {T : TypeId} (h : w.heap[g]? = some (.cells (a0 :: a1 :: a2 :: a3 :: a4 :: l).toArray T (0, 0))) : w.cell? ⟨g, 4, none⟩ = some a4 := by rw [qa7 h 4]; rfl
theorem cez5_ {w : World} {g : Nat} {a0 a1 a2 a3 a4 a5 : Value} {l : List Value} {T : TypeId} (h : w.heap[g]? = some (.cells (a0 :: a1 :: a2 :: a3 :: a4 :: a5 :: l).toArray T (0, 0))) : w.cell? ⟨g, 5, none⟩ = some a5 := by rw [qa7 h 5]; rfl
theorem qcv {w : World} {g : Nat} {a0 : Value} {l : List Value} {T : TypeId} (h : w.heap[g]? = some (.cells (a0 :: l).toArray T (0, 0))) : w.cell? ⟨g, 0, none⟩ = some a0 ∧ w.frozen? ⟨g, 0, none⟩ = false := ⟨qed h, qad h 0⟩
theorem qbG {w : World} {g : Nat} {a0 a1 : Value} {l : List Value} {T : TypeId} (h : w.heap[g]? = some (.cells (a0 :: a1 :: l).toArray T (0, 0))) : w.cell? ⟨g, 0, none⟩ = some a0 ∧ w.cell? ⟨g, 1, none⟩ = some a1 ∧ w.frozen? ⟨g, 0, none⟩ = false ∧ w.frozen? ⟨g, 1, none⟩ = false := ⟨qed h, qbB h, qad h 0, qad h 1⟩
theorem gez3_ {w : World} {g : Nat} {a0 a1 a2 : Value} {l : List Value} {T : TypeId} (h : w.heap[g]? = some (.cells (a0 :: a1 :: a2 :: l).toArray T (0, 0))) : w.cell? ⟨g, 0, none⟩ = some a0 ∧ w.cell? ⟨g, 1, none⟩ = some a1 ∧ w.cell? ⟨g, 2, none⟩ = some a2 ∧ w.frozen? ⟨g, 0, none⟩ = false ∧ w.frozen? ⟨g, 1, none⟩ = false ∧ w.frozen? ⟨g, 2, none⟩ = false := ⟨qed h, qbB h, qfl h, qad h 0, qad h 1, qad h 2⟩
theorem bx_ {P : Program} {ops : Array Oper} {Q : Exit → Act → World → Prop} {rest : List Oper} {a : Act} {o : Oper} {W : World} (N : Nat) (hd : o.dst = some N) {cs : Array Value} {t : TypeId} (hr : (execOp a.eval o).run P W = .ok (.value (.pointer (some ⟨W.heap.size, 0, none⟩))) (W.alloc (.cells cs t (0, 0)))) (h : ∀ g, g = W.heap.size → ∀ w1, w1.heap[g]? = some (.cells cs t (0, 0)) → Below W.heap.size W w1 → wpList P ops Q rest (a.put o.dst (.pointer (some ⟨g, 0, none⟩))) w1) (hg : Region.wanted o (yielded ops a.tmps) = true := by rfl) : wpList P ops Q (o :: rest) a W := qbH hg (qdH (o := { o with guard := none }) rfl hd hr h)
theorem gl_ {P : Program} {ops : Array Oper} {Q : Exit → Act → World → Prop} {rest : List Oper} {a : Act} {oi : Oper} {w : World} (N : Nat) {f : FuncId} {fn : Func} {os : Array Operand} {ts : Array TypeId} (hf : P.funcs[f]? = some fn) (args : Array Value) (hop : oi.op = .call { callee := .value (.func f), args := os, argTypes := ts }) (hargs : os.map a.eval = args) (h : Calls P f args w fun e w' => ∃ v, e = .returned v ∧ wpList P ops Q rest (a.put (some N) v) w') (hd : oi.dst = some N := by rfl) (hg : Region.wanted oi (yielded ops a.tmps) = true := by rfl) (hn : (fn.name == "runtime.NumGoroutine") = false := by kernel_rfl) (hb : fn.body.isSome = true := by rfl) : wpList P ops Q (oi :: rest) a w := qbH hg (qgD (oi := { oi with guard := none }) (some N) hd rfl hf hn hb args hop hargs h)
theorem qdI {α β : Type} {a a' : α} {b b' : β} (h : some (a, b) = some (a', b')) : a = a' ∧ b = b' := by simpa using h
theorem qfI {α β γ : Type} {a a' : α} {b b' : β} {c c' : γ} (h : some (a, b, c) = some (a', b', c')) : a = a' ∧ b = b' ∧ c = c' := by simpa using h
theorem pj4_ {α β γ δ : Type} {a a' : α} {b b' : β} {c c' : γ} {d d' : δ} (h : some (a, b, c, d) = some (a', b', c', d')) : a = a' ∧ b = b' ∧ c = c' ∧ d = d' := by simpa using h
theorem pj5_ {α β γ δ ε : Type} {a a' : α} {b b' : β} {c c' : γ} {d d' : δ} {e e' : ε} (h : some (a, b, c, d, e) = some (a', b', c', d', e')) : a = a' ∧ b = b' ∧ c = c' ∧ d = d' ∧ e = e' := by simpa using h
theorem li_ {P : Program} {ops : Array Oper} {Q : Exit → Act → World → Prop} {rest : List Oper} {a : Act} {o : Oper} {W : World} {α : Type} (d : Kd α) (e N : Nat) (hd : o.dst = some N) {xs : List α} (hr : (execOp a.eval o).run P W = .ok (.value (.slice (some ⟨W.heap.size, 0, none⟩) xs.length xs.length)) (W.alloc (.cells (([] : List Value)).toArray e))) (h : ∀ v1 w1, d.R e w1 W.heap.size (fun _ => True) v1 xs → Below W.heap.size W w1 → wpList P ops Q rest (a.put o.dst v1) w1) (hx : xs = [] := by rfl) (hg : Region.wanted o (yielded ops a.tmps) = true := by rfl) : wpList P ops Q (o :: rest) a W := by subst hx; exact qbH hg (Kd.qg9 (o := { o with guard := none }) d W.heap.size e rfl hd (inner := []) (ok := fun _ => True) (okp := fun _ => True) hr (qd9.none _ _) (fun _ hk => hk) trivial (Below.refl _ _) (Nat.le_refl _) (by simp) (fun v1 w1 h1 h2 _ _ => h v1 w1 h1 h2))
theorem ak_ {p : Prop} (h : p) : qag p := ⟨h⟩
end Go.Proofs.YtjeoabbnalamcaaGreatDoor.P
