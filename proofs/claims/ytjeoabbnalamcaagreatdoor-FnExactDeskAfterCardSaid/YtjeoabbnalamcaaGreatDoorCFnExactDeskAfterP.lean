/- The kinds of values. Proved in this text: its theorems. Conditions: as each theorem states them. -/
import Derived.Test.YtjeoabbnalamcaaGreatDoorProg
import Derived.Shelf.Abstract
import Derived.Shelf.Strings.SlTrimAscii
import Derived.Lib.OthersKept
import Derived.Shelf.Strconv.Itoa3
import Derived.Shelf.Strings.Cut
import Derived.Shelf.Strconv.AtoiAll
import Derived.Shelf.Sort.Plain
import Derived.Shelf.Strings.Split
import Derived.Room.Shelf.Join48
import Derived.Deep.RegionLaw
import Derived.StillTailTactics
import Derived.Deep.Slices
import Derived.Deep.Fields
import Derived.ChangeSame
import Derived.ChangeSlices
import Derived.Lib.SmallJoins
import Derived.ProofKit
import Derived.OpenShut
import Derived.ShutString
import Derived.ChangeOld
import Derived.SizedLaws
import Derived.Carry
import Derived.Deep.DeepHandedRow
import Derived.Lib.LaidTab
import Derived.Stop.LaidErr
import Derived.Shelf.Vars
import Derived.LaidLaws
import Derived.Below
import Derived.Deep.Draws
import Derived.Deep.AppendLies
import Derived.Maps.AppendAt
import Derived.OwnWalk
import Derived.Laws.BytesArg
import Derived.Laws.MakeOwn
import Derived.Laws.OwnMore
import Derived.Deep.OwnRows
import Derived.Tactics
import Derived.Lib.ConvBytes
import Derived.Laws.Slices
import Derived.WalkKit
import Derived.KernelRfl
import Derived.RowKit3
import Derived.Deep.LoopGhost
import Derived.Deep.QuietTactic
import Derived.BigQuiet
import Derived.WideLaws
import Derived.Deep.DeepCutAuto
import Derived.Deep.CutBlock
import Derived.Deep.RegionHeld3
import Derived.Laws.Rows
import Derived.Lib.AppendStr
import Derived.ArgAppend
import Derived.Laws.IdiomCopy
import Derived.RowKit
import Derived.OrdersHeld
import Derived.Laws.BitsLemmas
import Derived.Laws.StructEq
import Derived.Test.YtjeoabbnalamcaaGreatDoorCFnExactDeskAfterW0

namespace Go.Proofs.YtjeoabbnalamcaaGreatDoor.P
open Go.RowKit Go.Proofs.YtjeoabbnalamcaaGreatDoorW.qaZ Go.Proofs.YtjeoabbnalamcaaGreatDoorW.PrintLast Go.Proofs.YtjeoabbnalamcaaGreatDoorW.PrintMore
attribute [local go_sem] qhj qhl qiE qiF qgt qgu qhk qhm
set_option linter.unusedVariables false
set_option linter.unusedSimpArgs false
def errW : Option Int → Value
  | none => .nilIface
  | some c => .iface 184 (.int .i64 c)
theorem qea : errW none = .nilIface := rfl
theorem qeb (c : Int) : errW (some c) = .iface 184 (.int .i64 c) := rfl
theorem info3 : (Tryz.prog.info? 3).map (fun i => (i.zero, i.size, i.bytes)) = some (some (.int .i64 0), 1, 8) := by kernel_rfl
theorem qm1 : (Tryz.prog.info? 9).map (fun i => (i.zero, i.size, i.bytes)) = some (some (.string ⟨#[]⟩), 1, 16) := by kernel_rfl
theorem info48 : (Tryz.prog.info? 48).map (fun i => (i.zero, i.size, i.bytes)) = some (some (.slice none 0 0), 1, 24) := by kernel_rfl
theorem qfV : (Tryz.prog.info? 85).map (fun i => (i.zero, i.size, i.bytes)) = some (some (.agg #[(.int .i64 0), (.int .i64 0)]), 2, 16) := by kernel_rfl
structure qac where
  f0 : Int
  f1 : Int
def qrL : qac := ⟨(0 : Int), (0 : Int)⟩
def qaG : Kd qac := Kd.iso (Kd.pair (Kd.int .i64) (Kd.int .i64)) (fun x : qac => (x.f0, x.f1))
theorem qru {w : World} {x : qac} {cs : List Value} (h : qaG.K w x cs) : cs = [.int .i64 x.f0, .int .i64 x.f1] := by
  obtain ⟨_, _, rfl, rfl, rfl⟩ := h; exact rfl
theorem qhh {w : World} {base : Nat} {ok : Nat → Prop} {x : qac} {cs : List Value} (h : qaG.M w base ok x cs) : cs = [.int .i64 x.f0, .int .i64 x.f1] := by
  obtain ⟨_, _, rfl, rfl, rfl⟩ := h; exact rfl
theorem qc7 (w : World) (base : Nat) (ok : Nat → Prop) (x : qac)  : qaG.M w base ok x [.int .i64 x.f0, .int .i64 x.f1] := ⟨[.int .i64 x.f0], [.int .i64 x.f1], rfl, rfl, rfl⟩
def qad (xs : List qac) (i : Int) : qac := xs.getD i.toNat qrL
theorem qc6 {w : World} {A : Option Addr} {n : Nat} {xs : List qac} (h : Kd.C qaG w A n xs) (i : Int) (h0 : 0 ≤ i) (h1 : i < n) : ∃ ad , A = some ad ∧ w.cell? (ad.add (i.toNat * 2)) = some (.int .i64 (qad xs i).f0) ∧ w.cell? ⟨(ad.add (i.toNat * 2)).block, (ad.add (i.toNat * 2)).off + 1, none⟩ = some (.int .i64 (qad xs i).f1) := by
  obtain ⟨ad, c, e, _, hK, hc0⟩ := Kd.C_get h qrL i h0 h1; have hc : ∀ j u, c[j]? = some u → w.cell? (ad.add (i.toNat * 2 + j)) = some u := hc0; obtain rfl := qru hK; exact ⟨ad, e, hc 0 _ rfl, by rw [← qsb _ _ 1 (by omega)]; exact hc 1 _ rfl⟩
def qeD (xs : List (List qac)) (i : Int) : (List qac) := xs.getD i.toNat ([] : List qac)
theorem qqg {w : World} {A : Option Addr} {n : Nat} {xs : List (List qac)} (h : Kd.C (Kd.slice 85 qaG) w A n xs) (i : Int) (h0 : 0 ≤ i) (h1 : i < n) : ∃ ad A0 c0, A = some ad ∧ w.cell? (ad.add i.toNat) = some (.slice A0 (qeD xs i).length c0) ∧ (qeD xs i).length ≤ c0 ∧ qaG.C w A0 (qeD xs i).length (qeD xs i) := by
  obtain ⟨ad, c, e, _, hK, hc0⟩ := Kd.C_get h ([] : List qac) i h0 h1; have hc : ∀ j u, c[j]? = some u → w.cell? (ad.add (i.toNat * 1 + j)) = some u := hc0; obtain ⟨A0, c0, rfl, l0, g0⟩ := hK; exact ⟨ad, A0, c0, e, by have hq := hc 0 _ rfl; rwa [Nat.mul_one, Nat.add_zero] at hq, l0, g0⟩
def qbe (xs : List (List Int)) (i : Int) : (List Int) := xs.getD i.toNat ([] : List Int)
theorem qjk {w : World} {A : Option Addr} {n : Nat} {xs : List (List Int)} (h : Kd.C (Kd.slice 3 (Kd.int .i64)) w A n xs) (i : Int) (h0 : 0 ≤ i) (h1 : i < n) : ∃ ad A0 c0, A = some ad ∧ w.cell? (ad.add i.toNat) = some (.slice A0 (qbe xs i).length c0) ∧ (qbe xs i).length ≤ c0 ∧ (Kd.int .i64).C w A0 (qbe xs i).length (qbe xs i) := by
  obtain ⟨ad, c, e, _, hK, hc0⟩ := Kd.C_get h ([] : List Int) i h0 h1; have hc : ∀ j u, c[j]? = some u → w.cell? (ad.add (i.toNat * 1 + j)) = some u := hc0; obtain ⟨A0, c0, rfl, l0, g0⟩ := hK; exact ⟨ad, A0, c0, e, by have hq := hc 0 _ rfl; rwa [Nat.mul_one, Nat.add_zero] at hq, l0, g0⟩
class qoG (w w1 : World) : Prop where nr : Below w.heap.size w w1
instance qoG.same (w : World) : qoG w w := ⟨Below.refl _ _⟩
instance qoG.drewN (w w1 : World) (n : Nat) [h : qoG w w1] : qoG w (w1.drewN n) := ⟨qaf h.nr n⟩
instance qoG.drew (w w1 : World) [h : qoG w w1] : qoG w w1.drew := ⟨qah h.nr⟩
instance qoG.alloc (w w1 : World) (o : Obj) [h : qoG w w1] : qoG w (w1.alloc o) := ⟨qal h.nr o⟩
class Mv (P : Prop) (w1 w2 : World) (Q : outParam Prop) : Prop where mv : P → Below w1.heap.size w1 w2 → Q
instance Mv.R {α : Type} (d : Kd α) (e base : Nat) (ok : Nat → Prop) (v : Value) (xs : List α) (w w1 w2 : World) [h : qoG w w1] : Mv (d.R e w base ok v xs) w1 w2 (d.R e w2 base ok v xs) := ⟨fun p hb => Kd.qbs p (qaa h.nr hb)⟩
instance Mv.blk (g : Nat) (o : Obj) (w w1 w2 : World) [h : qoG w w1] : Mv (w.heap[g]? = some o) w1 w2 (w2.heap[g]? = some o) := ⟨fun p hb => qap p (qaa h.nr hb)⟩
instance Mv.below (w0 w w1 w2 : World) [h : qoG w w1] : Mv (Below w0.heap.size w0 w) w1 w2 (Below w0.heap.size w0 w2) := ⟨fun p hb => qaa p (qaa h.nr hb)⟩
theorem _root_.Go.Proofs.YtjeoabbnalamcaaGreatDoorW.qaZ.qai.mv {P Q : Prop} {w1 w2 : World} (h : qai P) (hb : Below w1.heap.size w1 w2) [m : Mv P w1 w2 Q] : Q := m.mv h.1 hb
theorem _root_.Go.Proofs.YtjeoabbnalamcaaGreatDoorW.qaZ.qai.ge {w w1 W : World} (h : qai (Below w.heap.size w w1)) [m : qoG w1 W] {g : Nat} (hg : g = W.heap.size) : w.heap.size ≤ g := hg ▸ Nat.le_trans h.1.size m.nr.size
theorem _root_.Go.Proofs.YtjeoabbnalamcaaGreatDoorW.qaZ.qai.ne {w W : World} {g g' : Nat} {o : Obj} (h : qai (w.heap[g]? = some o)) [m : qoG w W] (hg : g' = W.heap.size) : g ≠ g' := fun e => by
  have h1 := qd2 h.1; have h2 := m.nr.size; omega
theorem qaB {α β : Type} {o : Option α} {f : α → Option β} {b : β} (h : o.bind f = some b) : ∃ a, Go.Proofs.YtjeoabbnalamcaaGreatDoorW.qaZ.qai (o = some a) ∧ f a = some b := by
  obtain ⟨a, h1, h2⟩ := Option.bind_eq_some_iff.mp h; exact ⟨a, ⟨h1⟩, h2⟩
theorem _root_.Go.Proofs.YtjeoabbnalamcaaGreatDoorW.qaZ.qai.mw {P Q : Prop} {w1 w2 : World} (h : qai P) (hb : Below w1.heap.size w1 w2) [m : Mv P w1 w2 Q] : qai Q := ⟨m.mv h.1 hb⟩
def rB_ : Bool → List Nat → List Bool
 | _, [] => []
 | b, n :: l => List.replicate n b ++ rB_ (!b) l
def rA_ (l : List Nat) : Array Bool := ⟨rB_ true l⟩
theorem pu_ {P : Program} {ops : Array Oper} {Q : Exit → Act → World → Prop} {md : Region.Mode} {S : World → Prop} {ds : List Nat} {oi : Oper} {v : Value} {fuel : Nat} {l : Array Bool} {a : Act} {w : World} {a' : Act} (i n : Nat) (r : List Nat) (h : qbf P md ops Q S ds fuel (rA_ r) a' w) (hx : ops[i]? = some oi ∧ oi.dst = some n ∧ anyB md ops l (rA_ r) i = true ∧ (∀ c a w, Q (.panic c) (a.put oi.dst v) w → Q (.panic c) a w) ∧ Yields P ops oi v a ∧ a.put (some n) v = a' := by (refine ⟨rfl, rfl, any_of HT_.out (by kernel_rfl), fun _ _ _ h => h, Or.inl ⟨by rfl, ?_⟩, ?_⟩; intro w'; go_simp; with_reducible rfl; simp only [Act.put, List.setIfInBounds_toArray, List.set_cons_zero, List.set_cons_succ, qec, qey]; rfl)) : qbf P md ops Q S ds (fuel + 1) l a w := qgP (rA_ r) hx.1 hx.2.1 hx.2.2.1 hx.2.2.2.1 hx.2.2.2.2.1 hx.2.2.2.2.2 h
theorem pz_ {P : Program} {ops : Array Oper} {Q : Exit → Act → World → Prop} {md : Region.Mode} {S : World → Prop} {ds : List Nat} {oi : Oper} {fuel : Nat} {l : Array Bool} {a : Act} {w : World} {a' : Act} (i n : Nat) (r : List Nat) (h : qbf P md ops Q S ds fuel (rA_ r) a' w) (hx : ops[i]? = some oi ∧ oi.dst = some n ∧ anyB md ops l (rA_ r) i = true ∧ (∀ c a w, Q (.panic c) (a.put oi.dst undef) w → Q (.panic c) a w) ∧ Yields P ops oi undef a ∧ a.put (some n) undef = a' := by (refine ⟨rfl, rfl, any_of HT_.out (by kernel_rfl), fun _ _ _ h => h, Or.inr ⟨by rfl, rfl⟩, ?_⟩; simp only [Act.put, List.setIfInBounds_toArray, List.set_cons_zero, List.set_cons_succ, qec, qey]; rfl)) : qbf P md ops Q S ds (fuel + 1) l a w := qgP (rA_ r) hx.1 hx.2.1 hx.2.2.1 hx.2.2.2.1 hx.2.2.2.2.1 hx.2.2.2.2.2 h
theorem ta_ {P : Program} {ops : Array Oper} {Q : Exit → Act → World → Prop} {md : Region.Mode} {S : World → Prop} {ds : List Nat} {oi : Oper} {v : Value} {fuel : Nat} {l : Array Bool} {a : Act} {w : World} {a' : Act} (i n : Nat) (r : List Nat) (h : qbf P md ops Q S ds fuel (rA_ r) a' w) (hx : ops[i]? = some oi ∧ oi.dst = some n ∧ qnj md ops ds l (rA_ r) i = true ∧ (∀ c a w, Q (.panic c) (a.put oi.dst v) w → Q (.panic c) a w) ∧ YieldsIf P ops S oi v a ∧ S w ∧ a.put (some n) v = a' := by (refine ⟨rfl, rfl, qkw HT_.out HW_.out (by kernel_rfl), fun _ _ _ h => h, Or.inl ⟨by rfl, ?_⟩, hHeld, ?_⟩; intro w' _; go_simp; with_reducible rfl; simp only [Act.put, List.setIfInBounds_toArray, List.set_cons_zero, List.set_cons_succ, qec, qey]; rfl)) : qbf P md ops Q S ds (fuel + 1) l a w := qlP (rA_ r) hx.1 hx.2.1 hx.2.2.1 hx.2.2.2.1 hx.2.2.2.2.1 hx.2.2.2.2.2.1 hx.2.2.2.2.2.2 h
theorem qii {P : Program} {ops : Array Oper} {Q : Exit → Act → World → Prop} {md : Region.Mode} {S : World → Prop} {ds : List Nat} {oi : Oper} {v : Value} {fuel : Nat} {l : Array Bool} {a : Act} {w : World} {a' : Act} (i n : Nat) (r : List Nat) (h : qbf P md ops Q S ds fuel (rA_ r) a' w) (hx : ops[i]? = some oi ∧ oi.dst = some n ∧ qnj md ops ds l (rA_ r) i = true ∧ (∀ c a w, Q (.panic c) (a.put oi.dst v) w → Q (.panic c) a w) ∧ YieldsIf P ops S oi v a ∧ S w ∧ a.put (some n) v = a' := by (refine ⟨rfl, rfl, qkw HT_.out HW_.out (by kernel_rfl), fun _ _ _ h => h, Or.inl ⟨by rfl, ?_⟩, hHeld, ?_⟩; rintro w' ⟨s0, s1⟩; go_simp; with_reducible rfl; simp only [Act.put, List.setIfInBounds_toArray, List.set_cons_zero, List.set_cons_succ, qec, qey]; rfl)) : qbf P md ops Q S ds (fuel + 1) l a w := qlP (rA_ r) hx.1 hx.2.1 hx.2.2.1 hx.2.2.2.1 hx.2.2.2.2.1 hx.2.2.2.2.2.1 hx.2.2.2.2.2.2 h
theorem ta3_ {P : Program} {ops : Array Oper} {Q : Exit → Act → World → Prop} {md : Region.Mode} {S : World → Prop} {ds : List Nat} {oi : Oper} {v : Value} {fuel : Nat} {l : Array Bool} {a : Act} {w : World} {a' : Act} (i n : Nat) (r : List Nat) (h : qbf P md ops Q S ds fuel (rA_ r) a' w) (hx : ops[i]? = some oi ∧ oi.dst = some n ∧ qnj md ops ds l (rA_ r) i = true ∧ (∀ c a w, Q (.panic c) (a.put oi.dst v) w → Q (.panic c) a w) ∧ YieldsIf P ops S oi v a ∧ S w ∧ a.put (some n) v = a' := by (refine ⟨rfl, rfl, qkw HT_.out HW_.out (by kernel_rfl), fun _ _ _ h => h, Or.inl ⟨by rfl, ?_⟩, hHeld, ?_⟩; rintro w' ⟨s0, s1, s2⟩; go_simp; with_reducible rfl; simp only [Act.put, List.setIfInBounds_toArray, List.set_cons_zero, List.set_cons_succ, qec, qey]; rfl)) : qbf P md ops Q S ds (fuel + 1) l a w := qlP (rA_ r) hx.1 hx.2.1 hx.2.2.1 hx.2.2.2.1 hx.2.2.2.2.1 hx.2.2.2.2.2.1 hx.2.2.2.2.2.2 h
theorem ta4_ {P : Program} {ops : Array Oper} {Q : Exit → Act → World → Prop} {md : Region.Mode} {S : World → Prop} {ds : List Nat} {oi : Oper} {v : Value} {fuel : Nat} {l : Array Bool} {a : Act} {w : World} {a' : Act} (i n : Nat) (r : List Nat) (h : qbf P md ops Q S ds fuel (rA_ r) a' w) (hx : ops[i]? = some oi ∧ oi.dst = some n ∧ qnj md ops ds l (rA_ r) i = true ∧ (∀ c a w, Q (.panic c) (a.put oi.dst v) w → Q (.panic c) a w) ∧ YieldsIf P ops S oi v a ∧ S w ∧ a.put (some n) v = a' := by (refine ⟨rfl, rfl, qkw HT_.out HW_.out (by kernel_rfl), fun _ _ _ h => h, Or.inl ⟨by rfl, ?_⟩, hHeld, ?_⟩; rintro w' ⟨s0, s1, s2, s3⟩; go_simp; with_reducible rfl; simp only [Act.put, List.setIfInBounds_toArray, List.set_cons_zero, List.set_cons_succ, qec, qey]; rfl)) : qbf P md ops Q S ds (fuel + 1) l a w := qlP (rA_ r) hx.1 hx.2.1 hx.2.2.1 hx.2.2.2.1 hx.2.2.2.2.1 hx.2.2.2.2.2.1 hx.2.2.2.2.2.2 h
theorem nm_ {P : Program} {ops : Array Oper} {Q : Exit → Act → World → Prop} {md : Region.Mode} {S : World → Prop} {ds : List Nat} {v : Value} {fuel : Nat} {l : Array Bool} {a a' : Act} {w : World} (n : Nat) (h : qbf P md ops Q S ds fuel l a' w) (ha : a.put (some n) v = a' := by show Act.put _ _ _ = _; simp only [Act.put, List.setIfInBounds_toArray, List.set_cons_zero, List.set_cons_succ, qec, qey]; rfl) : qbf P md ops Q S ds fuel l (a.put (some n) v) w := qeB ha h
theorem k0_ {p : Prop} (h : p := by (with_reducible repeat (first | refine qaj ?_ _ | refine qak ?_ | refine qag ?_ _)); refine qa9 (cs := #[.string (qgE ByteArray.empty qaQ 0), .int .i64 0]) ?_ 1 _ rfl; (with_reducible repeat (first | refine qaj ?_ _ | refine qak ?_ | refine qag ?_ _)); refine qa9 (cs := #[.string (⟨#[]⟩ : ByteArray), .int .i64 0]) ?_ 0 _ rfl; apply_rules only [qfQ.1, qaj, qak, qag]) : p := h
theorem k1_ {p : Prop} (h : p := by (with_reducible repeat (first | refine qaj ?_ _ | refine qak ?_ | refine qag ?_ _)); refine qa9 (cs := #[.string (⟨#[]⟩ : ByteArray), .int .i64 0]) ?_ 1 _ rfl; (with_reducible repeat (first | refine qaj ?_ _ | refine qak ?_ | refine qag ?_ _)); refine qa9 (cs := #[.string (⟨#[]⟩ : ByteArray), .int .i64 0]) ?_ 0 _ rfl; apply_rules only [qas.1, qaj, qak, qag]) : p := h
theorem k2_ {p : Prop} (h : p := by (with_reducible repeat (first | refine qaj ?_ _ | refine qak ?_ | refine qag ?_ _)); refine qa9 (cs := #[.int .i64 ((qad l0 qcS).f0), .int .i64 0]) ?_ 1 _ rfl; (with_reducible repeat (first | refine qaj ?_ _ | refine qak ?_ | refine qag ?_ _)); refine qa9 (cs := #[.int .i64 0, .int .i64 0]) ?_ 0 _ rfl; apply_rules only [qbI.1, qaj, qak, qag]) : p := h
theorem k3_ {p : Prop} (h : p := by (with_reducible repeat (first | refine qaj ?_ _ | refine qak ?_ | refine qag ?_ _)); refine qa9 (cs := #[.int .i64 ((qad l0 qcv).f0), .int .i64 0]) ?_ 1 _ rfl; (with_reducible repeat (first | refine qaj ?_ _ | refine qak ?_ | refine qag ?_ _)); refine qa9 (cs := #[.int .i64 0, .int .i64 0]) ?_ 0 _ rfl; apply_rules only [qbI.1, qaj, qak, qag]) : p := h
theorem k5_ {p : Prop} (h : p := by (with_reducible repeat (first | refine qaj ?_ _ | refine qak ?_ | refine qag ?_ _)); refine qa9 (cs := #[.slice Ao4 qaQ.length co4, .int .i64 0]) ?_ 1 _ rfl; (with_reducible repeat (first | refine qaj ?_ _ | refine qak ?_ | refine qag ?_ _)); refine qa9 (cs := #[.slice none 0 0, .int .i64 0]) ?_ 0 _ rfl; apply_rules only [qas.1, qaj, qak, qag]) : p := h
theorem k6_ {p : Prop} (h : p := by (with_reducible repeat (first | refine qaj ?_ _ | refine qak ?_ | refine qag ?_ _)); refine qa9 (cs := #[.int .i64 qav, .slice none 0 0]) ?_ 1 _ rfl; (with_reducible repeat (first | refine qaj ?_ _ | refine qak ?_ | refine qag ?_ _)); refine qa9 (cs := #[.int .i64 0, .slice none 0 0]) ?_ 0 _ rfl; apply_rules only [qcQ.1, qaj, qak, qag]) : p := h
theorem k7_ {p : Prop} (h : p := by (with_reducible repeat (first | refine qaj ?_ _ | refine qak ?_ | refine qag ?_ _)); refine qa9 (cs := #[.int .i64 0, .slice none 0 0]) ?_ 1 _ rfl; (with_reducible repeat (first | refine qaj ?_ _ | refine qak ?_ | refine qag ?_ _)); refine qa9 (cs := #[.int .i64 0, .slice none 0 0]) ?_ 0 _ rfl; apply_rules only [qas.1, qaj, qak, qag]) : p := h
theorem k8_ {p : Prop} (h : p := by (with_reducible repeat (first | refine qaj ?_ _ | refine qak ?_ | refine qag ?_ _)); refine qa9 (cs := #[.int .i64 qcP, .int .i64 0]) ?_ 1 _ rfl; (with_reducible repeat (first | refine qaj ?_ _ | refine qak ?_ | refine qag ?_ _)); refine qa9 (cs := #[.int .i64 0, .int .i64 0]) ?_ 0 _ rfl; apply_rules only [qas.1, qaj, qak, qag]) : p := h
theorem k9_ {p : Prop} (h : p := by (with_reducible repeat (first | apply Kd.qaq | apply Kd.qar | apply Kd.qax)); exact (Kd.qa2 (Kd.qco (p := ⟨qex, 1, none⟩) (Kd.qco (p := ⟨qex, 0, none⟩) (Kd.qcc qdp.1 qfQ.1 (by decide)) (fun _ hk => hk.2) (.string (qgE ByteArray.empty qaQ 0))) (fun _ hk => hk.2) (.int .i64 t107)) (fun _ h_ => h_.1))) : p := h
theorem k10_ {p : Prop} (h : p := by (with_reducible repeat (first | refine qaj ?_ _ | refine qak ?_ | refine qag ?_ _)); refine qce ?_ qdF.1 _; (with_reducible repeat (first | refine qaj ?_ _ | refine qak ?_ | refine qag ?_ _)); refine qce ?_ qdF.1 _; apply_rules only [qas.1, qaj, qak, qag]) : p := h
theorem k11_ {p : Prop} (h : p := by (with_reducible repeat (first | apply Kd.qaq | apply Kd.qar | apply Kd.qax)); exact (Kd.qa2 (Kd.qco (p := ⟨qbD, 1, none⟩) (Kd.qco (p := ⟨qbD, 0, none⟩) (Kd.qa2 qdu.1 (fun k_ hk => (⟨hk, hk.2⟩ : _ ∧ k_ ≠ qbD))) (fun _ hk => hk.2) (.int .i64 qcP)) (fun _ hk => hk.2) (.int .i64 qf3)) (fun _ h_ => h_.1))) : p := h
theorem k12_ {p : Prop} (h : p := by (with_reducible repeat (first | apply Kd.qaq | apply Kd.qar | apply Kd.qax)); exact (Kd.qa2 (Kd.qco (p := ⟨qev, 1, none⟩) (Kd.qco (p := ⟨qev, 0, none⟩) (Kd.qcc qcI.1 qcQ.1 (by decide)) (fun _ hk => hk.2) (.slice qrM qav.length qqk)) (fun _ hk => hk.2) (.int .i64 qcq)) (fun _ h_ => h_.1))) : p := h
theorem k13_ {p : Prop} (h : p := by (with_reducible repeat (first | apply Kd.qaq | apply Kd.qar | apply Kd.qax)); exact (Kd.qa2 (Kd.qco (p := ⟨qn0, 1, none⟩) (Kd.qco (p := ⟨qn0, 0, none⟩) (Kd.qcc qcI.1 qgf.1 (by decide)) (fun _ hk => hk.2) (.slice qoN t107.length qoI)) (fun _ hk => hk.2) (.int .i64 qlA)) (fun _ h_ => h_.1))) : p := h
theorem k14_ {p : Prop} (h : p := by (with_reducible repeat (first | apply Kd.qaq | apply Kd.qar | apply Kd.qax)); exact (Kd.qa2 (Kd.qco (p := ⟨qn0, 1, none⟩) (Kd.qco (p := ⟨qn0, 0, none⟩) (Kd.qcc qeg.1 qgf.1 (by decide)) (fun _ hk => hk.2) (.slice qoN t107.length qoI)) (fun _ hk => hk.2) (.int .i64 qlA)) (fun _ h_ => h_.1))) : p := h
theorem k15_ {p : Prop} (h : p := by (with_reducible repeat (first | apply Kd.qaq | apply Kd.qar | apply Kd.qax)); exact (Kd.qa2 (Kd.qco (p := ⟨qmW, 1, none⟩) (Kd.qco (p := ⟨qmW, 0, none⟩) (Kd.qcc qcI.1 qnr.1 (by decide)) (fun _ hk => hk.2) (.slice Ao36 t117.length co36)) (fun _ hk => hk.2) (.int .i64 t120)) (fun _ h_ => h_.1))) : p := h
theorem k16_ {p : Prop} (h : p := by (with_reducible repeat (first | apply Kd.qaq | apply Kd.qar | apply Kd.qax)); exact (Kd.qa2 (Kd.qco (p := ⟨qmW, 1, none⟩) (Kd.qco (p := ⟨qmW, 0, none⟩) (Kd.qcc qnx.1 qnr.1 (by decide)) (fun _ hk => hk.2) (.slice Ao36 t117.length co36)) (fun _ hk => hk.2) (.int .i64 t120)) (fun _ h_ => h_.1))) : p := h
theorem k17_ {p : Prop} (h : p := by first | exact Kd.qm8 (Kd.qo1 qdp.1 qfQ.1 (by decide)) | (rw [add_block]; exact Kd.qm8 (Kd.qo1 qdp.1 qfQ.1 (by decide))) | (show (Addr.add _ _).block ≠ _; rw [add_block]; exact Kd.qm8 (Kd.qo1 qdp.1 qfQ.1 (by decide))) | (dsimp only; exact Kd.qm8 (Kd.qo1 qdp.1 qfQ.1 (by decide)))) : p := h
theorem k18_ {p : Prop} (h : p := by (with_reducible repeat (first | apply Kd.qaq | apply Kd.qar | apply Kd.qax)); exact Kd.qa2 (Kd.qco (p := ⟨qev, 1, none⟩) (Kd.qco (p := ⟨qev, 0, none⟩) (Kd.qcc qbZ.1 qcQ.1 (by decide)) (fun _ hk => hk.2) (.int .i64 qav)) (fun _ hk => hk.2) (.slice Ao8 qaQ.length co8)) (fun _ hk => trivial)) : p := h
theorem k20_ {p : Prop} (h : p := by (with_reducible repeat (first | apply Kd.qaq | apply Kd.qar | apply Kd.qax)); exact (Kd.qa2 (Kd.qco (p := ⟨qev, 1, none⟩) (Kd.qco (p := ⟨qev, 0, none⟩) (Kd.qcc qbZ.1 qcQ.1 (by decide)) (fun _ hk => hk.2) (.int .i64 qav)) (fun _ hk => hk.2) (.slice Ao8 qaQ.length co8)) (fun _ h_ => h_.1))) : p := h
theorem k21_ {p : Prop} (h : p := by (with_reducible repeat (first | apply Kd.qaq | apply Kd.qar | apply Kd.qax)); exact (Kd.qa2 (Kd.qco (p := ⟨qis, 1, none⟩) (Kd.qco (p := ⟨qis, 0, none⟩) (Kd.qcc qbZ.1 qlC.1 (by decide)) (fun _ hk => hk.2) (.slice Ao8 qaQ.length co8)) (fun _ hk => hk.2) (.int .i64 t105)) (fun _ h_ => h_.1))) : p := h
theorem k22_ {p : Prop} (h : p := by repeat (first | exact (Kd.qan (Kd.qg2 (by apply_rules only [HO.1, Kd.qaq, Kd.qar, Kd.qax]) (by apply_rules only [HC.1, qaj, qak, qag]) (by decide) 1 _)).2.2 | (with_reducible refine Kd.C_alloc ?_ _) | (with_reducible refine Kd.C_drewN ?_ _) | (with_reducible refine Kd.C_drew ?_))) : p := h
theorem k23_ {p : Prop} (h : p := by repeat (first | exact (Kd.qan (Kd.qg2 (by apply_rules only [HX.1, Kd.qaq, Kd.qar, Kd.qax]) (by apply_rules only [HC.1, qaj, qak, qag]) (by decide) 0 _)).2.2 | (with_reducible refine Kd.C_alloc ?_ _) | (with_reducible refine Kd.C_drewN ?_ _) | (with_reducible refine Kd.C_drew ?_))) : p := h
theorem qfb {p : Prop} (h : p := by first | (rw [hy_]; with_reducible exact H) | (have H2_ := (Option.bind_some _ _).symm.trans H; rw [hy_]; with_reducible exact H2_) | (have H2_ := (Option.bind_some _ _).symm.trans H; with_reducible exact H2_) | with_reducible exact H | (rw [hy_]; exact H) | exact H) : p := h
theorem k26_ {p : Prop} (h : p := by repeat (first | exact (Kd.qd0 HR0.1 (by apply_rules only [HB.1, qal, qaf, qah])) | (with_reducible refine Kd.C_alloc ?_ _) | (with_reducible refine Kd.C_drewN ?_ _) | (with_reducible refine Kd.C_drew ?_))) : p := h
theorem k32_ {p : Prop} (h : p := by repeat (first | (with_reducible exact qky.1) | (with_reducible refine Kd.C_alloc ?_ _) | (with_reducible refine Kd.C_drewN ?_ _) | (with_reducible refine Kd.C_drew ?_) | exact qky.1)) : p := h
theorem k34_ {p : Prop} (h : p := by repeat (first | exact (Kd.qd0 HR0_0.1 HB.1) | (with_reducible refine Kd.C_alloc ?_ _) | (with_reducible refine Kd.C_drewN ?_ _) | (with_reducible refine Kd.C_drew ?_))) : p := h
theorem k35_ {p : Prop} (h : p := by repeat (first | exact (Kd.qd0 HR1_0.1 HB.1) | (with_reducible refine Kd.C_alloc ?_ _) | (with_reducible refine Kd.C_drewN ?_ _) | (with_reducible refine Kd.C_drew ?_))) : p := h
theorem qhr {p : Prop} (h : p := by repeat (first | exact (Kd.qd0 HR0.1 HB.1) | (with_reducible refine Kd.C_alloc ?_ _) | (with_reducible refine Kd.C_drewN ?_ _) | (with_reducible refine Kd.C_drew ?_))) : p := h
theorem k40_ {p : Prop} (h : p := by repeat (first | exact (Kd.qan qeg.1).2.2 | (with_reducible refine Kd.C_alloc ?_ _) | (with_reducible refine Kd.C_drewN ?_ _) | (with_reducible refine Kd.C_drew ?_))) : p := h
theorem k41_ {p : Prop} (h : p := by repeat (first | exact (Kd.qan qdu.1).2.2 | (with_reducible refine Kd.C_alloc ?_ _) | (with_reducible refine Kd.C_drewN ?_ _) | (with_reducible refine Kd.C_drew ?_))) : p := h
theorem k42_ {p : Prop} (h : p := by repeat (first | exact (Kd.qan qdp.1).2.2 | (with_reducible refine Kd.C_alloc ?_ _) | (with_reducible refine Kd.C_drewN ?_ _) | (with_reducible refine Kd.C_drew ?_))) : p := h
theorem k43_ {p : Prop} (h : p := by repeat (first | exact (Kd.qan qgT.1).2.2 | (with_reducible refine Kd.C_alloc ?_ _) | (with_reducible refine Kd.C_drewN ?_ _) | (with_reducible refine Kd.C_drew ?_))) : p := h
theorem k44_ {p : Prop} (h : p := by repeat (first | exact (Kd.qan qiP.1).2.2 | (with_reducible refine Kd.C_alloc ?_ _) | (with_reducible refine Kd.C_drewN ?_ _) | (with_reducible refine Kd.C_drew ?_))) : p := h
theorem k45_ {p : Prop} (h : p := by repeat (first | exact (Kd.qan HO4.1).2.2 | (with_reducible refine Kd.C_alloc ?_ _) | (with_reducible refine Kd.C_drewN ?_ _) | (with_reducible refine Kd.C_drew ?_))) : p := h
theorem qjW {p : Prop} (h : p := by repeat (first | exact (Kd.qan HO.1).2.2 | (with_reducible refine Kd.C_alloc ?_ _) | (with_reducible refine Kd.C_drewN ?_ _) | (with_reducible refine Kd.C_drew ?_))) : p := h
theorem qrr {p : Prop} (h : p := by repeat (first | exact (Kd.qan HX.1).2.2 | (with_reducible refine Kd.C_alloc ?_ _) | (with_reducible refine Kd.C_drewN ?_ _) | (with_reducible refine Kd.C_drew ?_))) : p := h
theorem k49_ {p : Prop} (h : p := by with_reducible repeat (first | exact HB3.1 | refine qat ?_ G7.1 | refine qat ?_ G11.1 | apply qal | apply qaf | apply qah)) : p := h
theorem qf0 {p : Prop} (h : p := by repeat (first | exact HR0.1 | (with_reducible refine Kd.C_alloc ?_ _) | (with_reducible refine Kd.C_drewN ?_ _) | (with_reducible refine Kd.C_drew ?_))) : p := h
theorem k51_ {p : Prop} (h : p := by apply ho_; (with_reducible repeat (first | exact B2.1 | refine qaj ?_ _ | refine qak ?_ | refine qag ?_ _ | apply qeN)); rfl) : p := h
theorem k52_ {p : Prop} (h : p := by apply ho_; (with_reducible repeat (first | exact B3.1 | refine qaj ?_ _ | refine qak ?_ | refine qag ?_ _ | apply qeN)); rfl) : p := h
theorem qhg {p : Prop} (h : p := by first | exact Kd.qf2 _ _ _ _ _ | exact Kd.N_nil _ _ _ _ _ | exact Kd.V_nil _ _ _ _ _ | exact Kd.Q_nil _ _ _ _ _ | exact Kd.S_nil _ _ _ _ _) : p := h
theorem k55_ {p : Prop} (h : p := by first | exact Kd.S_nil _ _ _ _ _ | exact Kd.N_nil _ _ _ _ _ | exact Kd.V_nil _ _ _ _ _ | exact Kd.Q_nil _ _ _ _ _ | exact Kd.qf2 _ _ _ _ _) : p := h
theorem qbJ {p : Prop} (h : p := by (try simp only [List.map_toArray, List.map_cons, List.map_nil]); first | done | rfl | (simp only [List.length_drop, List.length_take]; rfl)) : p := h
theorem k57_ {p : Prop} (h : p := by with_reducible repeat (first | exact HB.1 | refine qat ?_ G2.1 | apply qal | apply qaf | apply qah)) : p := h
theorem k58_ {p : Prop} (h : p := by repeat (first | (with_reducible first | exact HK.1 | apply Kept.alloc | apply Kept.drewN | apply Kept.drew) | exact HK.1)) : p := h
theorem qqH {p : Prop} (h : p := by rw [HWE.1]; exact Kd.qaw how (qab (by apply_rules only [HB.1, qal, qaf, qah]))) : p := h
theorem k63_ {p : Prop} (h : p := by (with_reducible repeat (first | apply Kd.qaq | apply Kd.qar | apply Kd.qax)); exact qbZ.1) : p := h
theorem k64_ {p : Prop} (h : p := by (with_reducible repeat (first | apply Kd.qaq | apply Kd.qar | apply Kd.qax)); exact qdu.1) : p := h
theorem k65_ {p : Prop} (h : p := by (with_reducible repeat (first | apply Kd.qaq | apply Kd.qar | apply Kd.qax)); exact qgT.1) : p := h
theorem qqI {p : Prop} (h : p := by apply_rules only [HB.1, qal, qaf, qah, qat, qdz.1, qfq.1]) : p := h
theorem k67_ {p : Prop} (h : p := by apply_rules only [HB.1, qal, qaf, qah, qat, qdz.1, qlD.1]) : p := h
theorem k68_ {p : Prop} (h : p := by apply_rules only [HB.1, qal, qaf, qah, qat, qdz.1, GE110.1]) : p := h
theorem k69_ {p : Prop} (h : p := by apply_rules only [HB.1, qal, qaf, qah, qat, qjg.1, GE112.1]) : p := h
theorem qtD {p : Prop} (h : p := by rw [hg]; exact qab (by apply_rules only [HB.1, qal, qaf, qah])) : p := h
theorem qrs {p : Prop} (h : p := by simp only [qi4, Act.put, List.setIfInBounds_toArray, List.set_cons_zero, List.set_cons_succ]) : p := h
theorem qca {p : Prop} (h : p := by first | rfl | (simp [qea, qeb] <;> rfl) | (simp [*, qea, qeb] <;> rfl)) : p := h
theorem qcw {p : Prop} (h : p := by apply_rules only [HB.1, qal, qaf, qah, qat, qdz.1]) : p := h
theorem qnp {p : Prop} (h : p := by apply_rules only [HB.1, qal, qaf, qah, qat, qfq.1]) : p := h
theorem k75_ {p : Prop} (h : p := by apply_rules only [HB.1, qal, qaf, qah, qat, GE105.1]) : p := h
theorem qlJ {p : Prop} (h : p := by apply_rules only [HB.1, qal, qaf, qah, qat, qjg.1]) : p := h
theorem qb6 {p : Prop} (h : p := by (try simp only [List.map_toArray, List.map_cons, List.map_nil]); first | done | rfl) : p := h
theorem k79_ {p : Prop} (h : p := by apply_rules only [HB3.1, qal, qaf, qah]) : p := h
theorem qao {p : Prop} (h : p := by apply_rules only [HB.1, qal, qaf, qah]) : p := h
theorem qoL {p : Prop} (h : p := by apply_rules only [qcI.1, Kd.qaq, Kd.qar, Kd.qax]) : p := h
theorem k83_ {p : Prop} (h : p := by apply_rules only [qbZ.1, Kd.qaq, Kd.qar, Kd.qax]) : p := h
theorem k84_ {p : Prop} (h : p := by apply_rules only [qff.1, Kd.qaq, Kd.qar, Kd.qax]) : p := h
theorem k85_ {p : Prop} (h : p := by apply_rules only [qgx.1, Kd.qaq, Kd.qar, Kd.qax]) : p := h
theorem k86_ {p : Prop} (h : p := by apply_rules only [qrX.1, Kd.qaq, Kd.qar, Kd.qax]) : p := h
theorem qib {p : Prop} (h : p := by apply_rules only [qdu.1, Kd.qaq, Kd.qar, Kd.qax]) : p := h
theorem qkq {p : Prop} (h : p := by apply_rules only [qdp.1, Kd.qaq, Kd.qar, Kd.qax]) : p := h
theorem qoM {p : Prop} (h : p := by apply_rules only [qgT.1, Kd.qaq, Kd.qar, Kd.qax]) : p := h
theorem qpL {p : Prop} (h : p := by apply_rules only [qfH.1, Kd.qaq, Kd.qar, Kd.qax]) : p := h
theorem k91_ {p : Prop} (h : p := by apply_rules only [qiP.1, Kd.qaq, Kd.qar, Kd.qax]) : p := h
theorem qmg {p : Prop} (h : p := by apply_rules only [qas.1, qaj, qak, qag]) : p := h
theorem k94_ {p : Prop} (h : p := by apply_rules only [HO.1, Kd.qaq, Kd.qar, Kd.qax]) : p := h
theorem qnq {p : Prop} (h : p := by apply_rules only [HX.1, Kd.qaq, Kd.qar, Kd.qax]) : p := h
theorem qrP {p : Prop} (h : p := by unfold qbH.f; rw [HCM.1]; simp only [HKD.1]) : p := h
theorem k97_ {p : Prop} (h : p := by apply_rules only [B3.1, qaj, qak, qag]) : p := h
theorem qrt {p : Prop} (h : p := by apply_rules only [HC.1, qaj, qak, qag]) : p := h
theorem k99_ {p : Prop} (h : p := by have := HK1.1; have := HK2.1; have := HK3.1; omega) : p := h
theorem qc3 {p : Prop} (h : p := by repeat (first | exact qcY.refl _ | apply qcY.step)) : p := h
theorem qaL {p : Prop} (h : p := by first | (with_reducible assumption) | assumption) : p := h
theorem k102_ {p : Prop} (h : p := by first | simpa using c3 | (simp at c3 ⊢; omega)) : p := h
theorem qay {p : Prop} (h : p := by first | rfl | (simp; done) | (simp [*]; done)) : p := h
theorem qa1 {p : Prop} (h : p := by first | (go_simp; done) | (go_simp; rfl)) : p := h
theorem qm3 {p : Prop} (h : p := by have := HK1.1; have := HK2.1; omega) : p := h
theorem qiC {p : Prop} (h : p := by first | omega | exact Nat.le_refl _) : p := h
theorem qc9 {p : Prop} (h : p := by have := HK1.1; omega) : p := h
theorem qb9 {p : Prop} (h : p := by exact HC0.1) : p := h
theorem qd4 {w : World} {g : Nat} {a0 : Value} {l : List Value} {T : TypeId} (h : w.heap[g]? = some (.cells (a0 :: l).toArray T (0, 0))) : w.cell? ⟨g, 0, none⟩ = some a0 := by rw [qba h 0]; rfl
theorem qbA {w : World} {g : Nat} {a0 a1 : Value} {l : List Value} {T : TypeId} (h : w.heap[g]? = some (.cells (a0 :: a1 :: l).toArray T (0, 0))) : w.cell? ⟨g, 1, none⟩ = some a1 := by rw [qba h 1]; rfl
theorem qfx {w : World} {g : Nat} {a0 a1 a2 : Value} {l : List Value} {T : TypeId} (h : w.heap[g]? = some (.cells (a0 :: a1 :: a2 :: l).toArray T (0, 0))) : w.cell? ⟨g, 2, none⟩ = some a2 := by rw [qba h 2]; rfl
theorem qfF {w : World} {g : Nat} {a0 a1 a2 a3 : Value} {l : List Value} {T : TypeId} (h : w.heap[g]? = some (.cells (a0 :: a1 :: a2 :: a3 :: l).toArray T (0, 0))) : w.cell? ⟨g, 3, none⟩ = some a3 := by rw [qba h 3]; rfl
theorem qfG {w : World} {g : Nat} {a0 a1 a2 a3 a4 : Value} {l : List Value} {T : TypeId} (h : w.heap[g]? = some (.cells (a0 :: a1 :: a2 :: a3 :: a4 :: l).toArray T (0, 0))) : w.cell? ⟨g, 4, none⟩ = some a4 := by rw [qba h 4]; rfl
theorem cez5_ {w : World} {g : Nat} {a0 a1 a2 a3 a4 a5 : Value} {l : List Value} {T : TypeId} (h : w.heap[g]? = some (.cells (a0 :: a1 :: a2 :: a3 :: a4 :: a5 :: l).toArray T (0, 0))) : w.cell? ⟨g, 5, none⟩ = some a5 := by rw [qba h 5]; rfl
theorem qcx {w : World} {g : Nat} {a0 : Value} {l : List Value} {T : TypeId} (h : w.heap[g]? = some (.cells (a0 :: l).toArray T (0, 0))) : w.cell? ⟨g, 0, none⟩ = some a0 ∧ w.frozen? ⟨g, 0, none⟩ = false := ⟨qd4 h, qae h 0⟩
theorem qbl {w : World} {g : Nat} {a0 a1 : Value} {l : List Value} {T : TypeId} (h : w.heap[g]? = some (.cells (a0 :: a1 :: l).toArray T (0, 0))) : w.cell? ⟨g, 0, none⟩ = some a0 ∧ w.cell? ⟨g, 1, none⟩ = some a1 ∧ w.frozen? ⟨g, 0, none⟩ = false ∧ w.frozen? ⟨g, 1, none⟩ = false := ⟨qd4 h, qbA h, qae h 0, qae h 1⟩
theorem gez3_ {w : World} {g : Nat} {a0 a1 a2 : Value} {l : List Value} {T : TypeId} (h : w.heap[g]? = some (.cells (a0 :: a1 :: a2 :: l).toArray T (0, 0))) : w.cell? ⟨g, 0, none⟩ = some a0 ∧ w.cell? ⟨g, 1, none⟩ = some a1 ∧ w.cell? ⟨g, 2, none⟩ = some a2 ∧ w.frozen? ⟨g, 0, none⟩ = false ∧ w.frozen? ⟨g, 1, none⟩ = false ∧ w.frozen? ⟨g, 2, none⟩ = false := ⟨qd4 h, qbA h, qfx h, qae h 0, qae h 1, qae h 2⟩
theorem bx_ {P : Program} {ops : Array Oper} {Q : Exit → Act → World → Prop} {rest : List Oper} {a : Act} {o : Oper} {W : World} (N : Nat) (hd : o.dst = some N) {cs : Array Value} {t : TypeId} (hr : (execOp a.eval o).run P W = .ok (.value (.pointer (some ⟨W.heap.size, 0, none⟩))) (W.alloc (.cells cs t (0, 0)))) (h : ∀ g, g = W.heap.size → ∀ w1, w1.heap[g]? = some (.cells cs t (0, 0)) → Below W.heap.size W w1 → wpList P ops Q rest (a.put o.dst (.pointer (some ⟨g, 0, none⟩))) w1) (hg : Region.wanted o (yielded ops a.tmps) = true := by rfl) : wpList P ops Q (o :: rest) a W := qbN hg (qdP (o := { o with guard := none }) rfl hd hr h)
theorem gl_ {P : Program} {ops : Array Oper} {Q : Exit → Act → World → Prop} {rest : List Oper} {a : Act} {oi : Oper} {w : World} (N : Nat) {f : FuncId} {fn : Func} {os : Array Operand} {ts : Array TypeId} (hf : P.funcs[f]? = some fn) (args : Array Value) (hop : oi.op = .call { callee := .value (.func f), args := os, argTypes := ts }) (hargs : os.map a.eval = args) (h : Calls P f args w fun e w' => ∃ v, e = .returned v ∧ wpList P ops Q rest (a.put (some N) v) w') (hd : oi.dst = some N := by rfl) (hg : Region.wanted oi (yielded ops a.tmps) = true := by rfl) (hn : (fn.name == "runtime.NumGoroutine") = false := by kernel_rfl) (hb : fn.body.isSome = true := by rfl) : wpList P ops Q (oi :: rest) a w := qbN hg (qgi (oi := { oi with guard := none }) (some N) hd rfl hf hn hb args hop hargs h)
theorem qdQ {α β : Type} {a a' : α} {b b' : β} (h : some (a, b) = some (a', b')) : a = a' ∧ b = b' := by simpa using h
theorem qfI {α β γ : Type} {a a' : α} {b b' : β} {c c' : γ} (h : some (a, b, c) = some (a', b', c')) : a = a' ∧ b = b' ∧ c = c' := by simpa using h
theorem pj4_ {α β γ δ : Type} {a a' : α} {b b' : β} {c c' : γ} {d d' : δ} (h : some (a, b, c, d) = some (a', b', c', d')) : a = a' ∧ b = b' ∧ c = c' ∧ d = d' := by simpa using h
theorem pj5_ {α β γ δ ε : Type} {a a' : α} {b b' : β} {c c' : γ} {d d' : δ} {e e' : ε} (h : some (a, b, c, d, e) = some (a', b', c', d', e')) : a = a' ∧ b = b' ∧ c = c' ∧ d = d' ∧ e = e' := by simpa using h
theorem li_ {P : Program} {ops : Array Oper} {Q : Exit → Act → World → Prop} {rest : List Oper} {a : Act} {o : Oper} {W : World} {α : Type} (d : Kd α) (e N : Nat) (hd : o.dst = some N) {xs : List α} (hr : (execOp a.eval o).run P W = .ok (.value (.slice (some ⟨W.heap.size, 0, none⟩) xs.length xs.length)) (W.alloc (.cells (([] : List Value)).toArray e))) (h : ∀ v1 w1, d.R e w1 W.heap.size (fun _ => True) v1 xs → Below W.heap.size W w1 → wpList P ops Q rest (a.put o.dst v1) w1) (hx : xs = [] := by rfl) (hg : Region.wanted o (yielded ops a.tmps) = true := by rfl) : wpList P ops Q (o :: rest) a W := by subst hx; exact qbN hg (Kd.qhH (o := { o with guard := none }) d W.heap.size e rfl hd (inner := []) (ok := fun _ => True) (okp := fun _ => True) hr (qep.none _ _) (fun _ hk => hk) trivial (Below.refl _ _) (Nat.le_refl _) (by simp) (fun v1 w1 h1 h2 _ _ => h v1 w1 h1 h2))
theorem qm6 {p : Prop} (h : p := by simp only [Act.put, List.setIfInBounds_toArray, List.set_cons_zero, List.set_cons_succ, qec, qey]; rfl) : p := h
theorem cs_ {α : Type} {a : Option α} {b c : α} (h : a = some b) (e : b = c := by kernel_rfl) : a = some c := e ▸ h
theorem br_ (w : World) : qai (Below w.heap.size w w) := ⟨Below.refl _ _⟩
theorem ff_ : ¬ (false = true) := by decide
theorem sj_ {α : Type} {a b : α} (h : some a = some b) : a = b := Option.some.inj h
theorem qct {α : Type} {p : Prop} [Decidable p] {a : Option α} {b : α} (h : (if p then a else none) = some b) : p ∧ a = some b := by
  by_cases c : p
  ·exact ⟨c, by rwa [if_pos c] at h⟩
  rw [if_neg c] at h; cases h
theorem ak_ {p : Prop} (h : p) : qai p := ⟨h⟩
end Go.Proofs.YtjeoabbnalamcaaGreatDoor.P
