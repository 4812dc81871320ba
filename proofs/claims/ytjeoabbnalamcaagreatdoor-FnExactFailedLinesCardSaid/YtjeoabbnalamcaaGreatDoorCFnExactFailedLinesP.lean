/- The kinds of values. Proved in this text: its theorems. Conditions: as each theorem states them. -/
import Derived.Test.YtjeoabbnalamcaaGreatDoorProg
import Derived.Shelf.Abstract
import Derived.Shelf.Strings.SlTrimAscii
import Derived.Lib.OthersKept
import Derived.Shelf.Strconv.Itoa3
import Derived.Shelf.Strings.Cut
import Derived.Shelf.Strconv.AtoiAll
import Derived.Shelf.Sort.Plain
import Derived.Shelf.Strings.Split
import Derived.Room.Shelf.Join48
import Derived.Deep.RegionLaw
import Derived.StillTailTactics
import Derived.Deep.Slices
import Derived.Deep.Fields
import Derived.ChangeSame
import Derived.ChangeSlices
import Derived.Lib.SmallJoins
import Derived.ProofKit
import Derived.OpenShut
import Derived.ShutString
import Derived.ChangeOld
import Derived.SizedLaws
import Derived.Carry
import Derived.Deep.DeepHandedRow
import Derived.Lib.LaidTab
import Derived.Stop.LaidErr
import Derived.Shelf.Vars
import Derived.LaidLaws
import Derived.Below
import Derived.Deep.Draws
import Derived.Deep.AppendLies
import Derived.Maps.AppendAt
import Derived.OwnWalk
import Derived.Laws.BytesArg
import Derived.Laws.MakeOwn
import Derived.Laws.OwnMore
import Derived.Deep.OwnRows
import Derived.Tactics
import Derived.Lib.ConvBytes
import Derived.Laws.Slices
import Derived.WalkKit
import Derived.KernelRfl
import Derived.RowKit3
import Derived.Deep.LoopGhost
import Derived.Deep.QuietTactic
import Derived.BigQuiet
import Derived.WideLaws
import Derived.Deep.DeepCutAuto
import Derived.Deep.CutBlock
import Derived.Deep.RegionHeld3
import Derived.Laws.Rows
import Derived.Lib.AppendStr
import Derived.ArgAppend
import Derived.Laws.IdiomCopy
import Derived.RowKit
import Derived.OrdersHeld
import Derived.Laws.BitsLemmas
import Derived.Laws.StructEq
import Derived.Test.YtjeoabbnalamcaaGreatDoorCFnExactFailedLinesW0

namespace Go.Proofs.YtjeoabbnalamcaaGreatDoor.P
open Go.RowKit Go.Proofs.YtjeoabbnalamcaaGreatDoorW.qa0 Go.Proofs.YtjeoabbnalamcaaGreatDoorW.PrintLast Go.Proofs.YtjeoabbnalamcaaGreatDoorW.PrintMore
attribute [local go_sem] qg2 qg4 qij qik qgg qgh qg3 qg5
set_option linter.unusedVariables false
set_option linter.unusedSimpArgs false
def errW : Option Int → Value
  | none => .nilIface
  | some c => .iface 184 (.int .i64 c)
theorem qd0 : errW none = .nilIface := rfl
theorem qd1 (c : Int) : errW (some c) = .iface 184 (.int .i64 c) := rfl
theorem info3 : (Tryz.prog.info? 3).map (fun i => (i.zero, i.size, i.bytes)) = some (some (.int .i64 0), 1, 8) := by kernel_rfl
theorem qml : (Tryz.prog.info? 9).map (fun i => (i.zero, i.size, i.bytes)) = some (some (.string ⟨#[]⟩), 1, 16) := by kernel_rfl
theorem info48 : (Tryz.prog.info? 48).map (fun i => (i.zero, i.size, i.bytes)) = some (some (.slice none 0 0), 1, 24) := by kernel_rfl
theorem qfT : (Tryz.prog.info? 85).map (fun i => (i.zero, i.size, i.bytes)) = some (some (.agg #[(.int .i64 0), (.int .i64 0)]), 2, 16) := by kernel_rfl
structure qac where
  f0 : Int
  f1 : Int
def zRule : qac := ⟨(0 : Int), (0 : Int)⟩
def qaL : Kd qac := Kd.iso (Kd.pair (Kd.int .i64) (Kd.int .i64)) (fun x : qac => (x.f0, x.f1))
theorem qqP {w : World} {x : qac} {cs : List Value} (h : qaL.K w x cs) : cs = [.int .i64 x.f0, .int .i64 x.f1] := by
  obtain ⟨_, _, rfl, rfl, rfl⟩ := h; exact rfl
theorem qdm (w : World) (base : Nat) (ok : Nat → Prop) (x : qac)  : qaL.M w base ok x [.int .i64 x.f0, .int .i64 x.f1] := ⟨[.int .i64 x.f0], [.int .i64 x.f1], rfl, rfl, rfl⟩
def qae (xs : List qac) (i : Int) : qac := xs.getD i.toNat zRule
theorem qdW {w : World} {A : Option Addr} {n : Nat} {xs : List qac} (h : Kd.C qaL w A n xs) (i : Int) (h0 : 0 ≤ i) (h1 : i < n) : ∃ ad , A = some ad ∧ w.cell? (ad.add (i.toNat * 2)) = some (.int .i64 (qae xs i).f0) ∧ w.cell? ⟨(ad.add (i.toNat * 2)).block, (ad.add (i.toNat * 2)).off + 1, none⟩ = some (.int .i64 (qae xs i).f1) := by
  obtain ⟨ad, c, e, _, hK, hc0⟩ := Kd.C_get h zRule i h0 h1; have hc : ∀ j u, c[j]? = some u → w.cell? (ad.add (i.toNat * 2 + j)) = some u := hc0; obtain rfl := qqP hK; exact ⟨ad, e, hc 0 _ rfl, by rw [← qru _ _ 1 (by omega)]; exact hc 1 _ rfl⟩
def qeq (xs : List (List qac)) (i : Int) : (List qac) := xs.getD i.toNat ([] : List qac)
theorem qpB {w : World} {A : Option Addr} {n : Nat} {xs : List (List qac)} (h : Kd.C (Kd.slice 85 qaL) w A n xs) (i : Int) (h0 : 0 ≤ i) (h1 : i < n) : ∃ ad A0 c0, A = some ad ∧ w.cell? (ad.add i.toNat) = some (.slice A0 (qeq xs i).length c0) ∧ (qeq xs i).length ≤ c0 ∧ qaL.C w A0 (qeq xs i).length (qeq xs i) := by
  obtain ⟨ad, c, e, _, hK, hc0⟩ := Kd.C_get h ([] : List qac) i h0 h1; have hc : ∀ j u, c[j]? = some u → w.cell? (ad.add (i.toNat * 1 + j)) = some u := hc0; obtain ⟨A0, c0, rfl, l0, g0⟩ := hK; exact ⟨ad, A0, c0, e, by have hq := hc 0 _ rfl; rwa [Nat.mul_one, Nat.add_zero] at hq, l0, g0⟩
def qbg (xs : List (List Int)) (i : Int) : (List Int) := xs.getD i.toNat ([] : List Int)
theorem qiX {w : World} {A : Option Addr} {n : Nat} {xs : List (List Int)} (h : Kd.C (Kd.slice 3 (Kd.int .i64)) w A n xs) (i : Int) (h0 : 0 ≤ i) (h1 : i < n) : ∃ ad A0 c0, A = some ad ∧ w.cell? (ad.add i.toNat) = some (.slice A0 (qbg xs i).length c0) ∧ (qbg xs i).length ≤ c0 ∧ (Kd.int .i64).C w A0 (qbg xs i).length (qbg xs i) := by
  obtain ⟨ad, c, e, _, hK, hc0⟩ := Kd.C_get h ([] : List Int) i h0 h1; have hc : ∀ j u, c[j]? = some u → w.cell? (ad.add (i.toNat * 1 + j)) = some u := hc0; obtain ⟨A0, c0, rfl, l0, g0⟩ := hK; exact ⟨ad, A0, c0, e, by have hq := hc 0 _ rfl; rwa [Nat.mul_one, Nat.add_zero] at hq, l0, g0⟩
class qnZ (w w1 : World) : Prop where nr : Below w.heap.size w w1
instance qnZ.same (w : World) : qnZ w w := ⟨Below.refl _ _⟩
instance qnZ.drewN (w w1 : World) (n : Nat) [h : qnZ w w1] : qnZ w (w1.drewN n) := ⟨qaf h.nr n⟩
instance qnZ.drew (w w1 : World) [h : qnZ w w1] : qnZ w w1.drew := ⟨qah h.nr⟩
instance qnZ.alloc (w w1 : World) (o : Obj) [h : qnZ w w1] : qnZ w (w1.alloc o) := ⟨qai h.nr o⟩
class Mv (P : Prop) (w1 w2 : World) (Q : outParam Prop) : Prop where mv : P → Below w1.heap.size w1 w2 → Q
instance Mv.R {α : Type} (d : Kd α) (e base : Nat) (ok : Nat → Prop) (v : Value) (xs : List α) (w w1 w2 : World) [h : qnZ w w1] : Mv (d.R e w base ok v xs) w1 w2 (d.R e w2 base ok v xs) := ⟨fun p hb => Kd.qbv p (qaa h.nr hb)⟩
instance Mv.blk (g : Nat) (o : Obj) (w w1 w2 : World) [h : qnZ w w1] : Mv (w.heap[g]? = some o) w1 w2 (w2.heap[g]? = some o) := ⟨fun p hb => qar p (qaa h.nr hb)⟩
instance Mv.below (w0 w w1 w2 : World) [h : qnZ w w1] : Mv (Below w0.heap.size w0 w) w1 w2 (Below w0.heap.size w0 w2) := ⟨fun p hb => qaa p (qaa h.nr hb)⟩
theorem _root_.Go.Proofs.YtjeoabbnalamcaaGreatDoorW.qa0.qag.mv {P Q : Prop} {w1 w2 : World} (h : qag P) (hb : Below w1.heap.size w1 w2) [m : Mv P w1 w2 Q] : Q := m.mv h.out hb
theorem _root_.Go.Proofs.YtjeoabbnalamcaaGreatDoorW.qa0.qag.ge {w w1 W : World} (h : qag (Below w.heap.size w w1)) [m : qnZ w1 W] {g : Nat} (hg : g = W.heap.size) : w.heap.size ≤ g := hg ▸ Nat.le_trans h.out.size m.nr.size
theorem _root_.Go.Proofs.YtjeoabbnalamcaaGreatDoorW.qa0.qag.ne {w W : World} {g g' : Nat} {o : Obj} (h : qag (w.heap[g]? = some o)) [m : qnZ w W] (hg : g' = W.heap.size) : g ≠ g' := fun e => by
  have h1 := qdU h.out; have h2 := m.nr.size; omega
theorem qay {α β : Type} {o : Option α} {f : α → Option β} {b : β} (h : o.bind f = some b) : ∃ a, Go.Proofs.YtjeoabbnalamcaaGreatDoorW.qa0.qag (o = some a) ∧ f a = some b := by
  obtain ⟨a, h1, h2⟩ := Option.bind_eq_some_iff.mp h; exact ⟨a, ⟨h1⟩, h2⟩
theorem _root_.Go.Proofs.YtjeoabbnalamcaaGreatDoorW.qa0.qag.mw {P Q : Prop} {w1 w2 : World} (h : qag P) (hb : Below w1.heap.size w1 w2) [m : Mv P w1 w2 Q] : qag Q := ⟨m.mv h.out hb⟩
def rB_ : Bool → List Nat → List Bool
 | _, [] => []
 | b, n :: l => List.replicate n b ++ rB_ (!b) l
def rA_ (l : List Nat) : Array Bool := ⟨rB_ true l⟩
theorem pu_ {P : Program} {ops : Array Oper} {Q : Exit → Act → World → Prop} {md : Region.Mode} {S : World → Prop} {ds : List Nat} {oi : Oper} {v : Value} {fuel : Nat} {l : Array Bool} {a : Act} {w : World} {a' : Act} (i n : Nat) (r : List Nat) (h : qbj P md ops Q S ds fuel (rA_ r) a' w) (hx : ops[i]? = some oi ∧ oi.dst = some n ∧ anyB md ops l (rA_ r) i = true ∧ (∀ c a w, Q (.panic c) (a.put oi.dst v) w → Q (.panic c) a w) ∧ Yields P ops oi v a ∧ a.put (some n) v = a' := by (refine ⟨rfl, rfl, any_of HT_.out (by kernel_rfl), fun _ _ _ h => h, Or.inl ⟨by rfl, ?_⟩, ?_⟩; intro w'; go_simp; with_reducible rfl; simp only [Act.put, List.setIfInBounds_toArray, List.set_cons_zero, List.set_cons_succ, qd7, qew]; rfl)) : qbj P md ops Q S ds (fuel + 1) l a w := qgy (rA_ r) hx.1 hx.2.1 hx.2.2.1 hx.2.2.2.1 hx.2.2.2.2.1 hx.2.2.2.2.2 h
theorem pz_ {P : Program} {ops : Array Oper} {Q : Exit → Act → World → Prop} {md : Region.Mode} {S : World → Prop} {ds : List Nat} {oi : Oper} {fuel : Nat} {l : Array Bool} {a : Act} {w : World} {a' : Act} (i n : Nat) (r : List Nat) (h : qbj P md ops Q S ds fuel (rA_ r) a' w) (hx : ops[i]? = some oi ∧ oi.dst = some n ∧ anyB md ops l (rA_ r) i = true ∧ (∀ c a w, Q (.panic c) (a.put oi.dst undef) w → Q (.panic c) a w) ∧ Yields P ops oi undef a ∧ a.put (some n) undef = a' := by (refine ⟨rfl, rfl, any_of HT_.out (by kernel_rfl), fun _ _ _ h => h, Or.inr ⟨by rfl, rfl⟩, ?_⟩; simp only [Act.put, List.setIfInBounds_toArray, List.set_cons_zero, List.set_cons_succ, qd7, qew]; rfl)) : qbj P md ops Q S ds (fuel + 1) l a w := qgy (rA_ r) hx.1 hx.2.1 hx.2.2.1 hx.2.2.2.1 hx.2.2.2.2.1 hx.2.2.2.2.2 h
theorem ta_ {P : Program} {ops : Array Oper} {Q : Exit → Act → World → Prop} {md : Region.Mode} {S : World → Prop} {ds : List Nat} {oi : Oper} {v : Value} {fuel : Nat} {l : Array Bool} {a : Act} {w : World} {a' : Act} (i n : Nat) (r : List Nat) (h : qbj P md ops Q S ds fuel (rA_ r) a' w) (hx : ops[i]? = some oi ∧ oi.dst = some n ∧ qnV md ops ds l (rA_ r) i = true ∧ (∀ c a w, Q (.panic c) (a.put oi.dst v) w → Q (.panic c) a w) ∧ YieldsIf P ops S oi v a ∧ S w ∧ a.put (some n) v = a' := by (refine ⟨rfl, rfl, qmE HT_.out HW_.out (by kernel_rfl), fun _ _ _ h => h, Or.inl ⟨by rfl, ?_⟩, hHeld, ?_⟩; intro w' _; go_simp; with_reducible rfl; simp only [Act.put, List.setIfInBounds_toArray, List.set_cons_zero, List.set_cons_succ, qd7, qew]; rfl)) : qbj P md ops Q S ds (fuel + 1) l a w := qmD (rA_ r) hx.1 hx.2.1 hx.2.2.1 hx.2.2.2.1 hx.2.2.2.2.1 hx.2.2.2.2.2.1 hx.2.2.2.2.2.2 h
theorem qis {P : Program} {ops : Array Oper} {Q : Exit → Act → World → Prop} {md : Region.Mode} {S : World → Prop} {ds : List Nat} {oi : Oper} {v : Value} {fuel : Nat} {l : Array Bool} {a : Act} {w : World} {a' : Act} (i n : Nat) (r : List Nat) (h : qbj P md ops Q S ds fuel (rA_ r) a' w) (hx : ops[i]? = some oi ∧ oi.dst = some n ∧ qnV md ops ds l (rA_ r) i = true ∧ (∀ c a w, Q (.panic c) (a.put oi.dst v) w → Q (.panic c) a w) ∧ YieldsIf P ops S oi v a ∧ S w ∧ a.put (some n) v = a' := by (refine ⟨rfl, rfl, qmE HT_.out HW_.out (by kernel_rfl), fun _ _ _ h => h, Or.inl ⟨by rfl, ?_⟩, hHeld, ?_⟩; rintro w' ⟨s0, s1⟩; go_simp; with_reducible rfl; simp only [Act.put, List.setIfInBounds_toArray, List.set_cons_zero, List.set_cons_succ, qd7, qew]; rfl)) : qbj P md ops Q S ds (fuel + 1) l a w := qmD (rA_ r) hx.1 hx.2.1 hx.2.2.1 hx.2.2.2.1 hx.2.2.2.2.1 hx.2.2.2.2.2.1 hx.2.2.2.2.2.2 h
theorem ta3_ {P : Program} {ops : Array Oper} {Q : Exit → Act → World → Prop} {md : Region.Mode} {S : World → Prop} {ds : List Nat} {oi : Oper} {v : Value} {fuel : Nat} {l : Array Bool} {a : Act} {w : World} {a' : Act} (i n : Nat) (r : List Nat) (h : qbj P md ops Q S ds fuel (rA_ r) a' w) (hx : ops[i]? = some oi ∧ oi.dst = some n ∧ qnV md ops ds l (rA_ r) i = true ∧ (∀ c a w, Q (.panic c) (a.put oi.dst v) w → Q (.panic c) a w) ∧ YieldsIf P ops S oi v a ∧ S w ∧ a.put (some n) v = a' := by (refine ⟨rfl, rfl, qmE HT_.out HW_.out (by kernel_rfl), fun _ _ _ h => h, Or.inl ⟨by rfl, ?_⟩, hHeld, ?_⟩; rintro w' ⟨s0, s1, s2⟩; go_simp; with_reducible rfl; simp only [Act.put, List.setIfInBounds_toArray, List.set_cons_zero, List.set_cons_succ, qd7, qew]; rfl)) : qbj P md ops Q S ds (fuel + 1) l a w := qmD (rA_ r) hx.1 hx.2.1 hx.2.2.1 hx.2.2.2.1 hx.2.2.2.2.1 hx.2.2.2.2.2.1 hx.2.2.2.2.2.2 h
theorem nm_ {P : Program} {ops : Array Oper} {Q : Exit → Act → World → Prop} {md : Region.Mode} {S : World → Prop} {ds : List Nat} {v : Value} {fuel : Nat} {l : Array Bool} {a a' : Act} {w : World} (n : Nat) (h : qbj P md ops Q S ds fuel l a' w) (ha : a.put (some n) v = a' := by show Act.put _ _ _ = _; simp only [Act.put, List.setIfInBounds_toArray, List.set_cons_zero, List.set_cons_succ, qd7, qew]; rfl) : qbj P md ops Q S ds fuel l (a.put (some n) v) w := qep ha h
theorem k0_ {p : Prop} (h : p := by (with_reducible repeat (first | refine qak ?_ _ | refine qam ?_ | refine qaj ?_ _)); refine qbl (cs := #[.string (qeJ ByteArray.empty qaR 0), .int .i64 0]) ?_ 1 _ rfl; (with_reducible repeat (first | refine qak ?_ _ | refine qam ?_ | refine qaj ?_ _)); refine qbl (cs := #[.string (⟨#[]⟩ : ByteArray), .int .i64 0]) ?_ 0 _ rfl; apply_rules only [qfC.out, qak, qam, qaj]) : p := h
theorem k1_ {p : Prop} (h : p := by (with_reducible repeat (first | refine qak ?_ _ | refine qam ?_ | refine qaj ?_ _)); refine qbl (cs := #[.string (⟨#[]⟩ : ByteArray), .int .i64 0]) ?_ 1 _ rfl; (with_reducible repeat (first | refine qak ?_ _ | refine qam ?_ | refine qaj ?_ _)); refine qbl (cs := #[.string (⟨#[]⟩ : ByteArray), .int .i64 0]) ?_ 0 _ rfl; apply_rules only [qaG.out, qak, qam, qaj]) : p := h
theorem k2_ {p : Prop} (h : p := by (with_reducible repeat (first | refine qak ?_ _ | refine qam ?_ | refine qaj ?_ _)); refine qbl (cs := #[.int .i64 ((qae l0 qcQ).f0), .int .i64 0]) ?_ 1 _ rfl; (with_reducible repeat (first | refine qak ?_ _ | refine qam ?_ | refine qaj ?_ _)); refine qbl (cs := #[.int .i64 0, .int .i64 0]) ?_ 0 _ rfl; apply_rules only [qct.out, qak, qam, qaj]) : p := h
theorem k3_ {p : Prop} (h : p := by (with_reducible repeat (first | refine qak ?_ _ | refine qam ?_ | refine qaj ?_ _)); refine qbl (cs := #[.int .i64 ((qae l0 qcs).f0), .int .i64 0]) ?_ 1 _ rfl; (with_reducible repeat (first | refine qak ?_ _ | refine qam ?_ | refine qaj ?_ _)); refine qbl (cs := #[.int .i64 0, .int .i64 0]) ?_ 0 _ rfl; apply_rules only [qct.out, qak, qam, qaj]) : p := h
theorem k5_ {p : Prop} (h : p := by (with_reducible repeat (first | refine qak ?_ _ | refine qam ?_ | refine qaj ?_ _)); refine qbl (cs := #[.slice Ao4 qaR.length co4, .int .i64 0]) ?_ 1 _ rfl; (with_reducible repeat (first | refine qak ?_ _ | refine qam ?_ | refine qaj ?_ _)); refine qbl (cs := #[.slice none 0 0, .int .i64 0]) ?_ 0 _ rfl; apply_rules only [qaG.out, qak, qam, qaj]) : p := h
theorem k6_ {p : Prop} (h : p := by (with_reducible repeat (first | refine qak ?_ _ | refine qam ?_ | refine qaj ?_ _)); refine qbl (cs := #[.int .i64 qat, .slice none 0 0]) ?_ 1 _ rfl; (with_reducible repeat (first | refine qak ?_ _ | refine qam ?_ | refine qaj ?_ _)); refine qbl (cs := #[.int .i64 0, .slice none 0 0]) ?_ 0 _ rfl; apply_rules only [qek.out, qak, qam, qaj]) : p := h
theorem k7_ {p : Prop} (h : p := by (with_reducible repeat (first | refine qak ?_ _ | refine qam ?_ | refine qaj ?_ _)); refine qbl (cs := #[.int .i64 0, .slice none 0 0]) ?_ 1 _ rfl; (with_reducible repeat (first | refine qak ?_ _ | refine qam ?_ | refine qaj ?_ _)); refine qbl (cs := #[.int .i64 0, .slice none 0 0]) ?_ 0 _ rfl; apply_rules only [qaG.out, qak, qam, qaj]) : p := h
theorem k8_ {p : Prop} (h : p := by (with_reducible repeat (first | refine qak ?_ _ | refine qam ?_ | refine qaj ?_ _)); refine qbl (cs := #[.int .i64 qcM, .int .i64 0]) ?_ 1 _ rfl; (with_reducible repeat (first | refine qak ?_ _ | refine qam ?_ | refine qaj ?_ _)); refine qbl (cs := #[.int .i64 0, .int .i64 0]) ?_ 0 _ rfl; apply_rules only [qaG.out, qak, qam, qaj]) : p := h
theorem k9_ {p : Prop} (h : p := by (with_reducible repeat (first | apply Kd.qap | apply Kd.qaq | apply Kd.qaw)); exact (Kd.qa9 (Kd.qcV (p := ⟨qen, 1, none⟩) (Kd.qcV (p := ⟨qen, 0, none⟩) (Kd.qcw qdk.out qfC.out (by decide)) (fun _ hk => hk.2) (.string (qeJ ByteArray.empty qaR 0))) (fun _ hk => hk.2) (.int .i64 t107)) (fun _ h_ => h_.1))) : p := h
theorem k10_ {p : Prop} (h : p := by (with_reducible repeat (first | refine qak ?_ _ | refine qam ?_ | refine qaj ?_ _)); refine qcZ ?_ qdx.out _; (with_reducible repeat (first | refine qak ?_ _ | refine qam ?_ | refine qaj ?_ _)); refine qcZ ?_ qdx.out _; apply_rules only [qaG.out, qak, qam, qaj]) : p := h
theorem k11_ {p : Prop} (h : p := by (with_reducible repeat (first | apply Kd.qap | apply Kd.qaq | apply Kd.qaw)); exact (Kd.qa9 (Kd.qcV (p := ⟨qb6, 1, none⟩) (Kd.qcV (p := ⟨qb6, 0, none⟩) (Kd.qa9 qdq.out (fun k_ hk => (⟨hk, hk.2⟩ : _ ∧ k_ ≠ qb6))) (fun _ hk => hk.2) (.int .i64 qcM)) (fun _ hk => hk.2) (.int .i64 qfS)) (fun _ h_ => h_.1))) : p := h
theorem k17_ {p : Prop} (h : p := by first | exact Kd.qms (Kd.qpw qdk.out qfC.out (by decide)) | (rw [add_block]; exact Kd.qms (Kd.qpw qdk.out qfC.out (by decide))) | (show (Addr.add _ _).block ≠ _; rw [add_block]; exact Kd.qms (Kd.qpw qdk.out qfC.out (by decide))) | (dsimp only; exact Kd.qms (Kd.qpw qdk.out qfC.out (by decide)))) : p := h
theorem k18_ {p : Prop} (h : p := by (with_reducible repeat (first | apply Kd.qap | apply Kd.qaq | apply Kd.qaw)); exact Kd.qa9 (Kd.qcV (p := ⟨qeW, 1, none⟩) (Kd.qcV (p := ⟨qeW, 0, none⟩) (Kd.qcw qb1.out qek.out (by decide)) (fun _ hk => hk.2) (.int .i64 qat)) (fun _ hk => hk.2) (.slice Ao8 qaR.length co8)) (fun _ hk => trivial)) : p := h
theorem k19_ {p : Prop} (h : p := by (with_reducible repeat (first | apply Kd.qap | apply Kd.qaq | apply Kd.qaw)); exact Kd.qa9 (Kd.qcV (p := ⟨qhw, 1, none⟩) (Kd.qcV (p := ⟨qhw, 0, none⟩) (Kd.qcw qe2.out qf5.out (by decide)) (fun _ hk => hk.2) (.slice Ao5 qat.length co5)) (fun _ hk => hk.2) (.int .i64 qcg)) (fun _ hk => trivial)) : p := h
theorem k20_ {p : Prop} (h : p := by (with_reducible repeat (first | apply Kd.qap | apply Kd.qaq | apply Kd.qaw)); exact (Kd.qa9 (Kd.qcV (p := ⟨qeW, 1, none⟩) (Kd.qcV (p := ⟨qeW, 0, none⟩) (Kd.qcw qb1.out qek.out (by decide)) (fun _ hk => hk.2) (.int .i64 qat)) (fun _ hk => hk.2) (.slice Ao8 qaR.length co8)) (fun _ h_ => h_.1))) : p := h
theorem k22_ {p : Prop} (h : p := by repeat (first | exact (Kd.qao (Kd.qgQ (by apply_rules only [HO.out, Kd.qap, Kd.qaq, Kd.qaw]) (by apply_rules only [HC.out, qak, qam, qaj]) (by decide) 1 _)).2.2 | (with_reducible refine Kd.C_alloc ?_ _) | (with_reducible refine Kd.C_drewN ?_ _) | (with_reducible refine Kd.C_drew ?_))) : p := h
theorem k23_ {p : Prop} (h : p := by repeat (first | exact (Kd.qao (Kd.qgQ (by apply_rules only [HX.out, Kd.qap, Kd.qaq, Kd.qaw]) (by apply_rules only [HC.out, qak, qam, qaj]) (by decide) 0 _)).2.2 | (with_reducible refine Kd.C_alloc ?_ _) | (with_reducible refine Kd.C_drewN ?_ _) | (with_reducible refine Kd.C_drew ?_))) : p := h
theorem qe1 {p : Prop} (h : p := by first | (rw [hy_]; with_reducible exact H) | (have H2_ := (Option.bind_some _ _).symm.trans H; rw [hy_]; with_reducible exact H2_) | (have H2_ := (Option.bind_some _ _).symm.trans H; with_reducible exact H2_) | with_reducible exact H | (rw [hy_]; exact H) | exact H) : p := h
theorem k26_ {p : Prop} (h : p := by repeat (first | exact (Kd.qeg HR0.out (by apply_rules only [HB.out, qai, qaf, qah])) | (with_reducible refine Kd.C_alloc ?_ _) | (with_reducible refine Kd.C_drewN ?_ _) | (with_reducible refine Kd.C_drew ?_))) : p := h
theorem k28_ {p : Prop} (h : p := by (try simp only [List.map_toArray, List.map_cons, List.map_nil]); first | done | (rw [show qlX.length = t105.length from (Kd.qao qgm.out).1.symm] <;> rfl) | rfl | (simp only [List.length_drop, List.length_take]; rfl)) : p := h
theorem k32_ {p : Prop} (h : p := by repeat (first | (with_reducible exact qjX.out) | (with_reducible refine Kd.C_alloc ?_ _) | (with_reducible refine Kd.C_drewN ?_ _) | (with_reducible refine Kd.C_drew ?_) | exact qjX.out)) : p := h
theorem qha {p : Prop} (h : p := by repeat (first | exact (Kd.qeg HR0.out HB.out) | (with_reducible refine Kd.C_alloc ?_ _) | (with_reducible refine Kd.C_drewN ?_ _) | (with_reducible refine Kd.C_drew ?_))) : p := h
theorem k38_ {p : Prop} (h : p := by repeat (first | exact (Kd.qao qb1.out).2.2 | (with_reducible refine Kd.C_alloc ?_ _) | (with_reducible refine Kd.C_drewN ?_ _) | (with_reducible refine Kd.C_drew ?_))) : p := h
theorem k39_ {p : Prop} (h : p := by repeat (first | exact (Kd.qao qgm.out).2.2 | (with_reducible refine Kd.C_alloc ?_ _) | (with_reducible refine Kd.C_drewN ?_ _) | (with_reducible refine Kd.C_drew ?_))) : p := h
theorem k41_ {p : Prop} (h : p := by repeat (first | exact (Kd.qao qdq.out).2.2 | (with_reducible refine Kd.C_alloc ?_ _) | (with_reducible refine Kd.C_drewN ?_ _) | (with_reducible refine Kd.C_drew ?_))) : p := h
theorem k42_ {p : Prop} (h : p := by repeat (first | exact (Kd.qao qdk.out).2.2 | (with_reducible refine Kd.C_alloc ?_ _) | (with_reducible refine Kd.C_drewN ?_ _) | (with_reducible refine Kd.C_drew ?_))) : p := h
theorem k43_ {p : Prop} (h : p := by repeat (first | exact (Kd.qao qgC.out).2.2 | (with_reducible refine Kd.C_alloc ?_ _) | (with_reducible refine Kd.C_drewN ?_ _) | (with_reducible refine Kd.C_drew ?_))) : p := h
theorem k44_ {p : Prop} (h : p := by repeat (first | exact (Kd.qao qgH.out).2.2 | (with_reducible refine Kd.C_alloc ?_ _) | (with_reducible refine Kd.C_drewN ?_ _) | (with_reducible refine Kd.C_drew ?_))) : p := h
theorem k45_ {p : Prop} (h : p := by repeat (first | exact (Kd.qao HO4.out).2.2 | (with_reducible refine Kd.C_alloc ?_ _) | (with_reducible refine Kd.C_drewN ?_ _) | (with_reducible refine Kd.C_drew ?_))) : p := h
theorem qjp {p : Prop} (h : p := by repeat (first | exact (Kd.qao HO.out).2.2 | (with_reducible refine Kd.C_alloc ?_ _) | (with_reducible refine Kd.C_drewN ?_ _) | (with_reducible refine Kd.C_drew ?_))) : p := h
theorem qqM {p : Prop} (h : p := by repeat (first | exact (Kd.qao HX.out).2.2 | (with_reducible refine Kd.C_alloc ?_ _) | (with_reducible refine Kd.C_drewN ?_ _) | (with_reducible refine Kd.C_drew ?_))) : p := h
theorem k49_ {p : Prop} (h : p := by with_reducible repeat (first | exact HB3.out | refine qas ?_ G7.out | refine qas ?_ G11.out | apply qai | apply qaf | apply qah)) : p := h
theorem qfN {p : Prop} (h : p := by repeat (first | exact HR0.out | (with_reducible refine Kd.C_alloc ?_ _) | (with_reducible refine Kd.C_drewN ?_ _) | (with_reducible refine Kd.C_drew ?_))) : p := h
theorem k51_ {p : Prop} (h : p := by apply ho_; (with_reducible repeat (first | exact B2.out | refine qak ?_ _ | refine qam ?_ | refine qaj ?_ _ | apply qeB)); rfl) : p := h
theorem k52_ {p : Prop} (h : p := by apply ho_; (with_reducible repeat (first | exact B3.out | refine qak ?_ _ | refine qam ?_ | refine qaj ?_ _ | apply qeB)); rfl) : p := h
theorem qgN {p : Prop} (h : p := by first | exact Kd.qfP _ _ _ _ _ | exact Kd.N_nil _ _ _ _ _ | exact Kd.V_nil _ _ _ _ _ | exact Kd.Q_nil _ _ _ _ _ | exact Kd.S_nil _ _ _ _ _) : p := h
theorem k55_ {p : Prop} (h : p := by first | exact Kd.S_nil _ _ _ _ _ | exact Kd.N_nil _ _ _ _ _ | exact Kd.V_nil _ _ _ _ _ | exact Kd.Q_nil _ _ _ _ _ | exact Kd.qfP _ _ _ _ _) : p := h
theorem qbK {p : Prop} (h : p := by (try simp only [List.map_toArray, List.map_cons, List.map_nil]); first | done | rfl | (simp only [List.length_drop, List.length_take]; rfl)) : p := h
theorem k57_ {p : Prop} (h : p := by with_reducible repeat (first | exact HB.out | refine qas ?_ G2.out | apply qai | apply qaf | apply qah)) : p := h
theorem k58_ {p : Prop} (h : p := by repeat (first | (with_reducible first | exact HK.out | apply Kept.alloc | apply Kept.drewN | apply Kept.drew) | exact HK.out)) : p := h
theorem qp1 {p : Prop} (h : p := by rw [HWE.out]; exact Kd.qax how (qab (by apply_rules only [HB.out, qai, qaf, qah]))) : p := h
theorem k62_ {p : Prop} (h : p := by rw [show qlX.length = t105.length from (Kd.qao qgm.out).1.symm]; exact (Kd.qao qgm.out).2.1) : p := h
theorem k63_ {p : Prop} (h : p := by (with_reducible repeat (first | apply Kd.qap | apply Kd.qaq | apply Kd.qaw)); exact qb1.out) : p := h
theorem k64_ {p : Prop} (h : p := by (with_reducible repeat (first | apply Kd.qap | apply Kd.qaq | apply Kd.qaw)); exact qdq.out) : p := h
theorem k65_ {p : Prop} (h : p := by (with_reducible repeat (first | apply Kd.qap | apply Kd.qaq | apply Kd.qaw)); exact qgC.out) : p := h
theorem k67_ {p : Prop} (h : p := by apply_rules only [HB.out, qai, qaf, qah, qas, qem.out, qk0.out]) : p := h
theorem qsK {p : Prop} (h : p := by rw [hg]; exact qab (by apply_rules only [HB.out, qai, qaf, qah])) : p := h
theorem qqN {p : Prop} (h : p := by simp only [qiH, Act.put, List.setIfInBounds_toArray, List.set_cons_zero, List.set_cons_succ]) : p := h
theorem qcf {p : Prop} (h : p := by first | rfl | (simp [qd0, qd1] <;> rfl) | (simp [*, qd0, qd1] <;> rfl)) : p := h
theorem qds {p : Prop} (h : p := by apply_rules only [HB.out, qai, qaf, qah, qas, qem.out]) : p := h
theorem qmN {p : Prop} (h : p := by apply_rules only [HB.out, qai, qaf, qah, qas, qgl.out]) : p := h
theorem k75_ {p : Prop} (h : p := by apply_rules only [HB.out, qai, qaf, qah, qas, GE105.out]) : p := h
theorem qoZ {p : Prop} (h : p := by apply_rules only [HB.out, qai, qaf, qah, qas, qmT.out]) : p := h
theorem qk9 {p : Prop} (h : p := by apply_rules only [HB.out, qai, qaf, qah, qas, GE109.out]) : p := h
theorem qbZ {p : Prop} (h : p := by (try simp only [List.map_toArray, List.map_cons, List.map_nil]); first | done | rfl) : p := h
theorem k79_ {p : Prop} (h : p := by apply_rules only [HB3.out, qai, qaf, qah]) : p := h
theorem qan {p : Prop} (h : p := by apply_rules only [HB.out, qai, qaf, qah]) : p := h
theorem k81_ {p : Prop} (h : p := by apply_rules only [qgG.out, Kd.qap, Kd.qaq, Kd.qaw]) : p := h
theorem qo0 {p : Prop} (h : p := by apply_rules only [qc6.out, Kd.qap, Kd.qaq, Kd.qaw]) : p := h
theorem qra {p : Prop} (h : p := by apply_rules only [qb1.out, Kd.qap, Kd.qaq, Kd.qaw]) : p := h
theorem qsL {p : Prop} (h : p := by apply_rules only [qeh.out, Kd.qap, Kd.qaq, Kd.qaw]) : p := h
theorem k85_ {p : Prop} (h : p := by apply_rules only [qgm.out, Kd.qap, Kd.qaq, Kd.qaw]) : p := h
theorem k86_ {p : Prop} (h : p := by apply_rules only [qqn.out, Kd.qap, Kd.qaq, Kd.qaw]) : p := h
theorem qhX {p : Prop} (h : p := by apply_rules only [qdq.out, Kd.qap, Kd.qaq, Kd.qaw]) : p := h
theorem qjQ {p : Prop} (h : p := by apply_rules only [qdk.out, Kd.qap, Kd.qaq, Kd.qaw]) : p := h
theorem qn1 {p : Prop} (h : p := by apply_rules only [qgC.out, Kd.qap, Kd.qaq, Kd.qaw]) : p := h
theorem qo1 {p : Prop} (h : p := by apply_rules only [qfv.out, Kd.qap, Kd.qaq, Kd.qaw]) : p := h
theorem qlC {p : Prop} (h : p := by apply_rules only [qgH.out, Kd.qap, Kd.qaq, Kd.qaw]) : p := h
theorem qmO {p : Prop} (h : p := by apply_rules only [qaG.out, qak, qam, qaj]) : p := h
theorem qsM {p : Prop} (h : p := by apply_rules only [qf5.out, qak, qam, qaj]) : p := h
theorem k94_ {p : Prop} (h : p := by apply_rules only [HO.out, Kd.qap, Kd.qaq, Kd.qaw]) : p := h
theorem qmP {p : Prop} (h : p := by apply_rules only [HX.out, Kd.qap, Kd.qaq, Kd.qaw]) : p := h
theorem qrb {p : Prop} (h : p := by unfold qbF.f; rw [HCM.out]; simp only [HKD.out]) : p := h
theorem k97_ {p : Prop} (h : p := by apply_rules only [B3.out, qak, qam, qaj]) : p := h
theorem qqO {p : Prop} (h : p := by apply_rules only [HC.out, qak, qam, qaj]) : p := h
theorem k99_ {p : Prop} (h : p := by have := HK1.out; have := HK2.out; have := HK3.out; omega) : p := h
theorem qcO {p : Prop} (h : p := by repeat (first | exact qcN.refl _ | apply qcN.step)) : p := h
theorem qaO {p : Prop} (h : p := by first | (with_reducible assumption) | assumption) : p := h
theorem k102_ {p : Prop} (h : p := by first | simpa using c3 | (simp at c3 ⊢; omega)) : p := h
theorem qav {p : Prop} (h : p := by first | rfl | (simp; done) | (simp [*]; done)) : p := h
theorem qbe {p : Prop} (h : p := by first | (go_simp; done) | (go_simp; rfl)) : p := h
theorem qmn {p : Prop} (h : p := by have := HK1.out; have := HK2.out; omega) : p := h
theorem qih {p : Prop} (h : p := by first | omega | exact Nat.le_refl _) : p := h
theorem qcW {p : Prop} (h : p := by have := HK1.out; omega) : p := h
theorem qb5 {p : Prop} (h : p := by exact HC0.out) : p := h
theorem qed {w : World} {g : Nat} {a0 : Value} {l : List Value} {T : TypeId} (h : w.heap[g]? = some (.cells (a0 :: l).toArray T (0, 0))) : w.cell? ⟨g, 0, none⟩ = some a0 := by rw [qba h 0]; rfl
theorem qbC {w : World} {g : Nat} {a0 a1 : Value} {l : List Value} {T : TypeId} (h : w.heap[g]? = some (.cells (a0 :: a1 :: l).toArray T (0, 0))) : w.cell? ⟨g, 1, none⟩ = some a1 := by rw [qba h 1]; rfl
theorem qfl {w : World} {g : Nat} {a0 a1 a2 : Value} {l : List Value} {T : TypeId} (h : w.heap[g]? = some (.cells (a0 :: a1 :: a2 :: l).toArray T (0, 0))) : w.cell? ⟨g, 2, none⟩ = some a2 := by rw [qba h 2]; rfl
theorem qft {w : World} {g : Nat} {a0 a1 a2 a3 : Value} {l : List Value} {T : TypeId} (h : w.heap[g]? = some (.cells (a0 :: a1 :: a2 :: a3 :: l).toArray T (0, 0))) : w.cell? ⟨g, 3, none⟩ = some a3 := by rw [qba h 3]; rfl
theorem qfu {w : World} {g : Nat} {a0 a1 a2 a3 a4 : Value} {l : List Value} {T : TypeId} (h : w.heap[g]? = some (.cells (a0 :: a1 :: a2 :: a3 :: a4 :: l).toArray T (0, 0))) : w.cell? ⟨g, 4, none⟩ = some a4 := by rw [qba h 4]; rfl
theorem cez5_ {w : World} {g : Nat} {a0 a1 a2 a3 a4 a5 : Value} {l : List Value} {T : TypeId} (h : w.heap[g]? = some (.cells (a0 :: a1 :: a2 :: a3 :: a4 :: a5 :: l).toArray T (0, 0))) : w.cell? ⟨g, 5, none⟩ = some a5 := by rw [qba h 5]; rfl
theorem qcx {w : World} {g : Nat} {a0 : Value} {l : List Value} {T : TypeId} (h : w.heap[g]? = some (.cells (a0 :: l).toArray T (0, 0))) : w.cell? ⟨g, 0, none⟩ = some a0 ∧ w.frozen? ⟨g, 0, none⟩ = false := ⟨qed h, qad h 0⟩
theorem qbG {w : World} {g : Nat} {a0 a1 : Value} {l : List Value} {T : TypeId} (h : w.heap[g]? = some (.cells (a0 :: a1 :: l).toArray T (0, 0))) : w.cell? ⟨g, 0, none⟩ = some a0 ∧ w.cell? ⟨g, 1, none⟩ = some a1 ∧ w.frozen? ⟨g, 0, none⟩ = false ∧ w.frozen? ⟨g, 1, none⟩ = false := ⟨qed h, qbC h, qad h 0, qad h 1⟩
theorem gez3_ {w : World} {g : Nat} {a0 a1 a2 : Value} {l : List Value} {T : TypeId} (h : w.heap[g]? = some (.cells (a0 :: a1 :: a2 :: l).toArray T (0, 0))) : w.cell? ⟨g, 0, none⟩ = some a0 ∧ w.cell? ⟨g, 1, none⟩ = some a1 ∧ w.cell? ⟨g, 2, none⟩ = some a2 ∧ w.frozen? ⟨g, 0, none⟩ = false ∧ w.frozen? ⟨g, 1, none⟩ = false ∧ w.frozen? ⟨g, 2, none⟩ = false := ⟨qed h, qbC h, qfl h, qad h 0, qad h 1, qad h 2⟩
theorem bx_ {P : Program} {ops : Array Oper} {Q : Exit → Act → World → Prop} {rest : List Oper} {a : Act} {o : Oper} {W : World} (N : Nat) (hd : o.dst = some N) {cs : Array Value} {t : TypeId} (hr : (execOp a.eval o).run P W = .ok (.value (.pointer (some ⟨W.heap.size, 0, none⟩))) (W.alloc (.cells cs t (0, 0)))) (h : ∀ g, g = W.heap.size → ∀ w1, w1.heap[g]? = some (.cells cs t (0, 0)) → Below W.heap.size W w1 → wpList P ops Q rest (a.put o.dst (.pointer (some ⟨g, 0, none⟩))) w1) (hg : Region.wanted o (yielded ops a.tmps) = true := by rfl) : wpList P ops Q (o :: rest) a W := qbH hg (qdI (o := { o with guard := none }) rfl hd hr h)
theorem gl_ {P : Program} {ops : Array Oper} {Q : Exit → Act → World → Prop} {rest : List Oper} {a : Act} {oi : Oper} {w : World} (N : Nat) {f : FuncId} {fn : Func} {os : Array Operand} {ts : Array TypeId} (hf : P.funcs[f]? = some fn) (args : Array Value) (hop : oi.op = .call { callee := .value (.func f), args := os, argTypes := ts }) (hargs : os.map a.eval = args) (h : Calls P f args w fun e w' => ∃ v, e = .returned v ∧ wpList P ops Q rest (a.put (some N) v) w') (hd : oi.dst = some N := by rfl) (hg : Region.wanted oi (yielded ops a.tmps) = true := by rfl) (hn : (fn.name == "runtime.NumGoroutine") = false := by kernel_rfl) (hb : fn.body.isSome = true := by rfl) : wpList P ops Q (oi :: rest) a w := qbH hg (qgK (oi := { oi with guard := none }) (some N) hd rfl hf hn hb args hop hargs h)
theorem qdF {α β : Type} {a a' : α} {b b' : β} (h : some (a, b) = some (a', b')) : a = a' ∧ b = b' := by simpa using h
theorem qfJ {α β γ : Type} {a a' : α} {b b' : β} {c c' : γ} (h : some (a, b, c) = some (a', b', c')) : a = a' ∧ b = b' ∧ c = c' := by simpa using h
theorem pj4_ {α β γ δ : Type} {a a' : α} {b b' : β} {c c' : γ} {d d' : δ} (h : some (a, b, c, d) = some (a', b', c', d')) : a = a' ∧ b = b' ∧ c = c' ∧ d = d' := by simpa using h
theorem pj5_ {α β γ δ ε : Type} {a a' : α} {b b' : β} {c c' : γ} {d d' : δ} {e e' : ε} (h : some (a, b, c, d, e) = some (a', b', c', d', e')) : a = a' ∧ b = b' ∧ c = c' ∧ d = d' ∧ e = e' := by simpa using h
theorem li_ {P : Program} {ops : Array Oper} {Q : Exit → Act → World → Prop} {rest : List Oper} {a : Act} {o : Oper} {W : World} {α : Type} (d : Kd α) (e N : Nat) (hd : o.dst = some N) {xs : List α} (hr : (execOp a.eval o).run P W = .ok (.value (.slice (some ⟨W.heap.size, 0, none⟩) xs.length xs.length)) (W.alloc (.cells (([] : List Value)).toArray e))) (h : ∀ v1 w1, d.R e w1 W.heap.size (fun _ => True) v1 xs → Below W.heap.size W w1 → wpList P ops Q rest (a.put o.dst v1) w1) (hx : xs = [] := by rfl) (hg : Region.wanted o (yielded ops a.tmps) = true := by rfl) : wpList P ops Q (o :: rest) a W := by subst hx; exact qbH hg (Kd.qhq (o := { o with guard := none }) d W.heap.size e rfl hd (inner := []) (ok := fun _ => True) (okp := fun _ => True) hr (qef.none _ _) (fun _ hk => hk) trivial (Below.refl _ _) (Nat.le_refl _) (by simp) (fun v1 w1 h1 h2 _ _ => h v1 w1 h1 h2))
theorem qmq {p : Prop} (h : p := by simp only [Act.put, List.setIfInBounds_toArray, List.set_cons_zero, List.set_cons_succ, qd7, qew]; rfl) : p := h
theorem cs_ {α : Type} {a : Option α} {b c : α} (h : a = some b) (e : b = c := by kernel_rfl) : a = some c := e ▸ h
theorem br_ (w : World) : qag (Below w.heap.size w w) := ⟨Below.refl _ _⟩
theorem ff_ : ¬ (false = true) := by decide
theorem sj_ {α : Type} {a b : α} (h : some a = some b) : a = b := Option.some.inj h
theorem qck {α : Type} {p : Prop} [Decidable p] {a : Option α} {b : α} (h : (if p then a else none) = some b) : p ∧ a = some b := by
  by_cases c : p
  ·exact ⟨c, by rwa [if_pos c] at h⟩
  rw [if_neg c] at h; cases h
theorem ak_ {p : Prop} (h : p) : qag p := ⟨h⟩
end Go.Proofs.YtjeoabbnalamcaaGreatDoor.P
