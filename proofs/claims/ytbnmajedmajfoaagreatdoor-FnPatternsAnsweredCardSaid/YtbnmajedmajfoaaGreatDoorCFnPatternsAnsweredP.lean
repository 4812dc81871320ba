/- The kinds of values. Proved in this text: its theorems. Conditions: as each theorem states them. -/
import Derived.Test.YtbnmajedmajfoaaGreatDoorProg
import Derived.Shelf.Abstract
import Derived.Shelf.Strings.SlTrimAscii
import Derived.Lib.OthersKept
import Derived.Shelf.Strconv.Itoa3
import Derived.Shelf.Strings.Cut
import Derived.Shelf.Strconv.AtoiAll
import Derived.Deep.Slices
import Derived.Deep.Fields
import Derived.ChangeSame
import Derived.ChangeSlices
import Derived.Lib.SmallJoins
import Derived.ProofKit
import Derived.OpenShut
import Derived.ShutString
import Derived.ChangeOld
import Derived.SizedLaws
import Derived.Carry
import Derived.Deep.DeepHandedRow
import Derived.Lib.LaidTab
import Derived.Stop.LaidErr
import Derived.Shelf.Vars
import Derived.LaidLaws
import Derived.Below
import Derived.Deep.Draws
import Derived.Deep.AppendLies
import Derived.Maps.AppendAt
import Derived.OwnWalk
import Derived.Laws.BytesArg
import Derived.Laws.MakeOwn
import Derived.Laws.OwnMore
import Derived.Deep.OwnRows
import Derived.Tactics
import Derived.Lib.ConvBytes
import Derived.Laws.Slices
import Derived.WalkKit
import Derived.KernelRfl
import Derived.RowKit3
import Derived.Deep.LoopGhost
import Derived.Deep.QuietTactic
import Derived.BigQuiet
import Derived.WideLaws
import Derived.Deep.DeepCutAuto
import Derived.Deep.CutBlock
import Derived.Deep.RegionHeld3
import Derived.Laws.Rows
import Derived.Lib.AppendStr
import Derived.ArgAppend
import Derived.Laws.IdiomCopy
import Derived.RowKit
import Derived.OrdersHeld
import Derived.Laws.BitsLemmas
import Derived.Laws.StructEq
import Derived.Test.YtbnmajedmajfoaaGreatDoorCFnPatternsAnsweredW0

namespace Go.Proofs.YtbnmajedmajfoaaGreatDoor.P
open Go.RowKit Go.Proofs.YtbnmajedmajfoaaGreatDoorW.qaG Go.Proofs.YtbnmajedmajfoaaGreatDoorW.PrintLast Go.Proofs.YtbnmajedmajfoaaGreatDoorW.PrintMore
attribute [local go_sem] qfe qfg qf0 qf1 qeA qeB qff qfh
set_option linter.unusedVariables false
set_option linter.unusedSimpArgs false
def errW : Option Int → Value
  | none => .nilIface
  | some c => .iface 0 (.int .i64 c)
theorem qe6 : errW none = .nilIface := rfl
theorem qe7 (c : Int) : errW (some c) = .iface 0 (.int .i64 c) := rfl
theorem info3 : (Tryz.prog.info? 3).map (fun i => (i.zero, i.size, i.bytes)) = some (some (.int .i64 0), 1, 8) := by kernel_rfl
theorem info5 : (Tryz.prog.info? 5).map (fun i => (i.zero, i.size, i.bytes)) = some (some (.int .u8 0), 1, 1) := by kernel_rfl
theorem info9 : (Tryz.prog.info? 9).map (fun i => (i.zero, i.size, i.bytes)) = some (some (.string ⟨#[]⟩), 1, 16) := by kernel_rfl
theorem qjt : (Tryz.prog.info? 33).map (fun i => (i.zero, i.size, i.bytes)) = some (some (.agg #[(.int .i64 0), (.int .i64 0)]), 2, 16) := by kernel_rfl
structure qaj where
  f0 : Int
  f1 : Int
def qr0 : qaj := ⟨(0 : Int), (0 : Int)⟩
def qa1 : Kd qaj := Kd.iso (Kd.pair (Kd.int .i64) (Kd.int .i64)) (fun x : qaj => (x.f0, x.f1))
theorem qrS {w : World} {x : qaj} {cs : List Value} (h : qa1.K w x cs) : cs = [.int .i64 x.f0, .int .i64 x.f1] := by
  obtain ⟨_, _, rfl, rfl, rfl⟩ := h; exact rfl
theorem ql5 {w : World} {base : Nat} {ok : Nat → Prop} {x : qaj} {cs : List Value} (h : qa1.M w base ok x cs) : cs = [.int .i64 x.f0, .int .i64 x.f1] := by
  obtain ⟨_, _, rfl, rfl, rfl⟩ := h; exact rfl
theorem kRule_mk (w : World) (x : qaj)  : qa1.K w x [.int .i64 x.f0, .int .i64 x.f1] := ⟨[.int .i64 x.f0], [.int .i64 x.f1], rfl, rfl, rfl⟩
theorem qdp (w : World) (base : Nat) (ok : Nat → Prop) (x : qaj)  : qa1.M w base ok x [.int .i64 x.f0, .int .i64 x.f1] := ⟨[.int .i64 x.f0], [.int .i64 x.f1], rfl, rfl, rfl⟩
def qab (xs : List qaj) (i : Int) : qaj := xs.getD i.toNat qr0
theorem qcq {w : World} {A : Option Addr} {n : Nat} {xs : List qaj} (h : Kd.C qa1 w A n xs) (i : Int) (h0 : 0 ≤ i) (h1 : i < n) : ∃ ad , A = some ad ∧ w.cell? (ad.add (i.toNat * 2)) = some (.int .i64 (qab xs i).f0) ∧ w.cell? ⟨(ad.add (i.toNat * 2)).block, (ad.add (i.toNat * 2)).off + 1, none⟩ = some (.int .i64 (qab xs i).f1) := by
  obtain ⟨ad, c, e, _, hK, hc0⟩ := Kd.qrk h qr0 i h0 h1; have hc : ∀ j u, c[j]? = some u → w.cell? (ad.add (i.toNat * 2 + j)) = some u := hc0; obtain rfl := qrS hK; exact ⟨ad, e, hc 0 _ rfl, by rw [← qoK _ _ 1 (by omega)]; exact hc 1 _ rfl⟩
def qar (xs : List (List qaj)) (i : Int) : (List qaj) := xs.getD i.toNat ([] : List qaj)
theorem qfL {w : World} {A : Option Addr} {n : Nat} {xs : List (List qaj)} (h : Kd.C (Kd.slice 33 qa1) w A n xs) (i : Int) (h0 : 0 ≤ i) (h1 : i < n) : ∃ ad A0 c0, A = some ad ∧ w.cell? (ad.add i.toNat) = some (.slice A0 (qar xs i).length c0) ∧ (qar xs i).length ≤ c0 ∧ qa1.C w A0 (qar xs i).length (qar xs i) := by
  obtain ⟨ad, c, e, _, hK, hc0⟩ := Kd.qrk h ([] : List qaj) i h0 h1; have hc : ∀ j u, c[j]? = some u → w.cell? (ad.add (i.toNat * 1 + j)) = some u := hc0; obtain ⟨A0, c0, rfl, l0, g0⟩ := hK; exact ⟨ad, A0, c0, e, by have hq := hc 0 _ rfl; rwa [Nat.mul_one, Nat.add_zero] at hq, l0, g0⟩
structure qgU where
  f0 : ByteArray
  f1 : Int
def quq : qgU := ⟨(⟨#[]⟩ : ByteArray), (0 : Int)⟩
def ql4 : Kd qgU := Kd.iso (Kd.pair Kd.string (Kd.int .i64)) (fun x : qgU => (x.f0, x.f1))
theorem qpe {w : World} {x : qgU} {cs : List Value} (h : ql4.K w x cs) : cs = [.string x.f0, .int .i64 x.f1] := by
  obtain ⟨_, _, rfl, rfl, rfl⟩ := h; exact rfl
theorem kPuzzle_openM {w : World} {base : Nat} {ok : Nat → Prop} {x : qgU} {cs : List Value} (h : ql4.M w base ok x cs) : cs = [.string x.f0, .int .i64 x.f1] := by
  obtain ⟨_, _, rfl, rfl, rfl⟩ := h; exact rfl
theorem kPuzzle_mk (w : World) (x : qgU)  : ql4.K w x [.string x.f0, .int .i64 x.f1] := ⟨[.string x.f0], [.int .i64 x.f1], rfl, rfl, rfl⟩
theorem kPuzzle_mkM (w : World) (base : Nat) (ok : Nat → Prop) (x : qgU)  : ql4.M w base ok x [.string x.f0, .int .i64 x.f1] := ⟨[.string x.f0], [.int .i64 x.f1], rfl, rfl, rfl⟩
def qpn (xs : List qgU) (i : Int) : qgU := xs.getD i.toNat quq
theorem at_Puzzle {w : World} {A : Option Addr} {n : Nat} {xs : List qgU} (h : Kd.C ql4 w A n xs) (i : Int) (h0 : 0 ≤ i) (h1 : i < n) : ∃ ad , A = some ad ∧ w.cell? (ad.add (i.toNat * 2)) = some (.string (qpn xs i).f0) ∧ w.cell? ⟨(ad.add (i.toNat * 2)).block, (ad.add (i.toNat * 2)).off + 1, none⟩ = some (.int .i64 (qpn xs i).f1) := by
  obtain ⟨ad, c, e, _, hK, hc0⟩ := Kd.qrk h quq i h0 h1; have hc : ∀ j u, c[j]? = some u → w.cell? (ad.add (i.toNat * 2 + j)) = some u := hc0; obtain rfl := qpe hK; exact ⟨ad, e, hc 0 _ rfl, by rw [← qoK _ _ 1 (by omega)]; exact hc 1 _ rfl⟩
def qjx (xs : List (List (List qaj))) (i : Int) : (List (List qaj)) := xs.getD i.toNat ([] : List (List qaj))
theorem at_Ruless {w : World} {A : Option Addr} {n : Nat} {xs : List (List (List qaj))} (h : Kd.C (Kd.slice 24 (Kd.slice 33 qa1)) w A n xs) (i : Int) (h0 : 0 ≤ i) (h1 : i < n) : ∃ ad A0 c0, A = some ad ∧ w.cell? (ad.add i.toNat) = some (.slice A0 (qjx xs i).length c0) ∧ (qjx xs i).length ≤ c0 ∧ (Kd.slice 33 qa1).C w A0 (qjx xs i).length (qjx xs i) := by
  obtain ⟨ad, c, e, _, hK, hc0⟩ := Kd.qrk h ([] : List (List qaj)) i h0 h1; have hc : ∀ j u, c[j]? = some u → w.cell? (ad.add (i.toNat * 1 + j)) = some u := hc0; obtain ⟨A0, c0, rfl, l0, g0⟩ := hK; exact ⟨ad, A0, c0, e, by have hq := hc 0 _ rfl; rwa [Nat.mul_one, Nat.add_zero] at hq, l0, g0⟩
def qq1 (xs : List (List Int)) (i : Int) : (List Int) := xs.getD i.toNat ([] : List Int)
theorem at_u8s {w : World} {A : Option Addr} {n : Nat} {xs : List (List Int)} (h : Kd.C (Kd.slice 5 (Kd.int .u8)) w A n xs) (i : Int) (h0 : 0 ≤ i) (h1 : i < n) : ∃ ad A0 c0, A = some ad ∧ w.cell? (ad.add i.toNat) = some (.slice A0 (qq1 xs i).length c0) ∧ (qq1 xs i).length ≤ c0 ∧ (Kd.int .u8).C w A0 (qq1 xs i).length (qq1 xs i) := by
  obtain ⟨ad, c, e, _, hK, hc0⟩ := Kd.qrk h ([] : List Int) i h0 h1; have hc : ∀ j u, c[j]? = some u → w.cell? (ad.add (i.toNat * 1 + j)) = some u := hc0; obtain ⟨A0, c0, rfl, l0, g0⟩ := hK; exact ⟨ad, A0, c0, e, by have hq := hc 0 _ rfl; rwa [Nat.mul_one, Nat.add_zero] at hq, l0, g0⟩
class qoF (w w1 : World) : Prop where nr : Below w.heap.size w w1
instance qoF.same (w : World) : qoF w w := ⟨Below.refl _ _⟩
instance qoF.drewN (w w1 : World) (n : Nat) [h : qoF w w1] : qoF w (w1.drewN n) := ⟨qao h.nr n⟩
instance qoF.drew (w w1 : World) [h : qoF w w1] : qoF w w1.drew := ⟨qap h.nr⟩
instance qoF.alloc (w w1 : World) (o : Obj) [h : qoF w w1] : qoF w (w1.alloc o) := ⟨qau h.nr o⟩
class Mv (P : Prop) (w1 w2 : World) (Q : outParam Prop) : Prop where mv : P → Below w1.heap.size w1 w2 → Q
instance Mv.R {α : Type} (d : Kd α) (e base : Nat) (ok : Nat → Prop) (v : Value) (xs : List α) (w w1 w2 : World) [h : qoF w w1] : Mv (d.R e w base ok v xs) w1 w2 (d.R e w2 base ok v xs) := ⟨fun p hb => Kd.qbn p (qac h.nr hb)⟩
instance Mv.S {α : Type} (d : Kd α) (e base : Nat) (ok : Nat → Prop) (v : Value) (xs : List α) (w w1 w2 : World) [h : qoF w w1] : Mv (d.S e w base ok v xs) w1 w2 (d.S e w2 base ok v xs) := ⟨fun p hb => Kd.qdB p (qac h.nr hb)⟩
instance Mv.blk (g : Nat) (o : Obj) (w w1 w2 : World) [h : qoF w w1] : Mv (w.heap[g]? = some o) w1 w2 (w2.heap[g]? = some o) := ⟨fun p hb => qam p (qac h.nr hb)⟩
instance Mv.below (w0 w w1 w2 : World) [h : qoF w w1] : Mv (Below w0.heap.size w0 w) w1 w2 (Below w0.heap.size w0 w2) := ⟨fun p hb => qac p (qac h.nr hb)⟩
instance Mv.keep (w0 w w1 w2 : World) (g : Nat) [h : qoF w w1] : Mv (qak w0 w g none) w1 w2 (qak w0 w2 g none) := ⟨fun p hb => qak.trans p (qak.qbG (qac h.nr hb) g none) (.inl rfl)⟩
theorem _root_.Go.Proofs.YtbnmajedmajfoaaGreatDoorW.qaG.qah.mv {P Q : Prop} {w1 w2 : World} (h : qah P) (hb : Below w1.heap.size w1 w2) [m : Mv P w1 w2 Q] : Q := m.mv h.out hb
theorem _root_.Go.Proofs.YtbnmajedmajfoaaGreatDoorW.qaG.qah.ge {w w1 W : World} (h : qah (Below w.heap.size w w1)) [m : qoF w1 W] {g : Nat} (hg : g = W.heap.size) : w.heap.size ≤ g := hg ▸ Nat.le_trans h.out.size m.nr.size
theorem _root_.Go.Proofs.YtbnmajedmajfoaaGreatDoorW.qaG.qah.ne {w W : World} {g g' : Nat} {o : Obj} (h : qah (w.heap[g]? = some o)) [m : qoF w W] (hg : g' = W.heap.size) : g ≠ g' := fun e => by
  have h1 := qdN h.out; have h2 := m.nr.size; omega
theorem qbh {α β : Type} {o : Option α} {f : α → Option β} {b : β} (h : o.bind f = some b) : ∃ a, Go.Proofs.YtbnmajedmajfoaaGreatDoorW.qaG.qah (o = some a) ∧ f a = some b := by
  obtain ⟨a, h1, h2⟩ := Option.bind_eq_some_iff.mp h; exact ⟨a, ⟨h1⟩, h2⟩
theorem _root_.Go.Proofs.YtbnmajedmajfoaaGreatDoorW.qaG.qah.mw {P Q : Prop} {w1 w2 : World} (h : qah P) (hb : Below w1.heap.size w1 w2) [m : Mv P w1 w2 Q] : qah Q := ⟨m.mv h.out hb⟩
def rB_ : Bool → List Nat → List Bool
 | _, [] => []
 | b, n :: l => List.replicate n b ++ rB_ (!b) l
def rA_ (l : List Nat) : Array Bool := ⟨rB_ true l⟩
theorem pu_ {P : Program} {ops : Array Oper} {Q : Exit → Act → World → Prop} {md : Region.Mode} {S : World → Prop} {ds : List Nat} {oi : Oper} {v : Value} {fuel : Nat} {l : Array Bool} {a : Act} {w : World} {a' : Act} (i n : Nat) (r : List Nat) (h : qbe P md ops Q S ds fuel (rA_ r) a' w) (hx : ops[i]? = some oi ∧ oi.dst = some n ∧ anyB md ops l (rA_ r) i = true ∧ (∀ c a w, Q (.panic c) (a.put oi.dst v) w → Q (.panic c) a w) ∧ Yields P ops oi v a ∧ a.put (some n) v = a' := by (refine ⟨rfl, rfl, any_of HT_.out (by kernel_rfl), fun _ _ _ h => h, Or.inl ⟨by rfl, ?_⟩, ?_⟩; intro w'; go_simp; with_reducible rfl; simp only [Act.put, List.setIfInBounds_toArray, List.set_cons_zero, List.set_cons_succ, qbL, qbQ]; rfl)) : qbe P md ops Q S ds (fuel + 1) l a w := qef (rA_ r) hx.1 hx.2.1 hx.2.2.1 hx.2.2.2.1 hx.2.2.2.2.1 hx.2.2.2.2.2 h
theorem pz_ {P : Program} {ops : Array Oper} {Q : Exit → Act → World → Prop} {md : Region.Mode} {S : World → Prop} {ds : List Nat} {oi : Oper} {fuel : Nat} {l : Array Bool} {a : Act} {w : World} {a' : Act} (i n : Nat) (r : List Nat) (h : qbe P md ops Q S ds fuel (rA_ r) a' w) (hx : ops[i]? = some oi ∧ oi.dst = some n ∧ anyB md ops l (rA_ r) i = true ∧ (∀ c a w, Q (.panic c) (a.put oi.dst undef) w → Q (.panic c) a w) ∧ Yields P ops oi undef a ∧ a.put (some n) undef = a' := by (refine ⟨rfl, rfl, any_of HT_.out (by kernel_rfl), fun _ _ _ h => h, Or.inr ⟨by rfl, rfl⟩, ?_⟩; simp only [Act.put, List.setIfInBounds_toArray, List.set_cons_zero, List.set_cons_succ, qbL, qbQ]; rfl)) : qbe P md ops Q S ds (fuel + 1) l a w := qef (rA_ r) hx.1 hx.2.1 hx.2.2.1 hx.2.2.2.1 hx.2.2.2.2.1 hx.2.2.2.2.2 h
theorem ta_ {P : Program} {ops : Array Oper} {Q : Exit → Act → World → Prop} {md : Region.Mode} {S : World → Prop} {ds : List Nat} {oi : Oper} {v : Value} {fuel : Nat} {l : Array Bool} {a : Act} {w : World} {a' : Act} (i n : Nat) (r : List Nat) (h : qbe P md ops Q S ds fuel (rA_ r) a' w) (hx : ops[i]? = some oi ∧ oi.dst = some n ∧ qmk md ops ds l (rA_ r) i = true ∧ (∀ c a w, Q (.panic c) (a.put oi.dst v) w → Q (.panic c) a w) ∧ YieldsIf P ops S oi v a ∧ S w ∧ a.put (some n) v = a' := by (refine ⟨rfl, rfl, qiq HT_.out HW_.out (by kernel_rfl), fun _ _ _ h => h, Or.inl ⟨by rfl, ?_⟩, hHeld, ?_⟩; intro w' _; go_simp; with_reducible rfl; simp only [Act.put, List.setIfInBounds_toArray, List.set_cons_zero, List.set_cons_succ, qbL, qbQ]; rfl)) : qbe P md ops Q S ds (fuel + 1) l a w := qg9 (rA_ r) hx.1 hx.2.1 hx.2.2.1 hx.2.2.2.1 hx.2.2.2.2.1 hx.2.2.2.2.2.1 hx.2.2.2.2.2.2 h
theorem qip {P : Program} {ops : Array Oper} {Q : Exit → Act → World → Prop} {md : Region.Mode} {S : World → Prop} {ds : List Nat} {oi : Oper} {v : Value} {fuel : Nat} {l : Array Bool} {a : Act} {w : World} {a' : Act} (i n : Nat) (r : List Nat) (h : qbe P md ops Q S ds fuel (rA_ r) a' w) (hx : ops[i]? = some oi ∧ oi.dst = some n ∧ qmk md ops ds l (rA_ r) i = true ∧ (∀ c a w, Q (.panic c) (a.put oi.dst v) w → Q (.panic c) a w) ∧ YieldsIf P ops S oi v a ∧ S w ∧ a.put (some n) v = a' := by (refine ⟨rfl, rfl, qiq HT_.out HW_.out (by kernel_rfl), fun _ _ _ h => h, Or.inl ⟨by rfl, ?_⟩, hHeld, ?_⟩; rintro w' ⟨s0, s1⟩; go_simp; with_reducible rfl; simp only [Act.put, List.setIfInBounds_toArray, List.set_cons_zero, List.set_cons_succ, qbL, qbQ]; rfl)) : qbe P md ops Q S ds (fuel + 1) l a w := qg9 (rA_ r) hx.1 hx.2.1 hx.2.2.1 hx.2.2.2.1 hx.2.2.2.2.1 hx.2.2.2.2.2.1 hx.2.2.2.2.2.2 h
theorem ta3_ {P : Program} {ops : Array Oper} {Q : Exit → Act → World → Prop} {md : Region.Mode} {S : World → Prop} {ds : List Nat} {oi : Oper} {v : Value} {fuel : Nat} {l : Array Bool} {a : Act} {w : World} {a' : Act} (i n : Nat) (r : List Nat) (h : qbe P md ops Q S ds fuel (rA_ r) a' w) (hx : ops[i]? = some oi ∧ oi.dst = some n ∧ qmk md ops ds l (rA_ r) i = true ∧ (∀ c a w, Q (.panic c) (a.put oi.dst v) w → Q (.panic c) a w) ∧ YieldsIf P ops S oi v a ∧ S w ∧ a.put (some n) v = a' := by (refine ⟨rfl, rfl, qiq HT_.out HW_.out (by kernel_rfl), fun _ _ _ h => h, Or.inl ⟨by rfl, ?_⟩, hHeld, ?_⟩; rintro w' ⟨s0, s1, s2⟩; go_simp; with_reducible rfl; simp only [Act.put, List.setIfInBounds_toArray, List.set_cons_zero, List.set_cons_succ, qbL, qbQ]; rfl)) : qbe P md ops Q S ds (fuel + 1) l a w := qg9 (rA_ r) hx.1 hx.2.1 hx.2.2.1 hx.2.2.2.1 hx.2.2.2.2.1 hx.2.2.2.2.2.1 hx.2.2.2.2.2.2 h
theorem qoB {P : Program} {ops : Array Oper} {Q : Exit → Act → World → Prop} {md : Region.Mode} {S : World → Prop} {ds : List Nat} {oi : Oper} {v : Value} {fuel : Nat} {l : Array Bool} {a : Act} {w : World} {a' : Act} (i n : Nat) (r : List Nat) (h : qbe P md ops Q S ds fuel (rA_ r) a' w) (hx : ops[i]? = some oi ∧ oi.dst = some n ∧ qmk md ops ds l (rA_ r) i = true ∧ (∀ c a w, Q (.panic c) (a.put oi.dst v) w → Q (.panic c) a w) ∧ YieldsIf P ops S oi v a ∧ S w ∧ a.put (some n) v = a' := by (refine ⟨rfl, rfl, qiq HT_.out HW_.out (by kernel_rfl), fun _ _ _ h => h, Or.inl ⟨by rfl, ?_⟩, hHeld, ?_⟩; rintro w' ⟨s0, s1, s2, s3⟩; go_simp; with_reducible rfl; simp only [Act.put, List.setIfInBounds_toArray, List.set_cons_zero, List.set_cons_succ, qbL, qbQ]; rfl)) : qbe P md ops Q S ds (fuel + 1) l a w := qg9 (rA_ r) hx.1 hx.2.1 hx.2.2.1 hx.2.2.2.1 hx.2.2.2.2.1 hx.2.2.2.2.2.1 hx.2.2.2.2.2.2 h
theorem ta5_ {P : Program} {ops : Array Oper} {Q : Exit → Act → World → Prop} {md : Region.Mode} {S : World → Prop} {ds : List Nat} {oi : Oper} {v : Value} {fuel : Nat} {l : Array Bool} {a : Act} {w : World} {a' : Act} (i n : Nat) (r : List Nat) (h : qbe P md ops Q S ds fuel (rA_ r) a' w) (hx : ops[i]? = some oi ∧ oi.dst = some n ∧ qmk md ops ds l (rA_ r) i = true ∧ (∀ c a w, Q (.panic c) (a.put oi.dst v) w → Q (.panic c) a w) ∧ YieldsIf P ops S oi v a ∧ S w ∧ a.put (some n) v = a' := by (refine ⟨rfl, rfl, qiq HT_.out HW_.out (by kernel_rfl), fun _ _ _ h => h, Or.inl ⟨by rfl, ?_⟩, hHeld, ?_⟩; rintro w' ⟨s0, s1, s2, s3, s4⟩; go_simp; with_reducible rfl; simp only [Act.put, List.setIfInBounds_toArray, List.set_cons_zero, List.set_cons_succ, qbL, qbQ]; rfl)) : qbe P md ops Q S ds (fuel + 1) l a w := qg9 (rA_ r) hx.1 hx.2.1 hx.2.2.1 hx.2.2.2.1 hx.2.2.2.2.1 hx.2.2.2.2.2.1 hx.2.2.2.2.2.2 h
theorem qnh {P : Program} {ops : Array Oper} {Q : Exit → Act → World → Prop} {md : Region.Mode} {S : World → Prop} {ds : List Nat} {oi : Oper} {v : Value} {fuel : Nat} {l : Array Bool} {a : Act} {w : World} {a' : Act} (i n : Nat) (r : List Nat) (h : qbe P md ops Q S ds fuel (rA_ r) a' w) (hx : ops[i]? = some oi ∧ oi.dst = some n ∧ qmk md ops ds l (rA_ r) i = true ∧ (∀ c a w, Q (.panic c) (a.put oi.dst v) w → Q (.panic c) a w) ∧ YieldsIf P ops S oi v a ∧ S w ∧ a.put (some n) v = a' := by (refine ⟨rfl, rfl, qiq HT_.out HW_.out (by kernel_rfl), fun _ _ _ h => h, Or.inl ⟨by rfl, ?_⟩, hHeld, ?_⟩; rintro w' ⟨s0, s1, s2, s3, s4, s5⟩; go_simp; with_reducible rfl; simp only [Act.put, List.setIfInBounds_toArray, List.set_cons_zero, List.set_cons_succ, qbL, qbQ]; rfl)) : qbe P md ops Q S ds (fuel + 1) l a w := qg9 (rA_ r) hx.1 hx.2.1 hx.2.2.1 hx.2.2.2.1 hx.2.2.2.2.1 hx.2.2.2.2.2.1 hx.2.2.2.2.2.2 h
theorem nm_ {P : Program} {ops : Array Oper} {Q : Exit → Act → World → Prop} {md : Region.Mode} {S : World → Prop} {ds : List Nat} {v : Value} {fuel : Nat} {l : Array Bool} {a a' : Act} {w : World} (n : Nat) (h : qbe P md ops Q S ds fuel l a' w) (ha : a.put (some n) v = a' := by show Act.put _ _ _ = _; simp only [Act.put, List.setIfInBounds_toArray, List.set_cons_zero, List.set_cons_succ, qbL, qbQ]; rfl) : qbe P md ops Q S ds fuel l (a.put (some n) v) w := qeN ha h
theorem k0_ {p : Prop} (h : p := by (with_reducible repeat (first | apply Kd.qaA | apply Kd.qaz | apply Kd.qaL)); exact (Kd.qaT (Kd.qdt (p := ⟨qbM, 1, none⟩) (Kd.qdt (p := ⟨qbM, 0, none⟩) (Kd.qaT qkb.out (fun k_ hk => (⟨hk, hk.2⟩ : _ ∧ k_ ≠ qbM))) (fun _ hk => hk.2) (.int .i64 (wrap64 ((Int.tmod (Int.tmod (wrap64 ((wrap64 (qgk * 177)) + 2221)) 10007) 9) + 2)))) (fun _ hk => hk.2) (.int .i64 (Int.tmod (Int.tmod (wrap64 ((wrap64 ((Int.tmod (wrap64 ((wrap64 (qgk * 177)) + 2221)) 10007) * 177)) + 2221)) 10007) (wrap64 ((Int.tmod (Int.tmod (wrap64 ((wrap64 (qgk * 177)) + 2221)) 10007) 9) + 2))))) (fun _ h_ => h_.1))) : p := h
theorem k1_ {p : Prop} (h : p := by (with_reducible repeat (first | apply Kd.qdk | apply Kd.qdl | apply Kd.qdy)); exact Kd.qdo (Kd.qiG (p := ⟨qoY, 1, none⟩) (Kd.qiG (p := ⟨qoY, 0, none⟩) (Kd.qdo HO_281.out (fun k_ hk => (⟨hk, hk.2⟩ : _ ∧ k_ ≠ qoY))) (fun _ hk => hk.2) (.int .i64 ((qab (qar qaX qnj) qnk).f0))) (fun _ hk => hk.2) (.int .i64 ((qab (qar qaX qnj) qnk).f1))) (fun _ hk => ⟨hk.1.1.1, ⟨hk.1.1.2.1, ⟨hk.1.1.2.2.1, ⟨hk.1.1.2.2.2, hk.1.2⟩⟩⟩⟩)) : p := h
theorem k2_ {p : Prop} (h : p := by (with_reducible repeat (first | apply Kd.qdk | apply Kd.qdl | apply Kd.qdy)); exact Kd.qdo (Kd.qiG (p := ⟨qcy, 1, none⟩) (Kd.qiG (p := ⟨qcy, 0, none⟩) (Kd.qdo qcm.out (fun k_ hk => (⟨hk, hk.2⟩ : _ ∧ k_ ≠ qcy))) (fun _ hk => hk.2) (.int .i64 ((qab (qar t105 qa3) qbo).f0))) (fun _ hk => hk.2) (.int .i64 ((qab (qar t105 qa3) qbo).f1))) (fun _ hk => ⟨hk.1.1.1, ⟨hk.1.1.2.1, ⟨hk.1.1.2.2.1, ⟨hk.1.1.2.2.2, hk.1.2⟩⟩⟩⟩)) : p := h
theorem k3_ {p : Prop} (h : p := by (with_reducible repeat (first | refine qag ?_ _ | refine qae ?_ | refine qaf ?_ _)); refine qaQ (cs := #[.int .i64 (wrap64 ((Int.tmod (Int.tmod (wrap64 ((wrap64 (qgk * 177)) + 2221)) 10007) 9) + 2)), .int .i64 0]) ?_ 1 _ rfl; (with_reducible repeat (first | refine qag ?_ _ | refine qae ?_ | refine qaf ?_ _)); refine qaQ (cs := #[.int .i64 0, .int .i64 0]) ?_ 0 _ rfl; apply_rules only [qb7.out, qag, qae, qaf]) : p := h
theorem k4_ {p : Prop} (h : p := by (with_reducible repeat (first | apply Kd.qaA | apply Kd.qaz | apply Kd.qaL)); exact Kd.qaT (Kd.qdt (p := ⟨qoY, 1, none⟩) (Kd.qdt (p := ⟨qoY, 0, none⟩) (Kd.qaT HO_21.out (fun k_ hk => (⟨hk, hk.2⟩ : _ ∧ k_ ≠ qoY))) (fun _ hk => hk.2) (.int .i64 ((qab (qar qaX qnj) qnk).f0))) (fun _ hk => hk.2) (.int .i64 ((qab (qar qaX qnj) qnk).f1))) (fun _ hk => ⟨hk.1.1.1, ⟨hk.1.1.2.1, ⟨hk.1.1.2.2, hk.1.2⟩⟩⟩)) : p := h
theorem k5_ {p : Prop} (h : p := by (with_reducible repeat (first | apply Kd.qaA | apply Kd.qaz | apply Kd.qaL)); exact Kd.qaT (Kd.qdt (p := ⟨qoY, 1, none⟩) (Kd.qdt (p := ⟨qoY, 0, none⟩) (Kd.qaT HO_25.out (fun k_ hk => (⟨hk, hk.2⟩ : _ ∧ k_ ≠ qoY))) (fun _ hk => hk.2) (.int .i64 ((qab (qar qaX qnj) qnk).f0))) (fun _ hk => hk.2) (.int .i64 ((qab (qar qaX qnj) qnk).f1))) (fun _ hk => ⟨hk.1.1.1, ⟨hk.1.1.2.1, ⟨hk.1.1.2.2, hk.1.2⟩⟩⟩)) : p := h
theorem k6_ {p : Prop} (h : p := by (with_reducible repeat (first | apply Kd.qaA | apply Kd.qaz | apply Kd.qaL)); exact Kd.qaT (Kd.qdt (p := ⟨qcy, 1, none⟩) (Kd.qdt (p := ⟨qcy, 0, none⟩) (Kd.qaT qds.out (fun k_ hk => (⟨hk, hk.2⟩ : _ ∧ k_ ≠ qcy))) (fun _ hk => hk.2) (.int .i64 ((qab (qar t105 qa3) qbo).f0))) (fun _ hk => hk.2) (.int .i64 ((qab (qar t105 qa3) qbo).f1))) (fun _ hk => ⟨hk.1.1.1, ⟨hk.1.1.2.1, ⟨hk.1.1.2.2, hk.1.2⟩⟩⟩)) : p := h
theorem k7_ {p : Prop} (h : p := by (with_reducible repeat (first | apply Kd.qaA | apply Kd.qaz | apply Kd.qaL)); exact Kd.qaT (Kd.qdt (p := ⟨qcy, 1, none⟩) (Kd.qdt (p := ⟨qcy, 0, none⟩) (Kd.qaT qcD.out (fun k_ hk => (⟨hk, hk.2⟩ : _ ∧ k_ ≠ qcy))) (fun _ hk => hk.2) (.int .i64 ((qab (qar t105 qa3) qbo).f0))) (fun _ hk => hk.2) (.int .i64 ((qab (qar t105 qa3) qbo).f1))) (fun _ hk => ⟨hk.1.1.1, ⟨hk.1.1.2.1, ⟨hk.1.1.2.2, hk.1.2⟩⟩⟩)) : p := h
theorem k8_ {p : Prop} (h : p := by (with_reducible repeat (first | refine qag ?_ _ | refine qae ?_ | refine qaf ?_ _)); refine qaQ (cs := #[.int .i64 ((qab (qar qaX qnj) qnk).f0), .int .i64 0]) ?_ 1 _ rfl; (with_reducible repeat (first | refine qag ?_ _ | refine qae ?_ | refine qaf ?_ _)); refine qaQ (cs := #[.int .i64 0, .int .i64 0]) ?_ 0 _ rfl; apply_rules only [BK173.out, qag, qae, qaf]) : p := h
theorem k9_ {p : Prop} (h : p := by (with_reducible repeat (first | refine qag ?_ _ | refine qae ?_ | refine qaf ?_ _)); refine qaQ (cs := #[.int .i64 ((qab (qar t105 qa3) qbo).f0), .int .i64 0]) ?_ 1 _ rfl; (with_reducible repeat (first | refine qag ?_ _ | refine qae ?_ | refine qaf ?_ _)); refine qaQ (cs := #[.int .i64 0, .int .i64 0]) ?_ 0 _ rfl; apply_rules only [qfB.out, qag, qae, qaf]) : p := h
theorem k10_ {p : Prop} (h : p := by (with_reducible repeat (first | refine qag ?_ _ | refine qae ?_ | refine qaf ?_ _)); refine qaQ (cs := #[.string (qgL ByteArray.empty qaF 0), .int .i64 0]) ?_ 1 _ rfl; (with_reducible repeat (first | refine qag ?_ _ | refine qae ?_ | refine qaf ?_ _)); refine qaQ (cs := #[.string (⟨#[]⟩ : ByteArray), .int .i64 0]) ?_ 0 _ rfl; apply_rules only [qf3.out, qag, qae, qaf]) : p := h
theorem k11_ {p : Prop} (h : p := by (with_reducible repeat (first | refine qag ?_ _ | refine qae ?_ | refine qaf ?_ _)); refine qaQ (cs := #[.string (⟨#[]⟩ : ByteArray), .int .i64 0]) ?_ 1 _ rfl; (with_reducible repeat (first | refine qag ?_ _ | refine qae ?_ | refine qaf ?_ _)); refine qaQ (cs := #[.string (⟨#[]⟩ : ByteArray), .int .i64 0]) ?_ 0 _ rfl; apply_rules only [qai.out, qag, qae, qaf]) : p := h
theorem k12_ {p : Prop} (h : p := by (with_reducible repeat (first | refine qag ?_ _ | refine qae ?_ | refine qaf ?_ _)); refine qaQ (cs := #[.string t127, .int .i64 qdE]) ?_ 1 _ rfl; (with_reducible repeat (first | refine qag ?_ _ | refine qae ?_ | refine qaf ?_ _)); refine qaQ (cs := #[.string qc6, .int .i64 qdE]) ?_ 0 _ rfl; apply_rules only [qbT.out, qag, qae, qaf]) : p := h
theorem k13_ {p : Prop} (h : p := by (with_reducible repeat (first | refine qag ?_ _ | refine qae ?_ | refine qaf ?_ _)); refine qaQ (cs := #[.int .i64 ((qab l0 qfD).f0), .int .i64 0]) ?_ 1 _ rfl; (with_reducible repeat (first | refine qag ?_ _ | refine qae ?_ | refine qaf ?_ _)); refine qaQ (cs := #[.int .i64 0, .int .i64 0]) ?_ 0 _ rfl; apply_rules only [qdr.out, qag, qae, qaf]) : p := h
theorem k14_ {p : Prop} (h : p := by (with_reducible repeat (first | refine qag ?_ _ | refine qae ?_ | refine qaf ?_ _)); refine qaQ (cs := #[.int .i64 ((qab l1 qb3).f0), .int .i64 0]) ?_ 1 _ rfl; (with_reducible repeat (first | refine qag ?_ _ | refine qae ?_ | refine qaf ?_ _)); refine qaQ (cs := #[.int .i64 0, .int .i64 0]) ?_ 0 _ rfl; apply_rules only [qb7.out, qag, qae, qaf]) : p := h
theorem k15_ {p : Prop} (h : p := by (with_reducible repeat (first | refine qag ?_ _ | refine qae ?_ | refine qaf ?_ _)); refine qaQ (cs := #[.int .i64 ((qab l1 qbD).f0), .int .i64 0]) ?_ 1 _ rfl; (with_reducible repeat (first | refine qag ?_ _ | refine qae ?_ | refine qaf ?_ _)); refine qaQ (cs := #[.int .i64 0, .int .i64 0]) ?_ 0 _ rfl; apply_rules only [qbS.out, qag, qae, qaf]) : p := h
theorem k16_ {p : Prop} (h : p := by (with_reducible repeat (first | refine qag ?_ _ | refine qae ?_ | refine qaf ?_ _)); refine qaQ (cs := #[.string qco, .int .i64 0]) ?_ 1 _ rfl; (with_reducible repeat (first | refine qag ?_ _ | refine qae ?_ | refine qaf ?_ _)); refine qaQ (cs := #[.string (⟨#[]⟩ : ByteArray), .int .i64 0]) ?_ 0 _ rfl; apply_rules only [qb7.out, qag, qae, qaf]) : p := h
theorem k17_ {p : Prop} (h : p := by (with_reducible repeat (first | refine qag ?_ _ | refine qae ?_ | refine qaf ?_ _)); refine qaQ (cs := #[.string qaF, .int .i64 0]) ?_ 1 _ rfl; (with_reducible repeat (first | refine qag ?_ _ | refine qae ?_ | refine qaf ?_ _)); refine qaQ (cs := #[.string (⟨#[]⟩ : ByteArray), .int .i64 0]) ?_ 0 _ rfl; apply_rules only [qai.out, qag, qae, qaf]) : p := h
theorem k18_ {p : Prop} (h : p := by (with_reducible repeat (first | refine qag ?_ _ | refine qae ?_ | refine qaf ?_ _)); refine qaQ (cs := #[.string qpC, .int .i64 0]) ?_ 1 _ rfl; (with_reducible repeat (first | refine qag ?_ _ | refine qae ?_ | refine qaf ?_ _)); refine qaQ (cs := #[.string (⟨#[]⟩ : ByteArray), .int .i64 0]) ?_ 0 _ rfl; apply_rules only [qei.out, qag, qae, qaf]) : p := h
theorem k19_ {p : Prop} (h : p := by (with_reducible repeat (first | refine qag ?_ _ | refine qae ?_ | refine qaf ?_ _)); refine qaQ (cs := #[.string qrY, .int .i64 0]) ?_ 1 _ rfl; (with_reducible repeat (first | refine qag ?_ _ | refine qae ?_ | refine qaf ?_ _)); refine qaQ (cs := #[.string (⟨#[]⟩ : ByteArray), .int .i64 0]) ?_ 0 _ rfl; apply_rules only [qei.out, qag, qae, qaf]) : p := h
theorem k20_ {p : Prop} (h : p := by (with_reducible repeat (first | refine qag ?_ _ | refine qae ?_ | refine qaf ?_ _)); refine qaQ (cs := #[.string qse, .int .i64 0]) ?_ 1 _ rfl; (with_reducible repeat (first | refine qag ?_ _ | refine qae ?_ | refine qaf ?_ _)); refine qaQ (cs := #[.string (⟨#[]⟩ : ByteArray), .int .i64 0]) ?_ 0 _ rfl; apply_rules only [qhd.out, qag, qae, qaf]) : p := h
theorem k21_ {p : Prop} (h : p := by (with_reducible repeat (first | refine qag ?_ _ | refine qae ?_ | refine qaf ?_ _)); refine qaQ (cs := #[.string a0, .int .i64 0]) ?_ 1 _ rfl; (with_reducible repeat (first | refine qag ?_ _ | refine qae ?_ | refine qaf ?_ _)); refine qaQ (cs := #[.string (⟨#[]⟩ : ByteArray), .int .i64 0]) ?_ 0 _ rfl; apply_rules only [qai.out, qag, qae, qaf]) : p := h
theorem k22_ {p : Prop} (h : p := by (with_reducible repeat (first | refine qag ?_ _ | refine qae ?_ | refine qaf ?_ _)); refine qaQ (cs := #[.int .i64 qe0, .int .i64 0]) ?_ 1 _ rfl; (with_reducible repeat (first | refine qag ?_ _ | refine qae ?_ | refine qaf ?_ _)); refine qaQ (cs := #[.int .i64 0, .int .i64 0]) ?_ 0 _ rfl; apply_rules only [qai.out, qag, qae, qaf]) : p := h
theorem k23_ {p : Prop} (h : p := by repeat (first | exact (by repeat (first | (with_reducible exact qpS.out) | (with_reducible refine Kd.qbV ?_ _) | (with_reducible refine Kd.qbW ?_ _) | (with_reducible refine Kd.qcs ?_) | exact qpS.out)) | (with_reducible refine Kd.qbV ?_ _) | (with_reducible refine Kd.qbW ?_ _) | (with_reducible refine Kd.qcs ?_))) : p := h
theorem k24_ {p : Prop} (h : p := by repeat (first | exact (by repeat (first | (with_reducible exact qeJ.out) | (with_reducible refine Kd.qbV ?_ _) | (with_reducible refine Kd.qbW ?_ _) | (with_reducible refine Kd.qcs ?_) | exact qeJ.out)) | (with_reducible refine Kd.qbV ?_ _) | (with_reducible refine Kd.qbW ?_ _) | (with_reducible refine Kd.qcs ?_))) : p := h
theorem k25_ {p : Prop} (h : p := by (with_reducible repeat (first | apply Kd.qaA | apply Kd.qaz | apply Kd.qaL)); exact (Kd.qaT (Kd.qdt (p := ⟨qeL, 1, none⟩) (Kd.qdt (p := ⟨qeL, 0, none⟩) (Kd.qgr qhH.out qf3.out (by decide)) (fun _ hk => hk.2) (.string (qgL ByteArray.empty qaF 0))) (fun _ hk => hk.2) (.int .i64 t107)) (fun _ h_ => h_.1))) : p := h
theorem k26_ {p : Prop} (h : p := by (with_reducible repeat (first | refine qag ?_ _ | refine qae ?_ | refine qaf ?_ _)); refine qa4 ?_ qfH.out _; (with_reducible repeat (first | refine qag ?_ _ | refine qae ?_ | refine qaf ?_ _)); refine qa4 ?_ qfH.out _; apply_rules only [qai.out, qag, qae, qaf]) : p := h
theorem k27_ {p : Prop} (h : p := by (with_reducible repeat (first | refine qag ?_ _ | refine qae ?_ | refine qaf ?_ _)); refine qa4 ?_ qes.out _; (with_reducible repeat (first | refine qag ?_ _ | refine qae ?_ | refine qaf ?_ _)); refine qa4 ?_ qes.out _; apply_rules only [qai.out, qag, qae, qaf]) : p := h
theorem k28_ {p : Prop} (h : p := by (with_reducible repeat (first | refine qag ?_ _ | refine qae ?_ | refine qaf ?_ _)); refine qa4 ?_ qcG.out _; (with_reducible repeat (first | refine qag ?_ _ | refine qae ?_ | refine qaf ?_ _)); refine qa4 ?_ qcG.out _; apply_rules only [qai.out, qag, qae, qaf]) : p := h
theorem k29_ {p : Prop} (h : p := by (with_reducible repeat (first | refine qag ?_ _ | refine qae ?_ | refine qaf ?_ _)); refine qa4 ?_ qdA.out _; (with_reducible repeat (first | refine qag ?_ _ | refine qae ?_ | refine qaf ?_ _)); refine qa4 ?_ qdA.out _; apply_rules only [qai.out, qag, qae, qaf]) : p := h
theorem k30_ {p : Prop} (h : p := by (with_reducible repeat (first | refine qag ?_ _ | refine qae ?_ | refine qaf ?_ _)); refine qa4 ?_ qcO.out _; (with_reducible repeat (first | refine qag ?_ _ | refine qae ?_ | refine qaf ?_ _)); refine qa4 ?_ qcO.out _; apply_rules only [qai.out, qag, qae, qaf]) : p := h
theorem k31_ {p : Prop} (h : p := by (with_reducible repeat (first | refine qag ?_ _ | refine qae ?_ | refine qaf ?_ _)); refine qa4 ?_ qss.out _; (with_reducible repeat (first | refine qag ?_ _ | refine qae ?_ | refine qaf ?_ _)); refine qa4 ?_ qss.out _; apply_rules only [qai.out, qag, qae, qaf]) : p := h
theorem k32_ {p : Prop} (h : p := by (with_reducible repeat (first | refine qag ?_ _ | refine qae ?_ | refine qaf ?_ _)); refine qa4 ?_ qst.out _; (with_reducible repeat (first | refine qag ?_ _ | refine qae ?_ | refine qaf ?_ _)); refine qa4 ?_ qst.out _; apply_rules only [qai.out, qag, qae, qaf]) : p := h
theorem k33_ {p : Prop} (h : p := by (with_reducible repeat (first | refine qag ?_ _ | refine qae ?_ | refine qaf ?_ _)); refine qa4 ?_ qsu.out _; (with_reducible repeat (first | refine qag ?_ _ | refine qae ?_ | refine qaf ?_ _)); refine qa4 ?_ qsu.out _; apply_rules only [qdr.out, qag, qae, qaf]) : p := h
theorem k34_ {p : Prop} (h : p := by (with_reducible repeat (first | refine qag ?_ _ | refine qae ?_ | refine qaf ?_ _)); refine qa4 ?_ qsv.out _; (with_reducible repeat (first | refine qag ?_ _ | refine qae ?_ | refine qaf ?_ _)); refine qa4 ?_ qsv.out _; apply_rules only [qdr.out, qag, qae, qaf]) : p := h
theorem k35_ {p : Prop} (h : p := by (with_reducible repeat (first | refine qag ?_ _ | refine qae ?_ | refine qaf ?_ _)); refine qa4 ?_ qhJ.out _; (with_reducible repeat (first | refine qag ?_ _ | refine qae ?_ | refine qaf ?_ _)); refine qa4 ?_ qhJ.out _; apply_rules only [qaP.out, qag, qae, qaf]) : p := h
theorem k36_ {p : Prop} (h : p := by (with_reducible repeat (first | refine qag ?_ _ | refine qae ?_ | refine qaf ?_ _)); refine qa4 ?_ qhK.out _; (with_reducible repeat (first | refine qag ?_ _ | refine qae ?_ | refine qaf ?_ _)); refine qa4 ?_ qhK.out _; apply_rules only [qaP.out, qag, qae, qaf]) : p := h
theorem k37_ {p : Prop} (h : p := by (with_reducible repeat (first | refine qag ?_ _ | refine qae ?_ | refine qaf ?_ _)); refine qa4 ?_ qhL.out _; (with_reducible repeat (first | refine qag ?_ _ | refine qae ?_ | refine qaf ?_ _)); refine qa4 ?_ qhL.out _; apply_rules only [qaP.out, qag, qae, qaf]) : p := h
theorem k38_ {p : Prop} (h : p := by (with_reducible repeat (first | refine qag ?_ _ | refine qae ?_ | refine qaf ?_ _)); refine qa4 ?_ qsw.out _; (with_reducible repeat (first | refine qag ?_ _ | refine qae ?_ | refine qaf ?_ _)); refine qa4 ?_ qsw.out _; apply_rules only [BK143.out, qag, qae, qaf]) : p := h
theorem k39_ {p : Prop} (h : p := by (with_reducible repeat (first | refine qag ?_ _ | refine qae ?_ | refine qaf ?_ _)); refine qa4 ?_ qsx.out _; (with_reducible repeat (first | refine qag ?_ _ | refine qae ?_ | refine qaf ?_ _)); refine qa4 ?_ qsx.out _; apply_rules only [BK143.out, qag, qae, qaf]) : p := h
theorem k40_ {p : Prop} (h : p := by (with_reducible repeat (first | refine qag ?_ _ | refine qae ?_ | refine qaf ?_ _)); refine qa4 ?_ qhO.out _; (with_reducible repeat (first | refine qag ?_ _ | refine qae ?_ | refine qaf ?_ _)); refine qa4 ?_ qhO.out _; apply_rules only [qa6.out, qag, qae, qaf]) : p := h
theorem k41_ {p : Prop} (h : p := by (with_reducible repeat (first | refine qag ?_ _ | refine qae ?_ | refine qaf ?_ _)); refine qa4 ?_ qhP.out _; (with_reducible repeat (first | refine qag ?_ _ | refine qae ?_ | refine qaf ?_ _)); refine qa4 ?_ qhP.out _; apply_rules only [qa6.out, qag, qae, qaf]) : p := h
theorem k42_ {p : Prop} (h : p := by (with_reducible repeat (first | refine qag ?_ _ | refine qae ?_ | refine qaf ?_ _)); refine qa4 ?_ qhQ.out _; (with_reducible repeat (first | refine qag ?_ _ | refine qae ?_ | refine qaf ?_ _)); refine qa4 ?_ qhQ.out _; apply_rules only [qa6.out, qag, qae, qaf]) : p := h
theorem k43_ {p : Prop} (h : p := by (with_reducible repeat (first | refine qag ?_ _ | refine qae ?_ | refine qaf ?_ _)); refine qa4 ?_ qsy.out _; (with_reducible repeat (first | refine qag ?_ _ | refine qae ?_ | refine qaf ?_ _)); refine qa4 ?_ qsy.out _; apply_rules only [BK148.out, qag, qae, qaf]) : p := h
theorem k44_ {p : Prop} (h : p := by (with_reducible repeat (first | refine qag ?_ _ | refine qae ?_ | refine qaf ?_ _)); refine qa4 ?_ qsz.out _; (with_reducible repeat (first | refine qag ?_ _ | refine qae ?_ | refine qaf ?_ _)); refine qa4 ?_ qsz.out _; apply_rules only [BK148.out, qag, qae, qaf]) : p := h
theorem k45_ {p : Prop} (h : p := by (with_reducible repeat (first | refine qag ?_ _ | refine qae ?_ | refine qaf ?_ _)); refine qa4 ?_ qhS.out _; (with_reducible repeat (first | refine qag ?_ _ | refine qae ?_ | refine qaf ?_ _)); refine qa4 ?_ qhS.out _; apply_rules only [qa9.out, qag, qae, qaf]) : p := h
theorem k46_ {p : Prop} (h : p := by (with_reducible repeat (first | refine qag ?_ _ | refine qae ?_ | refine qaf ?_ _)); refine qa4 ?_ qhT.out _; (with_reducible repeat (first | refine qag ?_ _ | refine qae ?_ | refine qaf ?_ _)); refine qa4 ?_ qhT.out _; apply_rules only [qa9.out, qag, qae, qaf]) : p := h
theorem k47_ {p : Prop} (h : p := by (with_reducible repeat (first | refine qag ?_ _ | refine qae ?_ | refine qaf ?_ _)); refine qa4 ?_ qhU.out _; (with_reducible repeat (first | refine qag ?_ _ | refine qae ?_ | refine qaf ?_ _)); refine qa4 ?_ qhU.out _; apply_rules only [qa9.out, qag, qae, qaf]) : p := h
theorem k48_ {p : Prop} (h : p := by (with_reducible repeat (first | refine qag ?_ _ | refine qae ?_ | refine qaf ?_ _)); refine qa4 ?_ qhW.out _; (with_reducible repeat (first | refine qag ?_ _ | refine qae ?_ | refine qaf ?_ _)); refine qa4 ?_ qhW.out _; apply_rules only [qei.out, qag, qae, qaf]) : p := h
theorem k49_ {p : Prop} (h : p := by (with_reducible repeat (first | apply Kd.qaA | apply Kd.qaz | apply Kd.qaL)); exact (Kd.qaT (Kd.qdt (p := ⟨qaR, 1, none⟩) (Kd.qdt (p := ⟨qaR, 0, none⟩) (Kd.qaT qf4.out (fun k_ hk => (⟨hk, hk.2⟩ : _ ∧ k_ ≠ qaR))) (fun _ hk => hk.2) (.int .i64 qe0)) (fun _ hk => hk.2) (.int .i64 qi8)) (fun _ h_ => h_.1))) : p := h
theorem k50_ {p : Prop} (h : p := by first | exact Kd.ql9 (Kd.qsK qhH.out qf3.out (by decide)) | (rw [qg2]; exact Kd.ql9 (Kd.qsK qhH.out qf3.out (by decide))) | (show (Addr.add _ _).block ≠ _; rw [qg2]; exact Kd.ql9 (Kd.qsK qhH.out qf3.out (by decide))) | (dsimp only; exact Kd.ql9 (Kd.qsK qhH.out qf3.out (by decide)))) : p := h
theorem k51_ {p : Prop} (h : p := by (with_reducible repeat (first | apply Kd.qns | apply Kd.qnt | apply Kd.qqC)); exact (Kd.qk9 (Kd.qrv (p := ⟨qko, 1, none⟩) (Kd.qrv (p := ⟨qko, 0, none⟩) (Kd.qnu qfC.out qei.out (by decide)) (fun _ hk => hk.2) (.string qpC)) (fun _ hk => hk.2) (.int .i64 qpI)) (fun _ h_ => h_.1))) : p := h
theorem k52_ {p : Prop} (h : p := by (with_reducible repeat (first | apply Kd.qns | apply Kd.qnt | apply Kd.qqC)); exact (Kd.qk9 (Kd.qrv (p := ⟨qmu, 1, none⟩) (Kd.qrv (p := ⟨qmu, 0, none⟩) (Kd.qnu qfC.out qhd.out (by decide)) (fun _ hk => hk.2) (.string qse)) (fun _ hk => hk.2) (.int .i64 t201)) (fun _ h_ => h_.1))) : p := h
theorem k53_ {p : Prop} (h : p := by (with_reducible repeat (first | apply Kd.qaA | apply Kd.qaz | apply Kd.qaL)); exact (Kd.qaT (Kd.qdt (p := ⟨qeW, 1, none⟩) (Kd.qdt (p := ⟨qeW, 0, none⟩) (Kd.qgr qda.out qbT.out (by decide)) (fun _ hk => hk.2) (.string t127)) (fun _ hk => hk.2) (.int .i64 qf2)) (fun _ h_ => h_.1))) : p := h
theorem qkG {p : Prop} (h : p := by first | (rw [hy_]; with_reducible exact H) | (have H2_ := (Option.bind_some _ _).symm.trans H; rw [hy_]; with_reducible exact H2_) | (have H2_ := (Option.bind_some _ _).symm.trans H; with_reducible exact H2_) | with_reducible exact H | (rw [hy_]; exact H) | exact H) : p := h
theorem qm6 {p : Prop} (h : p := by repeat (first | (with_reducible first | exact HI0.out | apply qaE.alloc | apply qaE.drewN | apply qaE.drew | apply qaE.qua | apply qaE.qub | refine qaE.far ?_ qfX.out _ | refine qaE.far ?_ qhI.out _) | exact HI0.out)) : p := h
theorem qg0 {p : Prop} (h : p := by repeat (first | (with_reducible first | exact HI0.out | apply qaE.alloc | apply qaE.drewN | apply qaE.drew | apply qaE.qua | apply qaE.qub | refine qaE.far ?_ qfX.out _ | refine qaE.far ?_ qhf.out _) | exact HI0.out)) : p := h
theorem qqq {p : Prop} (h : p := by repeat (first | (with_reducible first | exact HB.out | apply qau | apply qao | apply qap | refine qaw ?_ (qaE.ge HI0.out) | refine qaw ?_ qcg.out | refine qaw ?_ qpN.out) | exact HB.out)) : p := h
theorem qia {p : Prop} (h : p := by repeat (first | (with_reducible first | exact HB.out | apply qau | apply qao | apply qap | refine qaw ?_ (qaE.ge HI0.out) | refine qaw ?_ qcg.out | refine qaw ?_ GE114.out) | exact HB.out)) : p := h
theorem qoG {p : Prop} (h : p := by repeat (first | (with_reducible first | exact HK.out | apply qak.set_ | apply qg8 | apply qee | apply qg7 | refine qin ?_ qcB.out _ | refine qin ?_ qro.out _) | exact HK.out)) : p := h
theorem qha {p : Prop} (h : p := by repeat (first | (with_reducible first | exact HK.out | apply qak.set_ | apply qg8 | apply qee | apply qg7 | refine qin ?_ qcB.out _ | refine qin ?_ GW114.out _) | exact HK.out)) : p := h
theorem qrP {p : Prop} (h : p := by repeat (first | (with_reducible first | exact HI0.out | apply qaE.alloc | apply qaE.drewN | apply qaE.drew | apply qaE.qua | apply qaE.qub | refine qaE.far ?_ qfX.out _) | exact HI0.out)) : p := h
theorem qtV {p : Prop} (h : p := by repeat (first | (with_reducible first | exact HI0.out | apply qaE.alloc | apply qaE.drewN | apply qaE.drew | apply qaE.qua | apply qaE.qub | refine qaE.far ?_ qjH.out _) | exact HI0.out)) : p := h
theorem k63_ {p : Prop} (h : p := by repeat (first | (with_reducible first | exact HB.out | apply qau | apply qao | apply qap | refine qaw ?_ (qaE.ge HI0.out) | refine qaw ?_ qcg.out) | exact HB.out)) : p := h
theorem qtW {p : Prop} (h : p := by repeat (first | (with_reducible first | exact HB.out | apply qau | apply qao | apply qap | refine qaw ?_ (qaE.ge HI0.out) | refine qaw ?_ qmp.out) | exact HB.out)) : p := h
theorem k65_ {p : Prop} (h : p := by repeat (first | (with_reducible exact qpS.out) | (with_reducible refine Kd.qbV ?_ _) | (with_reducible refine Kd.qbW ?_ _) | (with_reducible refine Kd.qcs ?_) | exact qpS.out)) : p := h
theorem k66_ {p : Prop} (h : p := by repeat (first | (with_reducible exact qeJ.out) | (with_reducible refine Kd.qbV ?_ _) | (with_reducible refine Kd.qbW ?_ _) | (with_reducible refine Kd.qcs ?_) | exact qeJ.out)) : p := h
theorem qrQ {p : Prop} (h : p := by repeat (first | (with_reducible first | exact HK.out | apply qak.set_ | apply qg8 | apply qee | apply qg7 | refine qin ?_ qcB.out _) | exact HK.out)) : p := h
theorem qtX {p : Prop} (h : p := by repeat (first | (with_reducible first | exact HK.out | apply qak.set_ | apply qg8 | apply qee | apply qg7 | refine qin ?_ qnl.out _) | exact HK.out)) : p := h
theorem qdO {p : Prop} (h : p := by repeat (first | (with_reducible first | exact HB.out | apply qau | apply qao | apply qap | refine qaw ?_ (qaE.ge HI0.out)) | exact HB.out)) : p := h
theorem k70_ {p : Prop} (h : p := by repeat (first | exact (Kd.qer HR0.out HB.out) | (with_reducible refine Kd.qbV ?_ _) | (with_reducible refine Kd.qbW ?_ _) | (with_reducible refine Kd.qcs ?_))) : p := h
theorem k71_ {p : Prop} (h : p := by repeat (first | exact (Kd.qer HR1.out HB.out) | (with_reducible refine Kd.qbV ?_ _) | (with_reducible refine Kd.qbW ?_ _) | (with_reducible refine Kd.qcs ?_))) : p := h
theorem k72_ {p : Prop} (h : p := by repeat (first | exact (Kd.qer HR2.out HB.out) | (with_reducible refine Kd.qbV ?_ _) | (with_reducible refine Kd.qbW ?_ _) | (with_reducible refine Kd.qcs ?_))) : p := h
theorem k73_ {p : Prop} (h : p := by repeat (first | exact (Kd.R_reads' qda.out).2.2 | (with_reducible refine Kd.qbV ?_ _) | (with_reducible refine Kd.qbW ?_ _) | (with_reducible refine Kd.qcs ?_))) : p := h
theorem k74_ {p : Prop} (h : p := by repeat (first | exact (Kd.R_reads' qrr.out).2.2 | (with_reducible refine Kd.qbV ?_ _) | (with_reducible refine Kd.qbW ?_ _) | (with_reducible refine Kd.qcs ?_))) : p := h
theorem k75_ {p : Prop} (h : p := by repeat (first | exact (Kd.R_reads' qcD.out).2.2 | (with_reducible refine Kd.qbV ?_ _) | (with_reducible refine Kd.qbW ?_ _) | (with_reducible refine Kd.qcs ?_))) : p := h
theorem k76_ {p : Prop} (h : p := by repeat (first | exact (Kd.R_reads' HO_25.out).2.2 | (with_reducible refine Kd.qbV ?_ _) | (with_reducible refine Kd.qbW ?_ _) | (with_reducible refine Kd.qcs ?_))) : p := h
theorem qcR {p : Prop} (h : p := by repeat (first | (with_reducible first | exact HI0.out | apply qaE.alloc | apply qaE.drewN | apply qaE.drew | apply qaE.qua | apply qaE.qub) | exact HI0.out)) : p := h
theorem k78_ {p : Prop} (h : p := by repeat (first | exact qsn.out | (with_reducible refine Kd.qbV ?_ _) | (with_reducible refine Kd.qbW ?_ _) | (with_reducible refine Kd.qcs ?_))) : p := h
theorem k79_ {p : Prop} (h : p := by repeat (first | exact qso.out | (with_reducible refine Kd.qbV ?_ _) | (with_reducible refine Kd.qbW ?_ _) | (with_reducible refine Kd.qcs ?_))) : p := h
theorem k80_ {p : Prop} (h : p := by repeat (first | exact HR0.out | (with_reducible refine Kd.qbV ?_ _) | (with_reducible refine Kd.qbW ?_ _) | (with_reducible refine Kd.qcs ?_))) : p := h
theorem qcW {p : Prop} (h : p := by repeat (first | (with_reducible first | exact HK.out | apply qak.set_ | apply qg8 | apply qee | apply qg7) | exact HK.out)) : p := h
theorem qsa {p : Prop} (h : p := by first | exact Kd.qkl _ _ _ _ _ | exact Kd.N_nil _ _ _ _ _ | exact Kd.V_nil _ _ _ _ _ | exact Kd.Q_nil _ _ _ _ _ | exact Kd.S_nil _ _ _ _ _) : p := h
theorem k83_ {p : Prop} (h : p := by first | exact Kd.S_nil _ _ _ _ _ | exact Kd.N_nil _ _ _ _ _ | exact Kd.V_nil _ _ _ _ _ | exact Kd.Q_nil _ _ _ _ _ | exact Kd.qkl _ _ _ _ _) : p := h
theorem qbK {p : Prop} (h : p := by (try simp only [List.map_toArray, List.map_cons, List.map_nil]); first | done | rfl | (simp only [List.length_drop, List.length_take]; rfl)) : p := h
theorem k85_ {p : Prop} (h : p := by (with_reducible repeat (first | apply Kd.qaA | apply Kd.qaz | apply Kd.qaL)); exact Kd.qaT qsk.out (fun _ hk => trivial)) : p := h
theorem k86_ {p : Prop} (h : p := by apply_rules only [HB.out, qau, qao, qap, qaw, qcg.out, qgT.out, GE143.out, GE148.out, GE173.out]) : p := h
theorem k87_ {p : Prop} (h : p := by apply_rules only [HB.out, qau, qao, qap, qaw, qcg.out, qgT.out, GE143.out, GE148.out, qpO.out]) : p := h
theorem k88_ {p : Prop} (h : p := by apply_rules only [HB.out, qau, qao, qap, qaw, qhe.out, qhz.out, qjc.out, qpO.out, qsi.out]) : p := h
theorem k89_ {p : Prop} (h : p := by apply_rules only [HB.out, qau, qao, qap, qaw, qcg.out, qgT.out, GE143.out, GE148.out]) : p := h
theorem k90_ {p : Prop} (h : p := by apply_rules only [HB.out, qau, qao, qap, qaw, qhe.out, qhz.out, qjc.out, GE175.out]) : p := h
theorem qpF {p : Prop} (h : p := by apply_rules only [HB.out, qau, qao, qap, qaw, qhe.out, qhz.out, qjc.out, qpO.out]) : p := h
theorem k92_ {p : Prop} (h : p := by apply_rules only [HB.out, qau, qao, qap, qaw, qcg.out, qgT.out, GE143.out]) : p := h
theorem qf6 {p : Prop} (h : p := by apply_rules only [HB.out, qau, qao, qap, qaw, qhe.out, qhz.out, qjc.out]) : p := h
theorem k94_ {p : Prop} (h : p := by (with_reducible repeat (first | apply Kd.qaA | apply Kd.qaz | apply Kd.qaL)); exact qf4.out) : p := h
theorem k95_ {p : Prop} (h : p := by apply_rules only [HB.out, qau, qao, qap, qaw, qcg.out, qgT.out]) : p := h
theorem qpG {p : Prop} (h : p := by apply_rules only [HB.out, qau, qao, qap, qaw, qcg.out, qmp.out]) : p := h
theorem qpH {p : Prop} (h : p := by apply_rules only [HB.out, qau, qao, qap, qaw, qcg.out, qpN.out]) : p := h
theorem k98_ {p : Prop} (h : p := by apply_rules only [HB.out, qau, qao, qap, qaw, qcg.out, qmq.out]) : p := h
theorem qrR {p : Prop} (h : p := by simp only [qjw, Act.put, List.setIfInBounds_toArray, List.set_cons_zero, List.set_cons_succ]) : p := h
theorem qbx {p : Prop} (h : p := by first | rfl | (simp [qe6, qe7] <;> rfl) | (simp [*, qe6, qe7] <;> rfl)) : p := h
theorem qaM {p : Prop} (h : p := by apply_rules only [HB.out, qau, qao, qap, qaw, qcg.out]) : p := h
theorem qrO {p : Prop} (h : p := by apply_rules only [HB.out, qau, qao, qap, qaw, qgT.out]) : p := h
theorem qgN {p : Prop} (h : p := by apply_rules only [HB.out, qau, qao, qap, qaw, qhe.out]) : p := h
theorem qeX {p : Prop} (h : p := by (try simp only [List.map_toArray, List.map_cons, List.map_nil]); first | done | rfl) : p := h
theorem qcw {p : Prop} (h : p := by apply_rules only [HB.out, qau, qao, qap]) : p := h
theorem k106_ {p : Prop} (h : p := by apply_rules only [qcm.out, Kd.qdk, Kd.qdl, Kd.qdy]) : p := h
theorem k107_ {p : Prop} (h : p := by apply_rules only [HO_281.out, Kd.qdk, Kd.qdl, Kd.qdy]) : p := h
theorem k108_ {p : Prop} (h : p := by apply_rules only [qfF.out, Kd.qdk, Kd.qdl, Kd.qdy]) : p := h
theorem qmB {p : Prop} (h : p := by apply_rules only [qcE.out, Kd.qdk, Kd.qdl, Kd.qdy]) : p := h
theorem k110_ {p : Prop} (h : p := by apply_rules only [qpQ.out, Kd.qdk, Kd.qdl, Kd.qdy]) : p := h
theorem qpc {p : Prop} (h : p := by apply_rules only [qdQ.out, Kd.qdk, Kd.qdl, Kd.qdy]) : p := h
theorem qos {p : Prop} (h : p := by apply_rules only [qfG.out, Kd.qaA, Kd.qaz, Kd.qaL]) : p := h
theorem k113_ {p : Prop} (h : p := by apply_rules only [HO117.out, Kd.qaA, Kd.qaz, Kd.qaL]) : p := h
theorem qks {p : Prop} (h : p := by apply_rules only [qd6.out, Kd.qaA, Kd.qaz, Kd.qaL]) : p := h
theorem k115_ {p : Prop} (h : p := by apply_rules only [HO121.out, Kd.qaA, Kd.qaz, Kd.qaL]) : p := h
theorem qkt {p : Prop} (h : p := by apply_rules only [qda.out, Kd.qaA, Kd.qaz, Kd.qaL]) : p := h
theorem k117_ {p : Prop} (h : p := by apply_rules only [HO125.out, Kd.qaA, Kd.qaz, Kd.qaL]) : p := h
theorem qpd {p : Prop} (h : p := by apply_rules only [qec.out, Kd.qaA, Kd.qaz, Kd.qaL]) : p := h
theorem qku {p : Prop} (h : p := by apply_rules only [qfC.out, Kd.qns, Kd.qnt, Kd.qqC]) : p := h
theorem qot {p : Prop} (h : p := by apply_rules only [qds.out, Kd.qaA, Kd.qaz, Kd.qaL]) : p := h
theorem k121_ {p : Prop} (h : p := by apply_rules only [HO_21.out, Kd.qaA, Kd.qaz, Kd.qaL]) : p := h
theorem qtU {p : Prop} (h : p := by apply_rules only [qcD.out, Kd.qaA, Kd.qaz, Kd.qaL]) : p := h
theorem k123_ {p : Prop} (h : p := by apply_rules only [HO_25.out, Kd.qaA, Kd.qaz, Kd.qaL]) : p := h
theorem qfp {p : Prop} (h : p := by apply_rules only [qf4.out, Kd.qaA, Kd.qaz, Kd.qaL]) : p := h
theorem qch {p : Prop} (h : p := by apply_rules only [qai.out, qag, qae, qaf]) : p := h
theorem k126_ {p : Prop} (h : p := by apply_rules only [qdr.out, qag, qae, qaf]) : p := h
theorem qhB {p : Prop} (h : p := by apply_rules only [qaP.out, qag, qae, qaf]) : p := h
theorem qmC {p : Prop} (h : p := by apply_rules only [qbS.out, qag, qae, qaf]) : p := h
theorem qhm {p : Prop} (h : p := by apply_rules only [qbT.out, qag, qae, qaf]) : p := h
theorem k130_ {p : Prop} (h : p := by apply_rules only [BK143.out, qag, qae, qaf]) : p := h
theorem qg4 {p : Prop} (h : p := by apply_rules only [qa6.out, qag, qae, qaf]) : p := h
theorem k132_ {p : Prop} (h : p := by apply_rules only [BK148.out, qag, qae, qaf]) : p := h
theorem qg5 {p : Prop} (h : p := by apply_rules only [qa9.out, qag, qae, qaf]) : p := h
theorem qdT {p : Prop} (h : p := by repeat (first | exact qd0.refl _ | apply qd0.step)) : p := h
theorem qa8 {p : Prop} (h : p := by first | (with_reducible assumption) | assumption) : p := h
theorem qbg {p : Prop} (h : p := by first | rfl | (simp; done) | (simp [*]; done)) : p := h
theorem qkv {p : Prop} (h : p := by have h_ := GP.out; have h2_ := GQ.out; omega) : p := h
theorem qa0 {p : Prop} (h : p := by first | (go_simp; done) | (go_simp; rfl)) : p := h
theorem qg6 {p : Prop} (h : p := by first | omega | exact Nat.le_refl _) : p := h
theorem qgl {p : Prop} (h : p := by have := HK1.out; omega) : p := h
theorem qbj {w : World} {g : Nat} {a0 : Value} {l : List Value} {T : TypeId} (h : w.heap[g]? = some (.cells (a0 :: l).toArray T (0, 0))) : w.cell? ⟨g, 0, none⟩ = some a0 := by rw [qaO h 0]; rfl
theorem qbm {w : World} {g : Nat} {a0 a1 : Value} {l : List Value} {T : TypeId} (h : w.heap[g]? = some (.cells (a0 :: a1 :: l).toArray T (0, 0))) : w.cell? ⟨g, 1, none⟩ = some a1 := by rw [qaO h 1]; rfl
theorem cez2_ {w : World} {g : Nat} {a0 a1 a2 : Value} {l : List Value} {T : TypeId} (h : w.heap[g]? = some (.cells (a0 :: a1 :: a2 :: l).toArray T (0, 0))) : w.cell? ⟨g, 2, none⟩ = some a2 := by rw [qaO h 2]; rfl
theorem cez3_ {w : World} {g : Nat} {a0 a1 a2 a3 : Value} {l : List Value} {T : TypeId} (h : w.heap[g]? = some (.cells (a0 :: a1 :: a2 :: a3 :: l).toArray T (0, 0))) : w.cell? ⟨g, 3, none⟩ = some a3 := by rw [qaO h 3]; rfl
theorem cez4_ {w : World} {g : Nat} {a0 a1 a2 a3 a4 : Value} {l : List Value} {T : TypeId} (h : w.heap[g]? = some (.cells (a0 :: a1 :: a2 :: a3 :: a4 :: l).toArray T (0, 0))) : w.cell? ⟨g, 4, none⟩ = some a4 := by rw [qaO h 4]; rfl
theorem cez5_ {w : World} {g : Nat} {a0 a1 a2 a3 a4 a5 : Value} {l : List Value} {T : TypeId} (h : w.heap[g]? = some (.cells (a0 :: a1 :: a2 :: a3 :: a4 :: a5 :: l).toArray T (0, 0))) : w.cell? ⟨g, 5, none⟩ = some a5 := by rw [qaO h 5]; rfl
theorem qo0 {w : World} {g : Nat} {a0 : Value} {l : List Value} {T : TypeId} (h : w.heap[g]? = some (.cells (a0 :: l).toArray T (0, 0))) : w.cell? ⟨g, 0, none⟩ = some a0 ∧ w.frozen? ⟨g, 0, none⟩ = false := ⟨qbj h, qaU h 0⟩
theorem qa2 {w : World} {g : Nat} {a0 a1 : Value} {l : List Value} {T : TypeId} (h : w.heap[g]? = some (.cells (a0 :: a1 :: l).toArray T (0, 0))) : w.cell? ⟨g, 0, none⟩ = some a0 ∧ w.cell? ⟨g, 1, none⟩ = some a1 ∧ w.frozen? ⟨g, 0, none⟩ = false ∧ w.frozen? ⟨g, 1, none⟩ = false := ⟨qbj h, qbm h, qaU h 0, qaU h 1⟩
theorem gez3_ {w : World} {g : Nat} {a0 a1 a2 : Value} {l : List Value} {T : TypeId} (h : w.heap[g]? = some (.cells (a0 :: a1 :: a2 :: l).toArray T (0, 0))) : w.cell? ⟨g, 0, none⟩ = some a0 ∧ w.cell? ⟨g, 1, none⟩ = some a1 ∧ w.cell? ⟨g, 2, none⟩ = some a2 ∧ w.frozen? ⟨g, 0, none⟩ = false ∧ w.frozen? ⟨g, 1, none⟩ = false ∧ w.frozen? ⟨g, 2, none⟩ = false := ⟨qbj h, qbm h, cez2_ h, qaU h 0, qaU h 1, qaU h 2⟩
theorem bx_ {P : Program} {ops : Array Oper} {Q : Exit → Act → World → Prop} {rest : List Oper} {a : Act} {o : Oper} {W : World} (N : Nat) {cs : Array Value} {t : TypeId} (hr : (execOp a.eval o).run P W = .ok (.value (.pointer (some ⟨W.heap.size, 0, none⟩))) (W.alloc (.cells cs t (0, 0)))) (h : ∀ g, g = W.heap.size → ∀ w1, w1.heap[g]? = some (.cells cs t (0, 0)) → Below W.heap.size W w1 → wpList P ops Q rest (a.put o.dst (.pointer (some ⟨g, 0, none⟩))) w1) (hg : o.guard = none := by rfl) (hd : o.dst = some N := by rfl) : wpList P ops Q (o :: rest) a W := qlf hg hd hr h
theorem gl_ {P : Program} {ops : Array Oper} {Q : Exit → Act → World → Prop} {rest : List Oper} {a : Act} {oi : Oper} {w : World} (N : Nat) {f : FuncId} {fn : Func} {os : Array Operand} {ts : Array TypeId} (hf : P.funcs[f]? = some fn) (args : Array Value) (hop : oi.op = .call { callee := .value (.func f), args := os, argTypes := ts }) (hargs : os.map a.eval = args) (h : Calls P f args w fun e w' => ∃ v, e = .returned v ∧ wpList P ops Q rest (a.put (some N) v) w') (hd : oi.dst = some N := by rfl) (hg : oi.guard = none := by rfl) (hn : (fn.name == "runtime.NumGoroutine") = false := by kernel_rfl) (hb : fn.body.isSome = true := by rfl) : wpList P ops Q (oi :: rest) a w := goesL_ (some N) hd hg hf hn hb args hop hargs h
theorem ak_ {p : Prop} (h : p) : qah p := ⟨h⟩
end Go.Proofs.YtbnmajedmajfoaaGreatDoor.P
