/- What functions of the program answer. Proved in this text: its theorems. Conditions: as each theorem states them. -/
import Derived.Test.YtbnmajedmajfoaaGreatDoorCFnPatternsAnsweredP
import Derived.Test.YtbnmajedmajfoaaGreatDoorCFnPatternsAnsweredF0
namespace Go.Proofs.YtbnmajedmajfoaaGreatDoor.P
open Go.RowKit Go.Proofs.YtbnmajedmajfoaaGreatDoorW.qaG Go.Proofs.YtbnmajedmajfoaaGreatDoorW.PrintLast Go.Proofs.YtbnmajedmajfoaaGreatDoorW.PrintMore
set_option linter.unusedVariables false
set_option linter.unusedSimpArgs false
set_option maxHeartbeats 8000000
set_option maxRecDepth 100000
section
attribute [local go_sem] qfe qfg qf0 qf1 qeA qeB qff qfh
attribute [local go_sem high] qoQ
def qct.l0 : Nat → List (qaj) → Int → Int → Int → Int → Option (Int)
 | 0, _, _, _, _, _ => none
 | k + 1, x0, x7, x8, qeo, qeF => if x8 < x7 then (if 0 ≤ x8 then (if x8 < (x0.length : Int) then (if (qeo == ((qab x0 x8).f0) && (qeF == ((qab x0 x8).f1))) = true then (some x8) else (qct.l0 k x0 x7 (wrap64 (x8 + 1)) qeo qeF)) else (none)) else (none)) else (some (-1))
def qct.f (k : Nat) (l0 : List (qaj)) (qc8 : Int) (qdG : Int) : Option (Int) := qct.l0 k l0 (l0.length : Int) 0 qc8 qdG
theorem qct.calls (k : Nat) (A0 : Option Addr) (c0 : Nat) (l0 : List (qaj)) (qc8 : Int) (qdG : Int) (r : Int) (w : World) (hr0 : Kd.C qa1 w A0 l0.length l0) (hc0 : l0.length ≤ c0) (h : qct.f k l0 qc8 qdG = some r) :
  Calls Tryz.prog 72 #[.slice A0 l0.length c0, .agg #[.int .i64 qc8, .int .i64 qdG]] w fun e w' => e = .returned (.int .i64 r) ∧ Below w.heap.size w w' := by
 have qkE := Tryz.underlying33; have HR0 := ak_ hr0; have HC0 := ak_ hc0; clear hr0 hc0; have HB := ak_ (Below.refl w.heap.size w); have H : (qct.l0 k l0 (l0.length : Int) 0 qc8 qdG) = some r := h; clear h; have H' := ak_ H; clear H; go_enter Tryz.func72, Tryz.ntmps72
 go_wp2_with (first | ((with_reducible refine qas (N := 3) rfl ?_); refine bx_ 3 (cs := #[.int .i64 qc8, .int .i64 qdG]) (t := 33) qa0 ?_; intro qaR hg w3 hbox hb; have qai := ak_ (hbox); have qcB := ak_ (HB.ge hg); have qcg := ak_ (HB.ge hg); replace HB := HB.mw hb; clear hb hbox hg))
 repeat (go_quiet (first | ((with_reducible refine qas (N := 3) rfl ?_); refine bx_ 3 (cs := #[.int .i64 qc8, .int .i64 qdG]) (t := 33) qa0 ?_; intro qaR hg w3 hbox hb; have qai := ak_ (hbox); have qcB := ak_ (HB.ge hg); have qcg := ak_ (HB.ge hg); replace HB := HB.mw hb; clear hb hbox hg)); try go_wp2_with (first | ((with_reducible refine qas (N := 3) rfl ?_); refine bx_ 3 (cs := #[.int .i64 qc8, .int .i64 qdG]) (t := 33) qa0 ?_; intro qaR hg w3 hbox hb; have qai := ak_ (hbox); have qcB := ak_ (HB.ge hg); have qcg := ak_ (HB.ge hg); replace HB := HB.mw hb; clear hb hbox hg)))
 go_loopg [8] k (fun kq v8 w' => ∃ (qdP : Int), v8 = .int .i64 qdP ∧ qah (qct.l0 kq l0 (l0.length : Int) qdP qc8 qdG = some r) ∧ qah (kq ≤ k) ∧ qah (w'.heap[qaR]? = some (.cells #[.int .i64 qc8, .int .i64 qdG] 33 (0, 0))) ∧ qah (Below w.heap.size w w'))
 case atStart => exact ⟨(0), qbg, H', ⟨Nat.le_refl _⟩, ⟨qch⟩, ⟨qaM⟩⟩
 case round =>
  clear H'; obtain ⟨qdP, rfl, HA, HK1, qai, HB⟩ := hrel
  cases gk with
  | zero => exact absurd HA.out (by simp [qct.l0])
  | succ k1 =>
   have H := HA.out; clear HA; simp only [qct.l0] at H; by_cases c4 : qdP < (l0.length : Int); rotate_left
   ·rw [if_neg c4] at H; have qhF : decide (qdP < (l0.length : Int)) = false := decide_eq_false c4; clear c4; obtain rfl := Option.some.inj H; go_wp2
    repeat (go_quiet (fail); try go_wp2)
    go_ret
    exact ⟨qbx, qaM⟩
   rw [if_pos c4] at H; have qhF : decide (qdP < (l0.length : Int)) = true := decide_eq_true c4; clear c4; by_cases c5 : 0 ≤ qdP; rotate_left
   ·rw [if_neg c5] at H; exact absurd H (by simp)
   rw [if_pos c5] at H; have qi9 : decide (0 ≤ qdP) = true := decide_eq_true c5; clear c5; by_cases c6 : qdP < (l0.length : Int); rotate_left
   ·rw [if_neg c6] at H; exact absurd H (by simp)
   rw [if_pos c6] at H; have qkn : decide (qdP < (l0.length : Int)) = true := decide_eq_true c6; clear c6; by_cases c7 : (qc8 == ((qab l0 qdP).f0) && (qdG == ((qab l0 qdP).f1))) = true
   ·rw [if_pos c7] at H; have qiI : (qc8 == ((qab l0 qdP).f0) && (qdG == ((qab l0 qdP).f1))) = true := c7; (try (have qmR : decide (qc8 = ((qab l0 qdP).f0) && (qdG == ((qab l0 qdP).f1))) = true := by simpa using c7)); (try (have c7b2 : (qc8 == ((qab l0 qdP).f0) && (qdG == ((qab l0 qdP).f1))) = true := by simpa using c7)); clear c7; obtain rfl := Option.some.inj H; obtain ⟨qgg, qgh, qgz, qgi⟩ := qa2 qai.out; have qhn : 0 ≤ (qdP : Int) := of_decide_eq_true qa8; have qho : qdP < (l0.length : Int) := of_decide_eq_true qa8; obtain ⟨qnw, qnL, qdw, qdI⟩ := qcq HR0.out qdP qhn qho
    cases qnL
    replace qdw := (HB.out.cell (World.block_lt_of_cell? w _ qdw)).trans qdw; replace qdI := (HB.out.cell (World.block_lt_of_cell? w _ qdI)).trans qdI; replace qhn := eq_true qhn; replace qho := eq_true qho; go_wp2
    repeat (go_quiet (fail); try go_wp2)
    go_ret
    exact ⟨qbx, qaM⟩
   rw [if_neg c7] at H
   have qiI : (qc8 == ((qab l0 qdP).f0) && (qdG == ((qab l0 qdP).f1))) = false := by simpa using c7
   (try (have qmR : decide (qc8 = ((qab l0 qdP).f0) && (qdG == ((qab l0 qdP).f1))) = false := by simpa using c7)); (try (have c7b2 : (qc8 == ((qab l0 qdP).f0) && (qdG == ((qab l0 qdP).f1))) = false := by simpa using c7)); (try (have c7b3 : ¬ (qc8 = ((qab l0 qdP).f0) && (qdG == ((qab l0 qdP).f1))) := by simpa using c7)); clear c7; have H' := ak_ H; clear H; obtain ⟨qlB, qlC, qm2, qlL⟩ := qa2 qai.out; have qhn : 0 ≤ (qdP : Int) := of_decide_eq_true qa8; have qho : qdP < (l0.length : Int) := of_decide_eq_true qa8; obtain ⟨qnw, qnL, qdw, qdI⟩ := qcq HR0.out qdP qhn qho
   cases qnL
   replace qdw := (HB.out.cell (World.block_lt_of_cell? w _ qdw)).trans qdw; replace qdI := (HB.out.cell (World.block_lt_of_cell? w _ qdI)).trans qdI; replace qhn := eq_true qhn; replace qho := eq_true qho; go_wp2
   repeat (go_quiet (fail); try go_wp2)
   go_roundg k1
   case measure => have := HK1.out; omega
   case rel => exact ⟨(wrap64 (qdP + 1)), qbg, H', ⟨qgl⟩, ⟨qch⟩, ⟨qaM⟩⟩
end
section
attribute [local go_sem] qfe qfg qf0 qf1 qeA qeB qff qfh
def qdg.f (k : Nat) (l0 : List (qaj)) (qc8 : Int) (qdG : Int) : Option (Bool) := (qct.f k l0 qc8 qdG).bind fun qaF => (some (decide (qaF ≥ 0)))
theorem qdg.calls (k : Nat) (A0 : Option Addr) (c0 : Nat) (l0 : List (qaj)) (qc8 : Int) (qdG : Int) (r : Bool) (w : World) (hr0 : Kd.C qa1 w A0 l0.length l0) (hc0 : l0.length ≤ c0) (h : qdg.f k l0 qc8 qdG = some r) :
  Calls Tryz.prog 41 #[.slice A0 l0.length c0, .agg #[.int .i64 qc8, .int .i64 qdG]] w fun e w' => e = .returned (.bool r) ∧ Below w.heap.size w w' := by
 have qkE := Tryz.underlying33; have HR0 := ak_ hr0; have HC0 := ak_ hc0; clear hr0 hc0; have HB := ak_ (Below.refl w.heap.size w); have H : ((qct.f k l0 qc8 qdG).bind fun qaF => (some (decide (qaF ≥ 0)))) = some r := h; clear h; obtain ⟨qaF, A3, H⟩ := qbh H; (try dsimp only at H); obtain rfl := Option.some.inj H; go_enter Tryz.func41, Tryz.ntmps41
 go_wp2_with (first | ((with_reducible refine qas (N := 3) rfl ?_); refine bx_ 3 (cs := #[.int .i64 qc8, .int .i64 qdG]) (t := 33) qa0 ?_; intro qaR hg w4 hbox hb; have qai := ak_ (hbox); have qcB := ak_ (HB.ge hg); have qcg := ak_ (HB.ge hg); replace HB := HB.mw hb; clear hb hbox hg; obtain ⟨qtz, qtA, hfz5_0, qtH⟩ := qa2 qai.out) | ((with_reducible refine qad (f := 72) rfl ?_); refine gl_ 7 Tryz.func72 #[.slice A0 l0.length c0, .agg #[.int .i64 qc8, .int .i64 qdG]] rfl qbK ?_; (with_reducible refine (qct.calls k _ _ l0 qc8 qdG qaF _ ?qaB ?qaC A3.out).mono ?_); (case qaB => exact k70_); (case qaC => exact HC0.out); rintro e w6 ⟨rfl, hb⟩; refine ⟨_, rfl, ?_⟩; replace qai := qai.mw hb; replace HB := ak_ (qac qaM hb); (try clear hb)))
 go_ret
 exact ⟨qbx, qaM⟩
theorem qrL (p : List qaj → Bool) (g : Nat) (lb : Array Value) (eg : ∀ args w, (callFunc g args).run Tryz.prog w = .ok (.enter g args) w)
    (A0 : Option Addr) (c0 : Nat) (zs : List (List Value × List qaj)) (w : World) (hp : ∀ (W : World) (z : List Value × List qaj), z ∈ zs → Below w.heap.size w W → ∃ A' c', z.1 = [.slice A' z.2.length c'] ∧ Calls Tryz.prog g (#[.slice A' z.2.length c'] ++ lb) W fun e w' => e = .returned (.bool (p z.2)) ∧ Below w.heap.size w w') (hr0 : Kd.C (kRaw (List qaj)) w A0 zs.length zs) :
    Calls Tryz.prog 71 #[.slice A0 zs.length c0, .func (.func g) #[] lb] w fun e w' => e = .returned (.int .i64 (fIx (fun z : List Value × List qaj => p z.2) zs 0)) ∧ Below w.heap.size w w' := by
  have hm : zs.length ≤ 9223372036854775807 := Kd.qrl hr0; have HR0 := ak_ hr0; have HP := ak_ hp; clear hr0 hp; have HB := ak_ (Below.refl w.heap.size w); have H0 := ak_ (show fIx (fun z : List Value × List qaj => p z.2) zs 0 = fIx (fun z : List Value × List qaj => p z.2) (zs.drop 0) ((0 : Nat) : Int) from rfl); go_enter Tryz.func71, Tryz.ntmps71; go_wp2
  go_loopg [5, 8] zs.length (fun gg _ s8 wr => ∃ kk : Nat, kk ≤ zs.length ∧ zs.length - kk ≤ gg ∧ s8 = .int .i64 kk ∧ qah (Below w.heap.size w wr) ∧ qah (fIx (fun z : List Value × List qaj => p z.2) zs 0 = fIx (fun z : List Value × List qaj => p z.2) (zs.drop kk) kk))
  case atStart => exact ⟨0, Nat.zero_le _, by omega, rfl, HB, H0⟩
  case round =>
    clear HB H0; obtain ⟨kk, hkk, hg, rfl, HB, HI⟩ := hrel; by_cases hlt : kk < zs.length; rotate_left
    ·have hltz : ¬ (kk : Int) < (zs.length : Int) := by omega
     have HDZ := ak_ (List.drop_eq_nil_of_le (by omega : zs.length ≤ kk)); go_wp2
     go_ret
     exact ⟨by rw [HI.out, HDZ.out]; rfl, HB.out⟩
    have hltz : (kk : Int) < (zs.length : Int) := by omega
    obtain ⟨z, hz⟩ : ∃ z, zs[kk]? = some z := ⟨zs[kk], List.getElem?_eq_getElem hlt⟩
    have hdz : zs.drop kk = z :: zs.drop (kk + 1) := by
      rw [List.drop_eq_getElem_cons hlt]; rw [List.getElem?_eq_getElem hlt] at hz
      injection hz with hz
      rw [hz]
    obtain ⟨A', c', ez, hcall⟩ := HP.out wr z (List.mem_of_getElem? hz) HB.out; obtain ⟨ad, ce, e_, hcl, hK, hcc⟩ := Kd.qrk HR0.out z (kk : Int) (by omega) hltz
    have ey : zs.getD (kk : Int).toNat z = z := by simp [List.getD, hz]
    rw [ey] at hK; obtain ⟨rfl, -, -⟩ := hK; subst e_; have hx0 : w.cell? (ad.add ((kk : Int).toNat * 1 + 0)) = some (.slice A' z.2.length c') := hcc 0 _ (by rw [ez]; rfl); simp only [Int.toNat_natCast, Nat.mul_one, Nat.add_zero] at hx0; replace hx0 := (HB.out.cell (World.block_lt_of_cell? w _ hx0)).trans hx0; have HDZ := ak_ hdz; clear hcl hcc hz ez ey hdz
    cases hq : p z.2 with
    | true =>
      rw [hq] at hcall; have HQ := ak_ hq; clear hq
      go_wp2_with (go_at_fn g; refine hcall.mono ?_; rintro e w' ⟨rfl, hb'⟩)
      go_ret
      exact ⟨by rw [HI.out, HDZ.out, fIx, if_pos HQ.out]; rfl, hb'⟩
    | false =>
      rw [hq] at hcall; have HQ := ak_ hq; clear hq
      go_wp2_with (go_at_fn g; refine hcall.mono ?_; rintro e w' ⟨rfl, hb'⟩)
      go_roundg (zs.length - (kk + 1))
      case measure => omega
      case rel => exact ⟨kk + 1, by omega, by omega, by go_num, ⟨hb'⟩, ⟨by rw [HI.out, HDZ.out, fIx, if_neg (by rw [HQ.out]; decide)]; rfl⟩⟩
def qfQ (k : Nat) (x : qaj) (a : List qaj) : Bool := qdg.f k a x.f0 x.f1 == some false
def qcJ.f (k : Nat) (qax : ByteArray) (qaZ : Int) : Option (List qaj × Bool) := (qbJ.f k qax qaZ).bind fun b => if b.2 = true then (if b.1.length = 0 then some ([], false) else (if (qar b.1 0).length < 8796093022207 ∧ ((qar b.1 0).all fun x => b.1.all fun a => (qdg.f k a x.f0 x.f1).isSome) = true then some ((qar b.1 0).filter (fun x => !(b.1.any (qfQ k x))), true) else none)) else some ([], false)
theorem qtl {α : Type} (p : α → Bool) : ∀ (l : List α) (i : Int), 0 ≤ i → decide (0 ≤ fIx p l i) = l.any p
  | [], _, _ => by simp [fIx]
  | x :: l, i, hi => by
    rw [fIx, List.any_cons]
    cases hx : p x with
    | true => simp [hi]
    | false => simpa using qtl p l (i + 1) (by omega)
theorem qtb (p : List qaj → Bool) (g : Nat) (lb : Array Value) (eg : ∀ args w, (callFunc g args).run Tryz.prog w = .ok (.enter g args) w)
    (A0 : Option Addr) (c0 : Nat) (zs : List (List Value × List qaj)) (w : World) (hp : ∀ (W : World) (z : List Value × List qaj), z ∈ zs → Below w.heap.size w W → ∃ A' c', z.1 = [.slice A' z.2.length c'] ∧ Calls Tryz.prog g (#[.slice A' z.2.length c'] ++ lb) W fun e w' => e = .returned (.bool (p z.2)) ∧ Below w.heap.size w w') (hr0 : Kd.C (kRaw (List qaj)) w A0 zs.length zs) :
    Calls Tryz.prog 39 #[.slice A0 zs.length c0, .func (.func g) #[] lb] w fun e w' => e = .returned (.bool ((zs.map Prod.snd).any p)) ∧ Below w.heap.size w w' := by
  rw [List.any_map, show (p ∘ Prod.snd) = (fun z : List Value × List qaj => p z.2) from rfl, ← qtl (fun z : List Value × List qaj => p z.2) zs 0 (by omega)]; have hcall := ak_ (qrL p g lb eg A0 c0 zs w hp hr0); clear hp hr0; go_enter Tryz.func39, Tryz.ntmps39
  go_wp2_with (go_at_call 71; refine hcall.out.mono ?_; rintro e w' ⟨rfl, hb'⟩)
  go_ret
  exact ⟨rfl, hb'⟩
theorem qqz (k : Nat) (a : List qaj) (A' : Option Addr) (c' : Nat) (x : qaj) (gR : Nat) (W : World) (t : Bool) (hC : Kd.C qa1 W A' a.length a) (hc' : a.length ≤ c') (hb : W.heap[gR]? = some (.cells #[.int .i64 x.f0, .int .i64 x.f1] 33 (0, 0))) (h : qdg.f k a x.f0 x.f1 = some t) :
    Calls Tryz.prog 40 #[.slice A' a.length c', .pointer (some ⟨gR, 0, none⟩)] W fun e w' => e = .returned (.bool (!t)) ∧ Below W.heap.size W w' := by
  have hu := Tryz.underlying33; have HC := ak_ hC; have HC' := ak_ hc'; have A_ := ak_ h; have hx0 : W.cell? ⟨gR, 0, none⟩ = some (.int .i64 x.f0) := (qaO hb 0).trans rfl; have hx1 : W.cell? ⟨gR, 1, none⟩ = some (.int .i64 x.f1) := (qaO hb 1).trans rfl; clear hC hc' hb h; go_enter Tryz.func40, Tryz.ntmps40
  go_wp2_with (((with_reducible refine qad (f := 41) rfl ?_); refine gl_ 6 Tryz.func41 #[.slice A' a.length c', .agg #[.int .i64 x.f0, .int .i64 x.f1]] rfl qeX ?_; (with_reducible refine (qdg.calls k _ _ a x.f0 x.f1 t _ ?qaB ?qaC A_.out).mono ?_); (case qaB => exact HC.out); (case qaC => exact HC'.out); rintro e w1 ⟨rfl, hb1⟩; refine ⟨_, rfl, ?_⟩; have HB1 := ak_ hb1; clear hb1))
  go_ret
  exact ⟨rfl, HB1.out⟩
theorem qt8 {base : Nat} {ok : Nat → Prop} {w : World} {A : Option Addr} {n c : Nat} {xs : List (List qaj)} (h : Kd.S (Kd.slice 33 qa1) 24 w base ok (.slice A n c) xs) :
    ∃ zs : List (List Value × List qaj), zs.map Prod.snd = xs ∧ Kd.C (kRaw (List qaj)) w A zs.length zs ∧ ∀ z ∈ zs, ∃ A' c', z.1 = [.slice A' z.2.length c'] ∧ Kd.C qa1 w A' z.2.length z.2 ∧ z.2.length ≤ c' := by
  obtain ⟨f, zs, h1, h2, h3⟩ := raw_of_S h rfl; have h4 := Kd.R_reads' h2; refine ⟨zs, h1, h4.1 ▸ h4.2.2, fun z hz => ?_⟩; obtain ⟨m, hm⟩ := List.getElem?_of_mem hz; obtain ⟨vr, e, hR⟩ := h3 m z hm; obtain ⟨A', c', e2⟩ := Kd.qbC hR; subst e2; have h5 := Kd.R_reads' hR; exact ⟨A', c', e, h5.2.2, h5.2.1⟩
theorem quh (k : Nat) (L : List (List qaj)) (x : qaj) (gR : Nat) (w2 : World) (zs : List (List Value × List qaj)) (hz1 : zs.map Prod.snd = L) (hz3 : ∀ z ∈ zs, ∃ A' c', z.1 = [.slice A' z.2.length c'] ∧ Kd.C qa1 w2 A' z.2.length z.2 ∧ z.2.length ≤ c') (hn : ∀ a ∈ L, (qdg.f k a x.f0 x.f1).isSome = true) (hb : w2.heap[gR]? = some (.cells #[.int .i64 x.f0, .int .i64 x.f1] 33 (0, 0))) :
    ∀ (W_ : World) (z : List Value × List qaj), z ∈ zs → Below w2.heap.size w2 W_ → ∃ A' c', z.1 = [.slice A' z.2.length c'] ∧ Calls Tryz.prog 40 (#[.slice A' z.2.length c'] ++ #[.pointer (some ⟨gR, 0, none⟩)]) W_ fun e w' => e = .returned (.bool (qfQ k x z.2)) ∧ Below w2.heap.size w2 w' := by
  intro W_ z hz hb_; obtain ⟨A', c', e1, hC1, hc1⟩ := hz3 z hz; obtain ⟨t, ht⟩ := Option.isSome_iff_exists.1 (hn z.2 (by rw [← hz1]; exact List.mem_map_of_mem hz))
  have hm : qfQ k x z.2 = !t := by unfold qfQ; rw [ht]; cases t <;> rfl
  refine ⟨A', c', e1, (qqz k z.2 A' c' x gR W_ t (Kd.qer hC1 hb_) hc1 (qam hb hb_) ht).mono ?_⟩; rintro e w' ⟨rfl, hb2⟩; exact ⟨by rw [hm], qac hb_ hb2⟩
theorem qqy (k : Nat) (L : List (List qaj)) (x : qaj) (gL : Nat) (AL : Option Addr) (cL base : Nat) (ok : Nat → Prop) (W : World) (hS : Kd.S (Kd.slice 33 qa1) 24 W base ok (.slice AL L.length cL) L) (hc : W.cell? ⟨gL, 0, none⟩ = some (.slice AL L.length cL)) (hs : ∀ a ∈ L, (qdg.f k a x.f0 x.f1).isSome = true) :
    Calls Tryz.prog 38 #[.agg #[.int .i64 x.f0, .int .i64 x.f1], .pointer (some ⟨gL, 0, none⟩)] W fun e w' => e = .returned (.bool (L.any (qfQ k x))) ∧ Below W.heap.size W w' := by
  have hu := Tryz.underlying33; have HS := ak_ hS; have HN := ak_ hs; have HC := ak_ hc; clear hS hs hc; go_enter Tryz.func38, Tryz.ntmps38
  go_wp2_with (first | ((with_reducible refine qas (N := 2) rfl ?_); (try (refine qav (by rfl) ?_; dsimp only)); refine bx_ 2 (cs := #[.int .i64 x.f0, .int .i64 x.f1]) (t := 33) qa0 ?_; intro gR hg w2 hbox hb; have BR := ak_ hbox; have HB2 := ak_ hb; have hcL : w2.cell? ⟨gL, 0, none⟩ = some (.slice AL L.length cL) := (hb.cell (World.block_lt_of_cell? W _ HC.out)).trans HC.out; have HS2 := ak_ (Kd.qdB HS.out hb); clear hbox hb hg) | ((with_reducible refine qad (f := 39) rfl ?_); obtain ⟨zs, hz1, hz2, hz3⟩ := qt8 HS2.out; have hzl : zs.length = L.length := (by rw [← hz1, List.length_map]); refine goesL_ (some 6) rfl rfl Tryz.func39 (by kernel_rfl) rfl #[.slice AL zs.length cL, .func (.func 40) #[] #[.pointer (some ⟨gR, 0, none⟩)]] rfl (by (try simp only [List.map_toArray, List.map_cons, List.map_nil]); rw [hzl]; first | done | rfl) ?_; refine (qtb (qfQ k x) 40 #[.pointer (some ⟨gR, 0, none⟩)] (enters_of Tryz.func40 (by kernel_rfl) rfl) AL cL zs _ ?sP hz2).mono ?_; (case sP => exact quh k L x gR w2 zs hz1 hz3 HN.out BR.out); rintro e w6 ⟨rfl, hb6⟩; refine ⟨_, rfl, ?_⟩; rw [hz1]; have HB6 := ak_ hb6; clear hb6 hz1 hz2 hz3 hzl))
  go_ret
  exact ⟨rfl, qac HB2.out HB6.out⟩
theorem qcJ.calls (k : Nat) (qax : ByteArray) (qaZ : Int) (r1 : List qaj) (r2 : Bool) (w : World) (h : qcJ.f k qax qaZ = some (r1, r2)) :
    Calls Tryz.prog 11 #[.agg #[.string qax, .int .i64 qaZ]] w fun e w' => ∃ v0_ : Value, e = .returned (.tuple #[v0_, .bool r2]) ∧ Kd.R qa1 33 w' w.heap.size (fun _ => True) v0_ r1 ∧ Below w.heap.size w w' := by
  have hu := Tryz.underlying23; unfold qcJ.f at h; replace h := Option.bind_eq_some_iff.mp h; obtain ⟨⟨L, t⟩, A0_, h⟩ := h; have A1 := ak_ A0_; clear A0_; replace h : (if t = true then (if L.length = 0 then some ([], false) else (if (qar L 0).length < 8796093022207 ∧ ((qar L 0).all fun x => L.all fun a => (qdg.f k a x.f0 x.f1).isSome) = true then some ((qar L 0).filter (fun x => !(L.any (qfQ k x))), true) else none)) else some ([], false)) = some (r1, r2) := h
  cases t with
  | false =>
    rw [if_neg (by decide)] at h; simp only [Option.some.injEq, Prod.mk.injEq] at h; obtain ⟨rfl, rfl⟩ := h; go_enter Tryz.func11, Tryz.ntmps11
    go_wp2_with (first | ((with_reducible refine qas (N := 1) rfl ?_); (try (refine qav (by rfl) ?_; dsimp only)); refine bx_ 1 (cs := #[.string qax, .int .i64 qaZ]) (t := 23) qa0 ?_; intro gP hg w1 hbox hb; have BP1 := ak_ hbox; have HB1 := ak_ hb; have qnP : w1.cell? ⟨gP, 0, none⟩ = some (.string qax) := (qaO hbox 0).trans rfl; have qnQ : w1.cell? ⟨gP, 1, none⟩ = some (.int .i64 qaZ) := (qaO hbox 1).trans rfl; clear hbox hb hg) | ((with_reducible refine qad (f := 35) rfl ?_); refine gl_ 8 Tryz.func35 #[.agg #[.string qax, .int .i64 qaZ]] rfl qeX ?_; (with_reducible refine (qbJ.calls k qax qaZ L false _ A1.out).mono ?_); rintro e wA ⟨v8, rfl, ho, hb⟩; refine ⟨_, rfl, ?_⟩; have HBA := ak_ (qac HB1.out hb); obtain ⟨AL, cL, eL⟩ := Kd.qcU ho; subst eL; have HSA := ak_ (Kd.qdo (ok' := fun k_ => k_ < wA.heap.size) (Kd.qhZ ho) (fun _ hk => hk.2.2.1)); clear ho hb qnP qnQ BP1 HB1) | ((with_reducible refine qas (N := 4) rfl ?_); (try (refine qav (by rfl) ?_; dsimp only)); refine bx_ 4 (cs := #[.slice none 0 0]) (t := 25) qa0 ?_; intro g4 hg w4 hbox hb; have B4_ := ak_ (show (w4.setCell ⟨g4, 0, none⟩ (.slice AL L.length cL)).heap[g4]? = _ from qaQ (cs' := #[.slice AL L.length cL]) hbox 0 (.slice AL L.length cL) rfl); have HB4 := ak_ (show Below wA.heap.size wA (w4.setCell ⟨g4, 0, none⟩ (.slice AL L.length cL)) from qaw hb (Nat.le_of_eq hg.symm)); have hc4 : w4.cell? ⟨g4, 0, none⟩ = some (.slice none 0 0) := (qaO hbox 0).trans rfl; have hf4 := qaU hbox 0; clear hbox hb hg))
    go_ret2
    exact ⟨_, rfl, Kd.qkl _ _ _ _ _, qac HBA.out HB4.out⟩
  | true =>
    rw [if_pos rfl] at h; by_cases c1_ : L.length = 0
    ·rw [if_pos c1_] at h; simp only [Option.some.injEq, Prod.mk.injEq] at h; obtain ⟨rfl, rfl⟩ := h; have c1b : ((L.length : Int) == 0) = true := beq_iff_eq.2 (by omega); clear c1_; go_enter Tryz.func11, Tryz.ntmps11
     go_wp2_with (first | ((with_reducible refine qas (N := 1) rfl ?_); (try (refine qav (by rfl) ?_; dsimp only)); refine bx_ 1 (cs := #[.string qax, .int .i64 qaZ]) (t := 23) qa0 ?_; intro gP hg w1 hbox hb; have BP1 := ak_ hbox; have HB1 := ak_ hb; have qnP : w1.cell? ⟨gP, 0, none⟩ = some (.string qax) := (qaO hbox 0).trans rfl; have qnQ : w1.cell? ⟨gP, 1, none⟩ = some (.int .i64 qaZ) := (qaO hbox 1).trans rfl; clear hbox hb hg) | ((with_reducible refine qad (f := 35) rfl ?_); refine gl_ 8 Tryz.func35 #[.agg #[.string qax, .int .i64 qaZ]] rfl qeX ?_; (with_reducible refine (qbJ.calls k qax qaZ L true _ A1.out).mono ?_); rintro e wA ⟨v8, rfl, ho, hb⟩; refine ⟨_, rfl, ?_⟩; have HBA := ak_ (qac HB1.out hb); obtain ⟨AL, cL, eL⟩ := Kd.qcU ho; subst eL; have HSA := ak_ (Kd.qdo (ok' := fun k_ => k_ < wA.heap.size) (Kd.qhZ ho) (fun _ hk => hk.2.2.1)); clear ho hb qnP qnQ BP1 HB1) | ((with_reducible refine qas (N := 4) rfl ?_); (try (refine qav (by rfl) ?_; dsimp only)); refine bx_ 4 (cs := #[.slice none 0 0]) (t := 25) qa0 ?_; intro g4 hg w4 hbox hb; have B4_ := ak_ (show (w4.setCell ⟨g4, 0, none⟩ (.slice AL L.length cL)).heap[g4]? = _ from qaQ (cs' := #[.slice AL L.length cL]) hbox 0 (.slice AL L.length cL) rfl); have HB4 := ak_ (show Below wA.heap.size wA (w4.setCell ⟨g4, 0, none⟩ (.slice AL L.length cL)) from qaw hb (Nat.le_of_eq hg.symm)); have hc4 : w4.cell? ⟨g4, 0, none⟩ = some (.slice none 0 0) := (qaO hbox 0).trans rfl; have hf4 := qaU hbox 0; clear hbox hb hg))
     go_ret2
     exact ⟨_, rfl, Kd.qkl _ _ _ _ _, qac HBA.out HB4.out⟩
    rw [if_neg c1_] at h; have c1b : ((L.length : Int) == 0) = false := beq_eq_false_iff_ne.2 (by omega); have HL0 := ak_ (Nat.pos_of_ne_zero c1_); by_cases c2_ : (qar L 0).length < 8796093022207 ∧ ((qar L 0).all fun x => L.all fun a => (qdg.f k a x.f0 x.f1).isSome) = true; rotate_left
    ·rw [if_neg c2_] at h; exact absurd h (by simp)
    rw [if_pos c2_] at h; have HLB := ak_ c2_.1; have HSO := ak_ c2_.2
    obtain ⟨row, hrow⟩ : ∃ l_, l_ = qar L 0 := ⟨_, rfl⟩
    rw [← hrow] at h; have HROW := ak_ hrow; have HFIN := ak_ h; clear h c2_ c1_ hrow; go_enter Tryz.func11, Tryz.ntmps11
    go_wp2_with (first | ((with_reducible refine qas (N := 1) rfl ?_); (try (refine qav (by rfl) ?_; dsimp only)); refine bx_ 1 (cs := #[.string qax, .int .i64 qaZ]) (t := 23) qa0 ?_; intro gP hg w1 hbox hb; have BP1 := ak_ hbox; have HB1 := ak_ hb; have qnP : w1.cell? ⟨gP, 0, none⟩ = some (.string qax) := (qaO hbox 0).trans rfl; have qnQ : w1.cell? ⟨gP, 1, none⟩ = some (.int .i64 qaZ) := (qaO hbox 1).trans rfl; clear hbox hb hg) | ((with_reducible refine qad (f := 35) rfl ?_); refine gl_ 8 Tryz.func35 #[.agg #[.string qax, .int .i64 qaZ]] rfl qeX ?_; (with_reducible refine (qbJ.calls k qax qaZ L true _ A1.out).mono ?_); rintro e wA ⟨v8, rfl, ho, hb⟩; refine ⟨_, rfl, ?_⟩; have HBA := ak_ (qac HB1.out hb); obtain ⟨AL, cL, eL⟩ := Kd.qcU ho; subst eL; have HSA := ak_ (Kd.qdo (ok' := fun k_ => k_ < wA.heap.size) (Kd.qhZ ho) (fun _ hk => hk.2.2.1)); clear ho hb qnP qnQ BP1 HB1) | ((with_reducible refine qas (N := 4) rfl ?_); (try (refine qav (by rfl) ?_; dsimp only)); refine bx_ 4 (cs := #[.slice none 0 0]) (t := 25) qa0 ?_; intro g4 hg w4 hbox hb; have B4_ := ak_ (show (w4.setCell ⟨g4, 0, none⟩ (.slice AL L.length cL)).heap[g4]? = _ from qaQ (cs' := #[.slice AL L.length cL]) hbox 0 (.slice AL L.length cL) rfl); have HB4 := ak_ (show Below wA.heap.size wA (w4.setCell ⟨g4, 0, none⟩ (.slice AL L.length cL)) from qaw hb (Nat.le_of_eq hg.symm)); have hc4 : w4.cell? ⟨g4, 0, none⟩ = some (.slice none 0 0) := (qaO hbox 0).trans rfl; have hf4 := qaU hbox 0; clear hbox hb hg) | ((with_reducible refine qas (N := 18) rfl ?_); refine Kd.qgM qa1 _ 33 ?hg (N := 18) ?hd (xs := ([] : List qaj)) (inner := []) (ok := fun _ => True) (okp := fun _ => True) ?hr ?hp (fun _ hk => hk) trivial (Below.refl _ _) (Nat.le_refl _) (by simp) ?_; (case hd => rfl); (case hg => rfl); (case hr => exact qa0); (case hp => exact qcj.none _ _); intro v18 w18 ho hb hg_ hnew_; clear hg_ hnew_; have HL18 := ak_ (Kd.qby ho HB4.out.size); have HB18 := ak_ (qac HB4.out hb); have B18 := ak_ (qam B4_.out hb); have HS18 := ak_ (Kd.qdB HSA.out HB18.out); have hcL := qbj B18.out; obtain ⟨ad, AR, cR, eR, hxR, hlR, hiR⟩ := qfL (Kd.S_reads' HS18.out).2.2 0 (by omega) (by have := HL0.out; omega); cases eR; (try rw [show ((0 : Int)).toNat = 0 from rfl] at hxR); (try rw [Addr.add_zero'] at hxR); rw [← HROW.out] at hxR hlR hiR; have HIR := ak_ hiR; have HLR := ak_ hlR; have qL_ : (0 < L.length) = True := eq_true HL0.out; have qLz_ : ((0 : Int) < (L.length : Int)) = True := eq_true (by have := HL0.out; omega); clear hiR hlR; clear ho hb hc4 hf4) | ((with_reducible refine qca (b := .append) (xs := #[.tmp 18, .tmp 21]) rfl ?_); at_builtin; refine Kd.qfJ qa1 (w0 := wA) wA.heap.size rfl (.tmp 18) (.tmp 21) 24 33 (.agg #[(.int .i64 0), (.int .i64 0)]) 16 rfl Tryz.underlying24 qc4 rfl (by decide) (by omega) v18 ([] : List qaj) row _ _ _ (fun k_ => k_ ≠ g4) (fun _ => False) rfl rfl ?aO ?aR (fun _ _ h => h) (fun _ h => h.elim) ?aF ?aB ?aS ?aL ?_; (case aO => exact Kd.qaT (Kd.qgr HL18.out B18.out (by decide)) (fun _ hk => hk.2)); (case aF => exact (fun k_ hk => by have := qdN B18.out; omega)); (case aR => exact HIR.out); (case aB => exact HB18.out); (case aS => exact qal HB18.out); (case aL => have h_ := HLB.out; rw [← HROW.out] at h_; simp only [List.length_nil]; omega); intro v22 w22 ho hb hg_ hat_; simp only [List.nil_append] at ho; have B22 := ak_ (qey B18.out hg_ (fun e_ => by have := Kd.qsK HL18.out B18.out (by decide); exact this e_)); clear hg_ hat_; have HL22 := ak_ ho; have HB22 := ak_ hb; have HS22 := ak_ (Kd.qdB HSA.out hb); clear HL18 HB18 HS18 hcL hxR HIR HLR ho hb; obtain ⟨A22, c22, e22⟩ := Kd.qbC HL22.out; subst e22) | ((with_reducible refine qad (f := 37) rfl ?_); refine gl_ 24 Tryz.func37 #[.slice A22 row.length c22, .func (.func 38) #[] #[.pointer (some ⟨g4, 0, none⟩)]] rfl qeX ?_; refine (qjI (fun x => L.any (qfQ k x)) 38 #[.pointer (some ⟨g4, 0, none⟩)] (enters_of Tryz.func38 (by kernel_rfl) rfl) A22 c22 wA.heap.size (fun k_ => k_ ≠ g4) row _ HB22.out.size HL22.out ?sP).mono ?_; (case sP => exact (fun W_ x hx hg_ => qqy k L x g4 (some ad) cL _ _ W_ (Kd.S_grown HS22.out hg_ (fun k_ hk_ e_ => by have h1_ := Kd.qc1 HL22.out k_ e_.symm; omega)) ((qaO (qey B22.out hg_ (fun e_ => HL22.out.1 g4 e_.symm rfl)) 0).trans rfl) (fun a ha => by have h_ := List.all_eq_true.1 HSO.out x (by rw [← HROW.out]; exact hx); exact List.all_eq_true.1 h_ a ha))); rintro e w24 ⟨rfl, hR_, hg_⟩; refine ⟨_, rfl, ?_⟩; have HBx := ak_ (HB22.out.grown hg_ HB22.out.size (Kd.qc1 HL22.out)); have HR24 := ak_ hR_; clear hR_ hg_ HL22 HB22 B22 HS22))
    have h_ := HFIN.out; simp only [Option.some.injEq, Prod.mk.injEq] at h_; obtain ⟨rfl, rfl⟩ := h_
    go_ret2
    exact ⟨_, rfl, Kd.qaT (Kd.qby HR24.out (Nat.le_trans HBA.out.size (Nat.le_refl _))) (fun _ _ => trivial), qac HBA.out HBx.out⟩
section
attribute [local go_sem] qfe qfg qf0 qf1 qeA qeB qff qfh
attribute [local go_sem high] qoQ
def qbR.l0 : Nat → List (qaj) → Int → Int → Int → Int → Option (Bool)
 | 0, _, _, _, _, _ => none
 | k + 1, x7, x8, x9, qeo, qeF => if x9 < x8 then (if 0 ≤ x9 then (if x9 < (x7.length : Int) then (if (((qab x7 x9).f0) == qeo && (((qab x7 x9).f1) == qeF)) = true then (some true) else (qbR.l0 k x7 x8 (wrap64 (x9 + 1)) qeo qeF)) else (none)) else (none)) else (some false)
def qbR.f (k : Nat) (l0 : List (qaj)) (qc8 : Int) (qdG : Int) : Option (Bool) := qbR.l0 k l0 (l0.length : Int) 0 qc8 qdG
theorem qbR.calls (k : Nat) (A0 : Option Addr) (c0 : Nat) (l0 : List (qaj)) (qc8 : Int) (qdG : Int) (r : Bool) (w : World) (hr0 : Kd.C qa1 w A0 l0.length l0) (hc0 : l0.length ≤ c0) (h : qbR.f k l0 qc8 qdG = some r) :
  Calls Tryz.prog 42 #[.slice A0 l0.length c0, .agg #[.int .i64 qc8, .int .i64 qdG]] w fun e w' => e = .returned (.bool r) ∧ Below w.heap.size w w' := by
 have qkE := Tryz.underlying33; have HR0 := ak_ hr0; have HC0 := ak_ hc0; clear hr0 hc0; have HB := ak_ (Below.refl w.heap.size w); have H : (qbR.l0 k l0 (l0.length : Int) 0 qc8 qdG) = some r := h; clear h; have H' := ak_ H; clear H; go_enter Tryz.func42, Tryz.ntmps42
 go_wp2_with (first | ((with_reducible refine qas (N := 3) rfl ?_); refine bx_ 3 (cs := #[.int .i64 qc8, .int .i64 qdG]) (t := 33) qa0 ?_; intro qaR hg w3 hbox hb; have qai := ak_ (hbox); have qcB := ak_ (HB.ge hg); have qcg := ak_ (HB.ge hg); replace HB := HB.mw hb; clear hb hbox hg))
 go_loopg [9] k (fun kq v9 w' => ∃ (qdj : Int), v9 = .int .i64 qdj ∧ qah (qbR.l0 kq l0 (l0.length : Int) qdj qc8 qdG = some r) ∧ qah (kq ≤ k) ∧ qah (w'.heap[qaR]? = some (.cells #[.int .i64 qc8, .int .i64 qdG] 33 (0, 0))) ∧ qah (Below w.heap.size w w'))
 case atStart => exact ⟨(0), qbg, H', ⟨Nat.le_refl _⟩, ⟨qch⟩, ⟨qaM⟩⟩
 case round =>
  clear H'; obtain ⟨qdj, rfl, HA, HK1, qai, HB⟩ := hrel
  cases gk with
  | zero => exact absurd HA.out (by simp [qbR.l0])
  | succ k1 =>
   have H := HA.out; clear HA; simp only [qbR.l0] at H; by_cases c4 : qdj < (l0.length : Int); rotate_left
   ·rw [if_neg c4] at H; have qhF : decide (qdj < (l0.length : Int)) = false := decide_eq_false c4; clear c4; obtain rfl := Option.some.inj H; go_wp2
    go_ret
    exact ⟨qbx, qaM⟩
   rw [if_pos c4] at H; have qhF : decide (qdj < (l0.length : Int)) = true := decide_eq_true c4; clear c4; by_cases c5 : 0 ≤ qdj; rotate_left
   ·rw [if_neg c5] at H; exact absurd H (by simp)
   rw [if_pos c5] at H; have qi9 : decide (0 ≤ qdj) = true := decide_eq_true c5; clear c5; by_cases c6 : qdj < (l0.length : Int); rotate_left
   ·rw [if_neg c6] at H; exact absurd H (by simp)
   rw [if_pos c6] at H; have qkn : decide (qdj < (l0.length : Int)) = true := decide_eq_true c6; clear c6; by_cases c7 : (((qab l0 qdj).f0) == qc8 && (((qab l0 qdj).f1) == qdG)) = true
   ·rw [if_pos c7] at H; have qiI : (((qab l0 qdj).f0) == qc8 && (((qab l0 qdj).f1) == qdG)) = true := c7; (try (have qmR : decide (((qab l0 qdj).f0) = qc8 && (((qab l0 qdj).f1) == qdG)) = true := by simpa using c7)); (try (have c7b2 : (((qab l0 qdj).f0) == qc8 && (((qab l0 qdj).f1) == qdG)) = true := by simpa using c7)); clear c7; obtain rfl := Option.some.inj H; have qhn : 0 ≤ (qdj : Int) := of_decide_eq_true qa8; have qho : qdj < (l0.length : Int) := of_decide_eq_true qa8; obtain ⟨qnw, qnL, qdw, qdI⟩ := qcq HR0.out qdj qhn qho
    cases qnL
    replace qdw := (HB.out.cell (World.block_lt_of_cell? w _ qdw)).trans qdw; replace qdI := (HB.out.cell (World.block_lt_of_cell? w _ qdI)).trans qdI; replace qhn := eq_true qhn; replace qho := eq_true qho
    go_wp2_with (first | ((with_reducible refine qas (N := 6) rfl ?_); refine bx_ 6 (cs := #[.int .i64 0, .int .i64 0]) (t := 33) qa0 ?_; intro qls hg w8 hbox hb; have qpL := ak_ (hbox); have GW103 := ak_ ((by rw [hg]; exact (qal qaM) : w.heap.size ≤ qls)); have qpM := ak_ ((by rw [hg]; exact (qal qaM) : w.heap.size ≤ qls)); replace HB := ak_ (qac qaM hb); have qfH := ak_ (qai.ne hg); have qgo := ak_ (qai.ne hg).symm; replace qai := qai.mw hb; clear hb hbox hg; have hnb9 := qgo.out; have hnc9 := qfH.out; obtain ⟨qiL, qiM, qiT, qiU⟩ := qa2 qpL.out; obtain ⟨qgv, qgw, qgx, qgy⟩ := qa2 qai.out))
    go_ret
    exact ⟨qbx, by apply_rules only [HB.out, qau, qao, qap, qaw, qcg.out, qpM.out]⟩
   rw [if_neg c7] at H
   have qiI : (((qab l0 qdj).f0) == qc8 && (((qab l0 qdj).f1) == qdG)) = false := by simpa using c7
   (try (have qmR : decide (((qab l0 qdj).f0) = qc8 && (((qab l0 qdj).f1) == qdG)) = false := by simpa using c7)); (try (have c7b2 : (((qab l0 qdj).f0) == qc8 && (((qab l0 qdj).f1) == qdG)) = false := by simpa using c7)); (try (have c7b3 : ¬ (((qab l0 qdj).f0) = qc8 && (((qab l0 qdj).f1) == qdG)) := by simpa using c7)); clear c7; have H' := ak_ H; clear H; have qhn : 0 ≤ (qdj : Int) := of_decide_eq_true qa8; have qho : qdj < (l0.length : Int) := of_decide_eq_true qa8; obtain ⟨qnw, qnL, qdw, qdI⟩ := qcq HR0.out qdj qhn qho
   cases qnL
   replace qdw := (HB.out.cell (World.block_lt_of_cell? w _ qdw)).trans qdw; replace qdI := (HB.out.cell (World.block_lt_of_cell? w _ qdI)).trans qdI; replace qhn := eq_true qhn; replace qho := eq_true qho
   go_wp2_with (first | ((with_reducible refine qas (N := 6) rfl ?_); refine bx_ 6 (cs := #[.int .i64 0, .int .i64 0]) (t := 33) qa0 ?_; intro qls hg w12 hbox hb; have qpL := ak_ (hbox); have GW103 := ak_ ((by rw [hg]; exact (qal qaM) : w.heap.size ≤ qls)); have qpM := ak_ ((by rw [hg]; exact (qal qaM) : w.heap.size ≤ qls)); replace HB := ak_ (qac qaM hb); have qfH := ak_ (qai.ne hg); have qgo := ak_ (qai.ne hg).symm; replace qai := qai.mw hb; clear hb hbox hg; have hnb13 := qgo.out; have hnc13 := qfH.out; obtain ⟨qjL, qjM, qjR, qjS⟩ := qa2 qpL.out; obtain ⟨qiN, qiO, qiV, qiW⟩ := qa2 qai.out))
   go_roundg k1
   case measure => have := HK1.out; omega
   case rel => exact ⟨(wrap64 (qdj + 1)), qbg, H', ⟨qgl⟩, ⟨k26_⟩, ⟨by apply_rules only [HB.out, qau, qao, qap, qaw, qcg.out, qpM.out]⟩⟩
end
def qfv (k : Nat) (x : qaj) (a : List qaj) : Bool := qbR.f k a x.f0 x.f1 == some true
def qcK.f (k : Nat) (qax : ByteArray) (qaZ : Int) : Option (List qaj × Bool) := (qba.f k qax qaZ).bind fun b => if b.2 = true then (if b.1.length = 0 then some ([], false) else (if (qar b.1 0).length < 8796093022207 ∧ ((qar b.1 0).all fun x => b.1.all fun a => (qbR.f k a x.f0 x.f1).isSome) = true then some ((qar b.1 0).filter (fun x => b.1.all (qfv k x)), true) else none)) else some ([], false)
theorem qui (l : List qaj) (p : qaj → Bool) (j : Nat) (h : j < l.length) : (l.take (j + 1)).filter p = (l.take j).filter p ++ (if p (qab l (j : Int)) = true then [qab l (j : Int)] else []) := by
  rw [List.take_succ_eq_append_getElem h, List.filter_append]
  congr 1
  have e_ : qab l (j : Int) = l[j] := by simp [qab, List.getD, h]
  rw [e_]; by_cases c : p l[j] = true
  ·rw [if_pos c, List.filter_cons, if_pos c, List.filter_nil]
  rw [if_neg c, List.filter_cons, if_neg c, List.filter_nil]
theorem sure_all (L : List (List qaj)) (p : List qaj → Bool) (j : Nat) (h : j < L.length) : (L.take (j + 1)).all p = ((L.take j).all p && p (qar L (j : Int))) := by
  rw [List.take_succ_eq_append_getElem h, List.all_append, show qar L (j : Int) = L[j] by simp [qar, List.getD, h]]
  simp
theorem qcK.calls (k : Nat) (qax : ByteArray) (qaZ : Int) (r1 : List qaj) (r2 : Bool) (w : World) (h : qcK.f k qax qaZ = some (r1, r2)) :
    Calls Tryz.prog 12 #[.agg #[.string qax, .int .i64 qaZ]] w fun e w' => ∃ v0_ : Value, e = .returned (.tuple #[v0_, .bool r2]) ∧ Kd.R qa1 33 w' w.heap.size (fun _ => True) v0_ r1 ∧ Below w.heap.size w w' := by
  have hu := Tryz.underlying23; have hu2 := Tryz.underlying33; unfold qcK.f at h; replace h := Option.bind_eq_some_iff.mp h; obtain ⟨⟨L, t⟩, A0_, h⟩ := h; have A1 := ak_ A0_; clear A0_; replace h : (if t = true then (if L.length = 0 then some ([], false) else (if (qar L 0).length < 8796093022207 ∧ ((qar L 0).all fun x => L.all fun a => (qbR.f k a x.f0 x.f1).isSome) = true then some ((qar L 0).filter (fun x => L.all (qfv k x)), true) else none)) else some ([], false)) = some (r1, r2) := h
  cases t with
  | false =>
    rw [if_neg (by decide)] at h; simp only [Option.some.injEq, Prod.mk.injEq] at h; obtain ⟨rfl, rfl⟩ := h; go_enter Tryz.func12, Tryz.ntmps12
    go_wp2_with (first | ((with_reducible refine qas (N := 1) rfl ?_); (try (refine qav (by rfl) ?_; dsimp only)); refine bx_ 1 (cs := #[.string qax, .int .i64 qaZ]) (t := 23) qa0 ?_; intro gP hg w1 hbox hb; have BP1 := ak_ hbox; have HB1 := ak_ hb; have qnP : w1.cell? ⟨gP, 0, none⟩ = some (.string qax) := (qaO hbox 0).trans rfl; have qnQ : w1.cell? ⟨gP, 1, none⟩ = some (.int .i64 qaZ) := (qaO hbox 1).trans rfl; clear hbox hb hg) | ((with_reducible refine qad (f := 36) rfl ?_); refine gl_ 14 Tryz.func36 #[.agg #[.string qax, .int .i64 qaZ]] rfl qeX ?_; (with_reducible refine (qba.calls k qax qaZ L false _ A1.out).mono ?_); rintro e wA ⟨v8, rfl, ho, hb⟩; refine ⟨_, rfl, ?_⟩; have HBA := ak_ (qac HB1.out hb); obtain ⟨AL, cL, eL⟩ := Kd.qcU ho; subst eL; have HSA := ak_ ho; clear ho hb qnP qnQ BP1 HB1))
    go_ret2
    exact ⟨_, rfl, Kd.qkl _ _ _ _ _, HBA.out⟩
  | true =>
    rw [if_pos rfl] at h; by_cases c1_ : L.length = 0
    ·rw [if_pos c1_] at h; simp only [Option.some.injEq, Prod.mk.injEq] at h; obtain ⟨rfl, rfl⟩ := h; have c1b : ((L.length : Int) == 0) = true := beq_iff_eq.2 (by omega); clear c1_; go_enter Tryz.func12, Tryz.ntmps12
     go_wp2_with (first | ((with_reducible refine qas (N := 1) rfl ?_); (try (refine qav (by rfl) ?_; dsimp only)); refine bx_ 1 (cs := #[.string qax, .int .i64 qaZ]) (t := 23) qa0 ?_; intro gP hg w1 hbox hb; have BP1 := ak_ hbox; have HB1 := ak_ hb; have qnP : w1.cell? ⟨gP, 0, none⟩ = some (.string qax) := (qaO hbox 0).trans rfl; have qnQ : w1.cell? ⟨gP, 1, none⟩ = some (.int .i64 qaZ) := (qaO hbox 1).trans rfl; clear hbox hb hg) | ((with_reducible refine qad (f := 36) rfl ?_); refine gl_ 14 Tryz.func36 #[.agg #[.string qax, .int .i64 qaZ]] rfl qeX ?_; (with_reducible refine (qba.calls k qax qaZ L true _ A1.out).mono ?_); rintro e wA ⟨v8, rfl, ho, hb⟩; refine ⟨_, rfl, ?_⟩; have HBA := ak_ (qac HB1.out hb); obtain ⟨AL, cL, eL⟩ := Kd.qcU ho; subst eL; have HSA := ak_ ho; clear ho hb qnP qnQ BP1 HB1))
     go_ret2
     exact ⟨_, rfl, Kd.qkl _ _ _ _ _, HBA.out⟩
    rw [if_neg c1_] at h; have c1b : ((L.length : Int) == 0) = false := beq_eq_false_iff_ne.2 (by omega); have HL0 := ak_ (Nat.pos_of_ne_zero c1_); by_cases c2_ : (qar L 0).length < 8796093022207 ∧ ((qar L 0).all fun x => L.all fun a => (qbR.f k a x.f0 x.f1).isSome) = true; rotate_left
    ·rw [if_neg c2_] at h; exact absurd h (by simp)
    rw [if_pos c2_] at h
    obtain ⟨row, hrow⟩ : ∃ l_, l_ = qar L 0 := ⟨_, rfl⟩
    rw [← hrow] at h c2_; have HLB := ak_ c2_.1; have HSO := ak_ c2_.2; have HROW := ak_ hrow; have HFIN := ak_ h; clear h c2_ c1_ hrow; go_enter Tryz.func12, Tryz.ntmps12
    go_wp2_with (first | ((with_reducible refine qas (N := 1) rfl ?_); (try (refine qav (by rfl) ?_; dsimp only)); refine bx_ 1 (cs := #[.string qax, .int .i64 qaZ]) (t := 23) qa0 ?_; intro gP hg w1 hbox hb; have BP1 := ak_ hbox; have HB1 := ak_ hb; have qnP : w1.cell? ⟨gP, 0, none⟩ = some (.string qax) := (qaO hbox 0).trans rfl; have qnQ : w1.cell? ⟨gP, 1, none⟩ = some (.int .i64 qaZ) := (qaO hbox 1).trans rfl; clear hbox hb hg) | ((with_reducible refine qad (f := 36) rfl ?_); refine gl_ 14 Tryz.func36 #[.agg #[.string qax, .int .i64 qaZ]] rfl qeX ?_; (with_reducible refine (qba.calls k qax qaZ L true _ A1.out).mono ?_); rintro e wA ⟨v8, rfl, ho, hb⟩; refine ⟨_, rfl, ?_⟩; have HBA := ak_ (qac HB1.out hb); obtain ⟨AL, cL, eL⟩ := Kd.qcU ho; subst eL; have HSA := ak_ ho; clear ho hb qnP qnQ BP1 HB1; have HLL := ak_ (show L.length ≤ 9223372036854775807 from Kd.qrl (Kd.S_reads' HSA.out).2.2); obtain ⟨ad, AR, cR, eR, hxR, hlR, hiR⟩ := qfL (Kd.S_reads' HSA.out).2.2 0 (by omega) (by have := HL0.out; omega); cases eR; (try rw [show ((0 : Int)).toNat = 0 from rfl] at hxR); (try rw [Addr.add_zero'] at hxR); rw [← HROW.out] at hxR hlR hiR; have HIR := ak_ hiR; have qL_ : (0 < L.length) = True := eq_true HL0.out; have qLz_ : ((0 : Int) < (L.length : Int)) = True := eq_true (by have := HL0.out; omega); clear hiR hlR))
    go_loopg [6, 28] row.length (fun gg v6 v28 wx => ∃ i : Nat, v28 = .int .i64 i ∧ i ≤ row.length ∧ row.length - i ≤ gg ∧ qah (Kd.R qa1 33 wx wA.heap.size (fun _ => True) v6 ((row.take i).filter (fun x => L.all (qfv k x)))) ∧ qah (Below wA.heap.size wA wx))
    case atStart => exact ⟨0, rfl, Nat.zero_le _, Nat.le_refl _, ⟨Kd.qkl _ _ _ _ _⟩, ⟨Below.refl _ _⟩⟩
    case round =>
      clear hxR; obtain ⟨i, rfl, hi, hgg, HO, HW⟩ := hrel; have hjb : row.length < 8796093022207 := HLB.out; by_cases hlt : i < row.length; rotate_left
      ·obtain rfl : i = row.length := by omega
       have c1y : decide ((row.length : Int) < (row.length : Int)) = false := decide_eq_false (by omega); have c1c : decide (row.length < row.length) = false := decide_eq_false (by omega); have h_ := HFIN.out; simp only [Option.some.injEq, Prod.mk.injEq] at h_; obtain ⟨rfl, rfl⟩ := h_; have HR := ak_ (show Kd.R qa1 33 wr wA.heap.size (fun _ => True) u6 (row.filter (fun x => L.all (qfv k x))) by have h2_ := HO.out; rw [List.take_length] at h2_; exact h2_); go_wp2
       go_ret2
       exact ⟨_, rfl, Kd.qby HR.out HBA.out.size, qac HBA.out HW.out⟩
      have c1z : (i : Int) < (row.length : Int) := by omega
      have c1y : decide ((i : Int) < (row.length : Int)) = true := decide_eq_true c1z; have c1c : decide (i < row.length) = true := decide_eq_true hlt; obtain ⟨ad2, e_, hx0, hx1⟩ := qcq (Kd.qer HIR.out HW.out) (i : Int) (by omega) (by omega)
      cases e_
      simp only [Int.toNat_natCast] at hx0 hx1; have HT := ak_ (qui row (fun x => L.all (qfv k x)) i hlt); have HXM := ak_ (show ∀ a ∈ L, (qbR.f k a (qab row (i : Int)).f0 (qab row (i : Int)).f1).isSome = true from fun a ha => List.all_eq_true.1 (List.all_eq_true.1 HSO.out (qab row (i : Int)) (by rw [show qab row (i : Int) = row[i] by simp [qab, List.getD, hlt]]; exact List.getElem_mem hlt)) a ha)
      obtain ⟨x, hx_⟩ : ∃ x_, x_ = qab row (i : Int) := ⟨_, rfl⟩
      rw [← hx_] at hx0 hx1 HT HXM; clear hx_
      obtain ⟨Y, hY⟩ : ∃ l_, l_ = (row.take i).filter (fun x => L.all (qfv k x)) := ⟨_, rfl⟩
      have HYL := ak_ (show Y.length ≤ row.length by rw [hY]; exact Nat.le_trans (List.length_filter_le _ _) (by rw [List.length_take]; omega)); have HO1 := ak_ (show Kd.R qa1 33 wr wA.heap.size (fun _ => True) u6 Y by rw [hY]; exact HO.out); have HY := ak_ hY; clear hY HO
      go_wp2_with (first | ((with_reducible refine qas (N := 8) rfl ?_); (try (refine qav (by rfl) ?_; dsimp only)); refine bx_ 8 (cs := #[.int .i64 0, .int .i64 0]) (t := 33) qa0 ?_; intro g8 hg w20 hbox hb; have BK := ak_ hbox; have HB0 := ak_ hb; have G8 := ak_ hg; have qr5 : w20.cell? ⟨g8, 0, none⟩ = some (.int .i64 0) := (qaO hbox 0).trans rfl; have qr6 : w20.cell? ⟨g8, 1, none⟩ = some (.int .i64 0) := (qaO hbox 1).trans rfl; have qr7 := qaU hbox 0; have qr8 := qaU hbox 1; clear hbox hb hg))
      have BK8 := ak_ (show ((w20.setCell ⟨g8, 0, none⟩ (.int .i64 x.f0)).setCell ⟨g8, 1, none⟩ (.int .i64 x.f1)).heap[g8]? = _ from qaQ (cs' := #[.int .i64 x.f0, .int .i64 x.f1]) (qaQ (cs' := #[.int .i64 x.f0, .int .i64 0]) BK.out 0 _ rfl) 1 _ rfl); have qsj := ak_ (show Below wr.heap.size wr ((w20.setCell ⟨g8, 0, none⟩ (.int .i64 x.f0)).setCell ⟨g8, 1, none⟩ (.int .i64 x.f1)) from qaw (qaw HB0.out (Nat.le_of_eq G8.out.symm)) (Nat.le_of_eq G8.out.symm)); clear qr5 qr6 qr7 qr8 BK HB0
      generalize ((w20.setCell ⟨g8, 0, none⟩ (.int .i64 x.f0)).setCell ⟨g8, 1, none⟩ (.int .i64 x.f1)) = w8 at BK8 qsj ⊢
      have hcA := qbj BK8.out; have hcB := qbm BK8.out; have HO8 := ak_ (Kd.qbn (Kd.qcQ HO1.out g8 (Nat.le_of_eq G8.out.symm)) qsj.out); have HB8 := ak_ (qac HW.out qsj.out); clear HO1
      go_loopg [9, 34] L.length (fun gb v9 v34 wx => ∃ j : Nat, v34 = .int .i64 j ∧ v9 = .bool ((L.take j).all (qfv k x)) ∧ j ≤ L.length ∧ L.length - j ≤ gb ∧ qah (Below w8.heap.size w8 wx))
      case atStart => exact ⟨0, rfl, rfl, Nat.zero_le _, Nat.le_refl _, ⟨Below.refl _ _⟩⟩
      case round =>
        clear hcA hcB; obtain ⟨j, rfl, rfl, hj, hgb, HW2⟩ := hrel; have BKr := ak_ (qam BK8.out HW2.out); have hcA := qbj BKr.out; have hcB := qbm BKr.out; have hLb : L.length ≤ 9223372036854775807 := HLL.out; by_cases hlt2 : j < L.length; rotate_left
        ·obtain rfl : j = L.length := by omega
         have c2y : decide ((L.length : Int) < (L.length : Int)) = false := decide_eq_false (by omega); have c2c : decide (L.length < L.length) = false := decide_eq_false (by omega); rw [List.take_length]; have HO9 := ak_ (Kd.qbn HO8.out HW2.out); have HB9 := ak_ (qac HB8.out HW2.out)
         cases hsure : L.all (qfv k x) with
         | true =>
           have HSU := ak_ hsure; clear hsure
           go_wp2_with (first | ((with_reducible refine qca (b := .append) (xs := #[.tmp 46, .tmp 48]) rfl ?_); at_builtin; refine Kd.qfc qa1 (w0 := wA) wA.heap.size rfl (.tmp 46) (.tmp 48) 24 33 (.agg #[(.int .i64 0), (.int .i64 0)]) 16 rfl Tryz.underlying24 qc4 rfl (by decide) (by omega) u6 Y x [.int .i64 x.f0, .int .i64 x.f1] (fun k_ => k_ ≠ g8) (fun _ => False) rfl rfl ?aP (fun _ hk => hk.elim) ?aF ?aO ?aB ?aS ?aL ?_; (case aP => exact qdp _ _ _ x); (case aB => exact (by repeat (first | (with_reducible first | exact HB9.out | apply qau | apply qao | apply qap) | exact HB9.out))); (case aF => exact (fun k_ hk => Kd.qoV (g := g8) (by (with_reducible repeat (first | refine qag ?_ _ | refine qae ?_ | refine qaf ?_ _)); exact BKr.out) k_ hk)); (case aO => exact (by (with_reducible repeat (first | apply Kd.qaA | apply Kd.qaz | apply Kd.qaL)); exact Kd.qaT HO9.out (fun _ hk => hk.2))); (case aS => exact (qal (by repeat (first | (with_reducible first | exact HB9.out | apply qau | apply qao | apply qap) | exact HB9.out)))); (case aL => have h_ := HLB.out; have h2_ := HYL.out; omega); intro v45 w11 ho hb hg hat; have HOB := ak_ ho; have HBN := ak_ hb; clear ho hb hg hat))
           go_roundg (row.length - (i + 1))
           case measure => omega
           case rel => exact ⟨i + 1, by go_num, by omega, Nat.le_refl _, ⟨by rw [HT.out, if_pos HSU.out, ← HY.out]; exact Kd.qaT HOB.out (fun _ _ => trivial)⟩, HBN⟩
         | false =>
           have HSU := ak_ hsure; clear hsure; go_wp2
           go_roundg (row.length - (i + 1))
           case measure => omega
           case rel => exact ⟨i + 1, by go_num, by omega, Nat.le_refl _, ⟨by rw [HT.out, if_neg (by rw [HSU.out]; decide), List.append_nil, ← HY.out]; exact Kd.qaT HO9.out (fun _ _ => trivial)⟩, HB9⟩
        have c2z : (j : Int) < (L.length : Int) := by omega
        have c2y : decide ((j : Int) < (L.length : Int)) = true := decide_eq_true c2z; have c2c : decide (j < L.length) = true := decide_eq_true hlt2; obtain ⟨ad3, A3, c3, e3_, hx3, hl3, hi3⟩ := qfL (Kd.S_reads' (Kd.qdB HSA.out (qac HB8.out HW2.out))).2.2 (j : Int) (by omega) (by omega)
        cases e3_
        simp only [Int.toNat_natCast] at hx3; have HC3 := ak_ hi3; have HL3 := ak_ hl3; obtain ⟨b, hb_⟩ : ∃ b, qbR.f k (qar L (j : Int)) x.f0 x.f1 = some b := Option.isSome_iff_exists.1 (HXM.out _ (by rw [show qar L (j : Int) = L[j] by simp [qar, List.getD, hlt2]]; exact List.getElem_mem hlt2)); have HA3 := ak_ hb_; have HS3 := ak_ (sure_all L (qfv k x) j hlt2); have HP3 := ak_ (show qfv k x (qar L (j : Int)) = b by unfold qfv; rw [hb_]; cases b <;> rfl); clear hi3 hl3 hb_
        obtain ⟨row3, hrow3⟩ : ∃ l_, l_ = qar L (j : Int) := ⟨_, rfl⟩
        rw [← hrow3] at HC3 HL3 HA3 HS3 HP3 hx3; clear hrow3
        cases hsure : (L.take j).all (qfv k x) with
        | true =>
          have HSU := ak_ hsure; clear hsure
          go_wp2_with (first | ((with_reducible refine qad (f := 42) rfl ?_); (try (refine qav (by rfl) ?_; dsimp only)); refine gl_ 42 Tryz.func42 #[.slice A3 row3.length c3, .agg #[.int .i64 x.f0, .int .i64 x.f1]] rfl qeX ?_; (with_reducible refine (qbR.calls k _ _ row3 x.f0 x.f1 b _ ?qaB ?qaC HA3.out).mono ?_); (case qaB => exact HC3.out); (case qaC => exact HL3.out); rintro e wH ⟨rfl, hbH⟩; refine ⟨_, rfl, ?_⟩; have HBH := ak_ hbH; clear hbH))
          go_roundg (L.length - (j + 1))
          case measure => omega
          case rel => exact ⟨j + 1, by go_num, by rw [HS3.out, HSU.out, HP3.out]; rfl, by omega, Nat.le_refl _, ⟨qac HW2.out HBH.out⟩⟩
        | false =>
          have HSU := ak_ hsure; clear hsure; go_wp2
          go_roundg (L.length - (j + 1))
          case measure => omega
          case rel => exact ⟨j + 1, by go_num, by rw [HS3.out, HSU.out]; rfl, by omega, Nat.le_refl _, HW2⟩
def qcr.f (k : Nat) (qax : ByteArray) (qaZ : Int) : Option ((List (qaj)) × Bool) := (qa7.f qax qaZ).bind fun qaF => (if qaF = true then ((qaW.f k qax).bind fun qaX => (some (qaX, true))) else (some (([] : List (qaj)), false)))
theorem qcr.calls (k : Nat) (qax : ByteArray) (qaZ : Int) (r1 : List (qaj)) (r2 : Bool) (w : World) (h : qcr.f k qax qaZ = some (r1, r2)) :
  Calls Tryz.prog 13 #[.agg #[.string qax, .int .i64 qaZ]] w fun e w' => ∃ v0_ : Value, e = .returned (.tuple #[v0_, .bool r2]) ∧ Kd.R qa1 33 w' w.heap.size (fun _ => True) v0_ r1 ∧ Below w.heap.size w w' := by
 have qiv := Tryz.underlying23; have HB := ak_ (Below.refl w.heap.size w); have H : ((qa7.f qax qaZ).bind fun qaF => (if qaF = true then ((qaW.f k qax).bind fun qaX => (some (qaX, true))) else (some (([] : List (qaj)), false)))) = some (r1, r2) := h; clear h; obtain ⟨qaF, A2, H⟩ := qbh H; (try dsimp only at H); by_cases c3 : qaF = true
 ·subst c3; rw [if_pos rfl] at H; obtain ⟨qaX, A4, H⟩ := qbh H; (try dsimp only at H); simp only [Option.some.injEq, Prod.mk.injEq] at H; obtain ⟨rfl, rfl⟩ := H; go_enter Tryz.func13, Tryz.ntmps13
  go_wp2_with (first | ((with_reducible refine qas (N := 1) rfl ?_); refine bx_ 1 (cs := #[.string qax, .int .i64 qaZ]) (t := 23) qa0 ?_; intro qaR hg w5 hbox hb; have qai := ak_ (hbox); have qcB := ak_ (HB.ge hg); have qcg := ak_ (HB.ge hg); replace HB := HB.mw hb; clear hb hbox hg; obtain ⟨qjn, qjo, qkd, qjq⟩ := qa2 qai.out) | ((with_reducible refine qad (f := 43) rfl ?_); refine gl_ 5 Tryz.func43 #[.agg #[.string qax, .int .i64 qaZ]] rfl qbK ?_; (with_reducible refine (qa7.calls qax qaZ true _ A2.out).mono ?_); rintro e w7 ⟨rfl, hb⟩; refine ⟨_, rfl, ?_⟩; replace qai := qai.mw hb; replace HB := ak_ (qac qaM hb); (try clear hb); obtain ⟨qgg, qgh, qgz, qgi⟩ := qa2 qai.out) | ((with_reducible refine qad (f := 44) rfl ?_); refine gl_ 9 Tryz.func44 #[.string qax] rfl qbK ?_; (with_reducible refine (qaW.calls k qax qaX _ A4.out).mono ?_); rintro e w9 ⟨v104, rfl, ho0, hb⟩; refine ⟨_, rfl, ?_⟩; have qfF := ak_ (Kd.qby ho0 (qal qaM)); replace qai := qai.mw hb; replace HB := ak_ (qac qaM hb); (try clear hb ho0)))
  go_ret2
  exact ⟨_, qbx, by (with_reducible repeat (first | apply Kd.qaA | apply Kd.qaz | apply Kd.qaL)); exact qfF.out, qaM⟩
 replace c3 := Bool.eq_false_iff.mpr c3; subst c3; rw [if_neg (show ¬ (false = true) by decide)] at H; simp only [Option.some.injEq, Prod.mk.injEq] at H; obtain ⟨rfl, rfl⟩ := H; go_enter Tryz.func13, Tryz.ntmps13
 go_wp2_with (first | ((with_reducible refine qas (N := 1) rfl ?_); refine bx_ 1 (cs := #[.string qax, .int .i64 qaZ]) (t := 23) qa0 ?_; intro qaR hg w10 hbox hb; have qai := ak_ (hbox); have qcB := ak_ (HB.ge hg); have qcg := ak_ (HB.ge hg); replace HB := HB.mw hb; clear hb hbox hg; obtain ⟨qgv, qgw, qgx, qgy⟩ := qa2 qai.out) | ((with_reducible refine qad (f := 43) rfl ?_); refine gl_ 5 Tryz.func43 #[.agg #[.string qax, .int .i64 qaZ]] rfl qbK ?_; (with_reducible refine (qa7.calls qax qaZ false _ A2.out).mono ?_); rintro e w12 ⟨rfl, hb⟩; refine ⟨_, rfl, ?_⟩; replace qai := qai.mw hb; replace HB := ak_ (qac qaM hb); (try clear hb)))
 go_ret2
 exact ⟨_, qbx, qsa, qaM⟩
def qb6.f (k : Nat) (qax : ByteArray) (qaZ : Int) : Option ((List (qaj)) × Bool) := (qbl.f k qax qaZ).bind fun qaF => (if qaF = true then ((qbA.f k qax).bind fun qaX => (some (qaX, true))) else (some (([] : List (qaj)), false)))
theorem qb6.calls (k : Nat) (qax : ByteArray) (qaZ : Int) (r1 : List (qaj)) (r2 : Bool) (w : World) (h : qb6.f k qax qaZ = some (r1, r2)) :
  Calls Tryz.prog 14 #[.agg #[.string qax, .int .i64 qaZ]] w fun e w' => ∃ v0_ : Value, e = .returned (.tuple #[v0_, .bool r2]) ∧ Kd.R qa1 33 w' w.heap.size (fun _ => True) v0_ r1 ∧ Below w.heap.size w w' := by
 have qiv := Tryz.underlying23; have HB := ak_ (Below.refl w.heap.size w); have H : ((qbl.f k qax qaZ).bind fun qaF => (if qaF = true then ((qbA.f k qax).bind fun qaX => (some (qaX, true))) else (some (([] : List (qaj)), false)))) = some (r1, r2) := h; clear h; obtain ⟨qaF, A2, H⟩ := qbh H; (try dsimp only at H); by_cases c3 : qaF = true
 ·subst c3; rw [if_pos rfl] at H; obtain ⟨qaX, A4, H⟩ := qbh H; (try dsimp only at H); simp only [Option.some.injEq, Prod.mk.injEq] at H; obtain ⟨rfl, rfl⟩ := H; go_enter Tryz.func14, Tryz.ntmps14
  go_wp2_with (first | ((with_reducible refine qas (N := 1) rfl ?_); refine bx_ 1 (cs := #[.string qax, .int .i64 qaZ]) (t := 23) qa0 ?_; intro qaR hg w5 hbox hb; have qai := ak_ (hbox); have qcB := ak_ (HB.ge hg); have qcg := ak_ (HB.ge hg); replace HB := HB.mw hb; clear hb hbox hg; obtain ⟨qjn, qjo, qkd, qjq⟩ := qa2 qai.out) | ((with_reducible refine qad (f := 45) rfl ?_); refine gl_ 5 Tryz.func45 #[.agg #[.string qax, .int .i64 qaZ]] rfl qbK ?_; (with_reducible refine (qbl.calls k qax qaZ true _ A2.out).mono ?_); rintro e w7 ⟨rfl, hb⟩; refine ⟨_, rfl, ?_⟩; replace qai := qai.mw hb; replace HB := ak_ (qac qaM hb); (try clear hb); obtain ⟨qgg, qgh, qgz, qgi⟩ := qa2 qai.out) | ((with_reducible refine qad (f := 46) rfl ?_); refine gl_ 9 Tryz.func46 #[.string qax] rfl qbK ?_; (with_reducible refine (qbA.calls k qax qaX _ A4.out).mono ?_); rintro e w9 ⟨v104, rfl, ho0, hb⟩; refine ⟨_, rfl, ?_⟩; have qfF := ak_ (Kd.qby ho0 (qal qaM)); replace qai := qai.mw hb; replace HB := ak_ (qac qaM hb); (try clear hb ho0)))
  go_ret2
  exact ⟨_, qbx, by (with_reducible repeat (first | apply Kd.qaA | apply Kd.qaz | apply Kd.qaL)); exact qfF.out, qaM⟩
 replace c3 := Bool.eq_false_iff.mpr c3; subst c3; rw [if_neg (show ¬ (false = true) by decide)] at H; simp only [Option.some.injEq, Prod.mk.injEq] at H; obtain ⟨rfl, rfl⟩ := H; go_enter Tryz.func14, Tryz.ntmps14
 go_wp2_with (first | ((with_reducible refine qas (N := 1) rfl ?_); refine bx_ 1 (cs := #[.string qax, .int .i64 qaZ]) (t := 23) qa0 ?_; intro qaR hg w10 hbox hb; have qai := ak_ (hbox); have qcB := ak_ (HB.ge hg); have qcg := ak_ (HB.ge hg); replace HB := HB.mw hb; clear hb hbox hg; obtain ⟨qgv, qgw, qgx, qgy⟩ := qa2 qai.out) | ((with_reducible refine qad (f := 45) rfl ?_); refine gl_ 5 Tryz.func45 #[.agg #[.string qax, .int .i64 qaZ]] rfl qbK ?_; (with_reducible refine (qbl.calls k qax qaZ false _ A2.out).mono ?_); rintro e w12 ⟨rfl, hb⟩; refine ⟨_, rfl, ?_⟩; replace qai := qai.mw hb; replace HB := ak_ (qac qaM hb); (try clear hb)))
 go_ret2
 exact ⟨_, qbx, qsa, qaM⟩
def qgc (i : Nat) (x : qaj) : Bool := Int.tmod (wrap64 ((i : Int) + 1)) x.f0 != x.f1
def qcd.l0 : Nat → ByteArray → List qaj → Nat → Option (Int × Int × Int × Bool)
  | 0, _, _, _ => none
  | k + 1, s, rules, i => if i < s.size then (if i < 1000000 then (if bt s i = 120 then (if rules.length < 8796093022207 ∧ rules.all (fun x => x.f0 != 0) = true then (if (rules.filter (fun x => !qgc i x)).length = 1 then some (wrap64 ((i : Int) + 1), (qab (rules.filter (fun x => !qgc i x)) 0).f0, (qab (rules.filter (fun x => !qgc i x)) 0).f1, true) else qcd.l0 k s rules (i + 1)) else none) else qcd.l0 k s rules (i + 1)) else none) else some (0, 0, 0, false)
def qcd.f (k : Nat) (qax : ByteArray) (qaZ : Int) : Option (Int × Int × Int × Bool) := (qa7.f qax qaZ).bind fun t => if t = true then ((qaW.f k qax).bind fun rules => qcd.l0 k qax rules 0) else some (0, 0, 0, false)
theorem qlP (i : Nat) (B : Nat) (x : qaj) (W : World) (hx : x.f0 ≠ 0) (hn : W.cell? ⟨B, 0, none⟩ = some (.int .i64 (i : Int))) :
    Calls Tryz.prog 47 #[.agg #[.int .i64 x.f0, .int .i64 x.f1], .pointer (some ⟨B, 0, none⟩)] W fun e w' => e = .returned (.bool (qgc i x)) ∧ Below W.heap.size W w' := by
  have hu := Tryz.underlying33; have h1 : (x.f0 == 0) = false := beq_eq_false_iff_ne.2 hx; have h2 : (x.f0 != 0) = true := bne_iff_ne.2 hx; have hB : B < W.heap.size := World.block_lt_of_cell? W _ hn; unfold qgc; go_enter Tryz.func47, Tryz.ntmps47; go_wp2
  go_quiet (fail)
  go_wp2
  go_ret
  exact ⟨rfl, qao (qau (Below.refl _ _) _) _⟩
theorem qcd.calls (k : Nat) (qax : ByteArray) (qaZ : Int) (r1 r2 r3 : Int) (r4 : Bool) (w : World) (h : qcd.f k qax qaZ = some (r1, r2, r3, r4)) :
    Calls Tryz.prog 15 #[.agg #[.string qax, .int .i64 qaZ]] w fun e w' => e = .returned (.tuple #[.int .i64 r1, .agg #[.int .i64 r2, .int .i64 r3], .bool r4]) ∧ Below w.heap.size w w' := by
  have hu := Tryz.underlying23; have hu2 := Tryz.underlying33; unfold qcd.f at h; replace h := Option.bind_eq_some_iff.mp h; obtain ⟨t, A0_, h⟩ := h; have A1 := ak_ A0_; clear A0_
  cases t with
  | false =>
    rw [if_neg (by decide)] at h; simp only [Option.some.injEq, Prod.mk.injEq] at h; obtain ⟨rfl, rfl, rfl, rfl⟩ := h; go_enter Tryz.func15, Tryz.ntmps15
    go_wp2_with (first | ((with_reducible refine qas (N := 1) rfl ?_); (try (refine qav (by rfl) ?_; dsimp only)); refine bx_ 1 (cs := #[.string qax, .int .i64 qaZ]) (t := 23) qa0 ?_; intro gP hg w1 hbox hb; have BP1 := ak_ hbox; have HB1 := ak_ hb; have GP := ak_ (show w.heap.size ≤ gP by rw [hg]; exact Nat.le_refl _); have qnP : w1.cell? ⟨gP, 0, none⟩ = some (.string qax) := (qaO hbox 0).trans rfl; have qnQ : w1.cell? ⟨gP, 1, none⟩ = some (.int .i64 qaZ) := (qaO hbox 1).trans rfl; clear hbox hb hg) | ((with_reducible refine qas (N := 3) rfl ?_); (try (refine qav (by rfl) ?_; dsimp only)); refine bx_ 3 (cs := #[.int .i64 0, .int .i64 0]) (t := 33) qa0 ?_; intro gQ hg w2 hbox hb; have BQ2 := ak_ hbox; have BP2 := ak_ (qam BP1.out hb); have HB2 := ak_ (qac HB1.out hb); have GQ := ak_ (show gP < gQ by rw [hg]; exact qdN BP1.out); have hcq0 := qbj BP2.out; have hcq1 := qbm BP2.out; clear qnP qnQ BP1 HB1; clear hbox hb hg) | ((with_reducible refine qad (f := 43) rfl ?_); refine gl_ 9 Tryz.func43 #[.agg #[.string qax, .int .i64 qaZ]] rfl qeX ?_; (with_reducible refine (qa7.calls qax qaZ false _ A1.out).mono ?_); rintro e w3 ⟨rfl, hb⟩; refine ⟨_, rfl, ?_⟩; have BP3 := ak_ (qam BP2.out hb); have BQ3 := ak_ (qam BQ2.out hb); have HB3 := ak_ (qac HB2.out hb); have hcr0 := qbj BP3.out; obtain ⟨qmz, qmA, qmx, qmy⟩ := qa2 BQ3.out; clear BP2 BQ2 HB2 hcq0 hcq1; clear hb))
    refine bodyPost_ret (qdX (rs := [.tmp 2, .cell 3 33, .tmp 4]) rfl (by simp) (.tmp (.cell gQ 33 #[.int .i64 0, .int .i64 0] (0, 0) _ rfl (by first | exact BQ3.out | exact qaQ (cs' := #[.int .i64 0, .int .i64 0]) (qaQ (cs' := #[.int .i64 0, .int .i64 0]) BQ3.out 0 _ rfl) 1 _ rfl) Tryz.underlying33 rfl (by kernel_rfl) (.tmp .nil)))) rfl ?_; exact ⟨rfl, by first | exact HB3.out | exact qaw (qaw HB3.out qkv) qkv⟩
  | true =>
    rw [if_pos rfl] at h; replace h := Option.bind_eq_some_iff.mp h; obtain ⟨rules, A0_, h⟩ := h; have A2 := ak_ A0_; have H' := ak_ h; clear A0_ h; go_enter Tryz.func15, Tryz.ntmps15
    go_wp2_with (first | ((with_reducible refine qas (N := 1) rfl ?_); (try (refine qav (by rfl) ?_; dsimp only)); refine bx_ 1 (cs := #[.string qax, .int .i64 qaZ]) (t := 23) qa0 ?_; intro gP hg w1 hbox hb; have BP1 := ak_ hbox; have HB1 := ak_ hb; have GP := ak_ (show w.heap.size ≤ gP by rw [hg]; exact Nat.le_refl _); have qnP : w1.cell? ⟨gP, 0, none⟩ = some (.string qax) := (qaO hbox 0).trans rfl; have qnQ : w1.cell? ⟨gP, 1, none⟩ = some (.int .i64 qaZ) := (qaO hbox 1).trans rfl; clear hbox hb hg) | ((with_reducible refine qas (N := 3) rfl ?_); (try (refine qav (by rfl) ?_; dsimp only)); refine bx_ 3 (cs := #[.int .i64 0, .int .i64 0]) (t := 33) qa0 ?_; intro gQ hg w2 hbox hb; have BQ2 := ak_ hbox; have BP2 := ak_ (qam BP1.out hb); have HB2 := ak_ (qac HB1.out hb); have GQ := ak_ (show gP < gQ by rw [hg]; exact qdN BP1.out); have hcq0 := qbj BP2.out; have hcq1 := qbm BP2.out; clear qnP qnQ BP1 HB1; clear hbox hb hg) | ((with_reducible refine qad (f := 43) rfl ?_); refine gl_ 9 Tryz.func43 #[.agg #[.string qax, .int .i64 qaZ]] rfl qeX ?_; (with_reducible refine (qa7.calls qax qaZ true _ A1.out).mono ?_); rintro e w3 ⟨rfl, hb⟩; refine ⟨_, rfl, ?_⟩; have BP3 := ak_ (qam BP2.out hb); have BQ3 := ak_ (qam BQ2.out hb); have HB3 := ak_ (qac HB2.out hb); have hcr0 := qbj BP3.out; obtain ⟨qmz, qmA, qmx, qmy⟩ := qa2 BQ3.out; clear BP2 BQ2 HB2 hcq0 hcq1; clear hb) | ((with_reducible refine qad (f := 44) rfl ?_); refine gl_ 14 Tryz.func44 #[.string qax] rfl qeX ?_; (with_reducible refine (qaW.calls k qax rules _ A2.out).mono ?_); rintro e w4 ⟨v14, rfl, ho, hb⟩; refine ⟨_, rfl, ?_⟩; have BP4 := ak_ (qam BP3.out hb); have BQ4 := ak_ (qam BQ3.out hb); have HB4 := ak_ (qac HB3.out hb); obtain ⟨A5, c5, e5⟩ := Kd.qbC ho; subst e5; have HL4 := ak_ (Kd.qby ho HB3.out.size); have hcs0 := qbj BP4.out; clear BP3 BQ3 HB3 hcr0 qmz qmA qmx qmy; clear ho hb))
    go_loopg [18] k (fun kq v18 wx => ∃ i : Nat, v18 = .int .i64 i ∧ qah (qcd.l0 kq qax rules i = some (r1, r2, r3, r4)) ∧ qah (kq ≤ k) ∧ qah (wx.heap[gP]? = some (.cells #[.string qax, .int .i64 qaZ] 23 (0, 0))) ∧ qah (wx.heap[gQ]? = some (.cells #[.int .i64 0, .int .i64 0] 33 (0, 0))) ∧ qah (Kd.R qa1 33 wx w.heap.size (fun _ => True) (.slice A5 rules.length c5) rules) ∧ qah (Below w.heap.size w wx))
    case atStart => exact ⟨0, rfl, H', ⟨Nat.le_refl _⟩, BP4, BQ4, HL4, HB4⟩
    case round =>
      clear H' BP4 BQ4 HL4 HB4 hcs0; obtain ⟨i, rfl, HA_, HK, BP, BQ, HL, HB⟩ := hrel; have hcP0 := qbj BP.out
      cases gk with
      | zero => exact absurd HA_.out (by simp [qcd.l0])
      | succ k1 =>
        have H := HA_.out; clear HA_; simp only [qcd.l0] at H; by_cases c1_ : i < qax.size; rotate_left
        ·rw [if_neg c1_] at H; have c1b : decide ((i : Int) < (qax.size : Int)) = false := decide_eq_false (by omega); have c1c : decide (i < qax.size) = false := decide_eq_false c1_; clear c1_; simp only [Option.some.injEq, Prod.mk.injEq] at H; obtain ⟨rfl, rfl, rfl, rfl⟩ := H; obtain ⟨qmz, qmA, qmx, qmy⟩ := qa2 BQ.out; go_wp2; refine bodyPost_ret (qdX (rs := [.tmp 2, .cell 3 33, .tmp 4]) rfl (by simp) (.tmp (.cell gQ 33 #[.int .i64 0, .int .i64 0] (0, 0) _ rfl (qaQ (cs' := #[.int .i64 0, .int .i64 0]) (qaQ (cs' := #[.int .i64 0, .int .i64 0]) BQ.out 0 _ rfl) 1 _ rfl) Tryz.underlying33 rfl (by kernel_rfl) (.tmp .nil)))) rfl ?_; exact ⟨rfl, qaw (qaw HB.out qkv) qkv⟩
        rw [if_pos c1_] at H
        have c1z : (i : Int) < (qax.size : Int) := by omega
        have c1b : decide ((i : Int) < (qax.size : Int)) = true := decide_eq_true c1z; have c1c : decide (i < qax.size) = true := decide_eq_true c1_; have hbt : ∀ h : i < qax.size, ((qax[i]'h).toNat : Int) = bt qax i := qea qax (i : Int); by_cases c0_ : i < 1000000; rotate_left
        ·rw [if_neg c0_] at H; exact absurd H (by simp)
        rw [if_pos c0_] at H
        have c0z : (i : Int) < 1000000 := by omega
        by_cases c2_ : bt qax i = 120; rotate_left
        ·rw [if_neg c2_] at H; have c2b : (bt qax i != 120) = true := bne_iff_ne.2 c2_; have c2c : (bt qax i == 120) = false := beq_eq_false_iff_ne.2 c2_; clear c2_; have H' := ak_ H; clear H
         go_wp2_with (first | ((with_reducible refine qas (N := 6) rfl ?_); (try (refine qav (by rfl) ?_; dsimp only)); refine bx_ 6 (cs := #[.int .i64 0]) (t := 3) qa0 ?_; intro g6 hg w6 hbox hb; have B6_ := ak_ (show (w6.setCell ⟨g6, 0, none⟩ (.int .i64 (i : Int))).heap[g6]? = _ from qaQ (cs' := #[.int .i64 (i : Int)]) hbox 0 (.int .i64 (i : Int)) rfl); have qr1 := ak_ (show Below wr.heap.size wr (w6.setCell ⟨g6, 0, none⟩ (.int .i64 (i : Int))) from qaw hb (Nat.le_of_eq hg.symm)); have hc6 : w6.cell? ⟨g6, 0, none⟩ = some (.int .i64 0) := (qaO hbox 0).trans rfl; have hf6 := qaU hbox 0; have hcP6 : w6.cell? ⟨gP, 0, none⟩ = some (.string qax) := (qaO (qam BP.out hb) 0).trans rfl; have hne6 : gP ≠ g6 := (by rw [hg]; exact Nat.ne_of_lt (qdN BP.out)); have hne6' : ¬ g6 = gP := fun e_ => hne6 e_.symm; clear hbox hb hg))
         go_roundg k1
         case measure => have := HK.out; omega
         case rel => exact ⟨i + 1, by go_num, H', ⟨by have := HK.out; omega⟩, ⟨qam BP.out qr1.out⟩, ⟨qam BQ.out qr1.out⟩, ⟨Kd.qbn HL.out qr1.out⟩, ⟨qac HB.out qr1.out⟩⟩
        rw [if_pos c2_] at H; have c2b : (bt qax i != 120) = false := bne_eq_false_iff_eq.2 c2_; have c2c : (bt qax i == 120) = true := beq_iff_eq.2 c2_; clear c2_; by_cases c3_ : rules.length < 8796093022207 ∧ rules.all (fun x => x.f0 != 0) = true; rotate_left
        ·rw [if_neg c3_] at H; exact absurd H (by simp)
        rw [if_pos c3_] at H; have HLB := ak_ c3_.1; have HNZ := ak_ c3_.2; clear c3_; by_cases c4_ : (rules.filter (fun x => !qgc i x)).length = 1; rotate_left
        ·rw [if_neg c4_] at H; have H' := ak_ H; clear H
         obtain ⟨cr, hcr⟩ : ∃ l_, l_ = rules.filter (fun x => !qgc i x) := ⟨_, rfl⟩
         rw [← hcr] at c4_; have HCR := ak_ hcr; have c4b : ((cr.length : Int) == 1) = false := beq_eq_false_iff_ne.2 (by omega); clear hcr c4_
         go_wp2_with (first | ((with_reducible refine qas (N := 6) rfl ?_); (try (refine qav (by rfl) ?_; dsimp only)); refine bx_ 6 (cs := #[.int .i64 0]) (t := 3) qa0 ?_; intro g6 hg w6 hbox hb; have B6_ := ak_ (show (w6.setCell ⟨g6, 0, none⟩ (.int .i64 (i : Int))).heap[g6]? = _ from qaQ (cs' := #[.int .i64 (i : Int)]) hbox 0 (.int .i64 (i : Int)) rfl); have qr1 := ak_ (show Below wr.heap.size wr (w6.setCell ⟨g6, 0, none⟩ (.int .i64 (i : Int))) from qaw hb (Nat.le_of_eq hg.symm)); have hc6 : w6.cell? ⟨g6, 0, none⟩ = some (.int .i64 0) := (qaO hbox 0).trans rfl; have hf6 := qaU hbox 0; have hcP6 : w6.cell? ⟨gP, 0, none⟩ = some (.string qax) := (qaO (qam BP.out hb) 0).trans rfl; have hne6 : gP ≠ g6 := (by rw [hg]; exact Nat.ne_of_lt (qdN BP.out)); have hne6' : ¬ g6 = gP := fun e_ => hne6 e_.symm; clear hbox hb hg) | ((with_reducible refine qas (N := 26) rfl ?_); refine Kd.qgM qa1 _ 33 ?hg (N := 26) ?hd (xs := ([] : List qaj)) (inner := []) (ok := fun _ => True) (okp := fun _ => True) ?hr ?hp (fun _ hk => hk) trivial (Below.refl _ _) (Nat.le_refl _) (by simp) ?_; (case hd => rfl); (case hg => rfl); (case hr => exact qa0); (case hp => exact qcj.none _ _); intro v26 w26 ho hb hg_ hnew_; clear hg_ hnew_; have HL0 := ak_ (Kd.qby ho qr1.out.size); have HB26 := ak_ (qac qr1.out hb); have B26 := ak_ (qam B6_.out hb); clear ho hb hc6 hf6 hcP6) | ((with_reducible refine qca (b := .append) (xs := #[.tmp 26, .tmp 27]) rfl ?_); at_builtin; refine Kd.qfJ qa1 (w0 := wr) wr.heap.size rfl (.tmp 26) (.tmp 27) 24 33 (.agg #[(.int .i64 0), (.int .i64 0)]) 16 rfl Tryz.underlying24 qc4 rfl (by decide) (by omega) v26 ([] : List qaj) rules _ _ _ (fun k_ => k_ ≠ g6) (fun _ => False) rfl rfl ?aO ?aR (fun _ _ h => h) (fun _ h => h.elim) ?aF ?aB ?aS ?aL ?_; (case aO => exact Kd.qaT (Kd.qgr HL0.out B26.out (by decide)) (fun _ hk => hk.2)); (case aF => exact (fun k_ hk => by have := qdN B26.out; omega)); (case aR => exact (Kd.R_reads' (Kd.qbn HL.out HB26.out)).2.2); (case aB => exact HB26.out); (case aS => exact qal HB26.out); (case aL => have h_ := HLB.out; simp only [List.length_nil]; omega); intro v28 w28 ho hb hg_ hat_; simp only [List.nil_append] at ho; have B28 := ak_ (qey B26.out hg_ (fun e_ => by have := Kd.qsK HL0.out B26.out (by decide); exact this e_)); clear hg_ hat_; have qrq := ak_ ho; have HB28 := ak_ hb; clear HL0 HB26 ho hb; obtain ⟨A28, c28, e28⟩ := Kd.qbC qrq.out; subst e28) | ((with_reducible refine qad (f := 37) rfl ?_); refine gl_ 30 Tryz.func37 #[.slice A28 rules.length c28, .func (.func 47) #[] #[.pointer (some ⟨g6, 0, none⟩)]] rfl qeX ?_; refine (qjI (qgc i) 47 #[.pointer (some ⟨g6, 0, none⟩)] (enters_of Tryz.func47 (by kernel_rfl) rfl) A28 c28 wr.heap.size (fun k_ => k_ ≠ g6) rules _ HB28.out.size qrq.out ?sP).mono ?_; (case sP => exact (fun W_ x hx hg_ => qlP i g6 x W_ (by have h_ := List.all_eq_true.1 HNZ.out x hx; simpa using h_) ((qaO (qey B28.out hg_ (fun e_ => qrq.out.1 g6 e_.symm rfl)) 0).trans rfl))); rintro e w30 ⟨rfl, hR_, hg_⟩; refine ⟨_, rfl, ?_⟩; have HBx := ak_ (HB28.out.grown hg_ HB28.out.size (Kd.qc1 qrq.out)); have B30 := ak_ (qey B28.out hg_ (fun e_ => qrq.out.1 g6 e_.symm rfl)); rw [← HCR.out] at hR_ ⊢; have HR30 := ak_ hR_; have hcG30 := qbj B30.out; clear hR_ hg_ qrq HB28 B28 B26 B6_ qr1))
         go_roundg k1
         case measure => have := HK.out; omega
         case rel => exact ⟨i + 1, by go_num, H', ⟨by have := HK.out; omega⟩, ⟨qam BP.out HBx.out⟩, ⟨qam BQ.out HBx.out⟩, ⟨Kd.qbn HL.out HBx.out⟩, ⟨qac HB.out HBx.out⟩⟩
        rw [if_pos c4_] at H
        obtain ⟨cr, hcr⟩ : ∃ l_, l_ = rules.filter (fun x => !qgc i x) := ⟨_, rfl⟩
        rw [← hcr] at c4_ H; have HFIN := ak_ H; clear H; have HCR := ak_ hcr; have c4b : ((cr.length : Int) == 1) = true := beq_iff_eq.2 (by omega); have HC4 := ak_ c4_; clear hcr c4_
        go_wp2_with (first | ((with_reducible refine qas (N := 6) rfl ?_); (try (refine qav (by rfl) ?_; dsimp only)); refine bx_ 6 (cs := #[.int .i64 0]) (t := 3) qa0 ?_; intro g6 hg w6 hbox hb; have B6_ := ak_ (show (w6.setCell ⟨g6, 0, none⟩ (.int .i64 (i : Int))).heap[g6]? = _ from qaQ (cs' := #[.int .i64 (i : Int)]) hbox 0 (.int .i64 (i : Int)) rfl); have qr1 := ak_ (show Below wr.heap.size wr (w6.setCell ⟨g6, 0, none⟩ (.int .i64 (i : Int))) from qaw hb (Nat.le_of_eq hg.symm)); have hc6 : w6.cell? ⟨g6, 0, none⟩ = some (.int .i64 0) := (qaO hbox 0).trans rfl; have hf6 := qaU hbox 0; have hcP6 : w6.cell? ⟨gP, 0, none⟩ = some (.string qax) := (qaO (qam BP.out hb) 0).trans rfl; have hne6 : gP ≠ g6 := (by rw [hg]; exact Nat.ne_of_lt (qdN BP.out)); have hne6' : ¬ g6 = gP := fun e_ => hne6 e_.symm; clear hbox hb hg) | ((with_reducible refine qas (N := 26) rfl ?_); refine Kd.qgM qa1 _ 33 ?hg (N := 26) ?hd (xs := ([] : List qaj)) (inner := []) (ok := fun _ => True) (okp := fun _ => True) ?hr ?hp (fun _ hk => hk) trivial (Below.refl _ _) (Nat.le_refl _) (by simp) ?_; (case hd => rfl); (case hg => rfl); (case hr => exact qa0); (case hp => exact qcj.none _ _); intro v26 w26 ho hb hg_ hnew_; clear hg_ hnew_; have HL0 := ak_ (Kd.qby ho qr1.out.size); have HB26 := ak_ (qac qr1.out hb); have B26 := ak_ (qam B6_.out hb); clear ho hb hc6 hf6 hcP6) | ((with_reducible refine qca (b := .append) (xs := #[.tmp 26, .tmp 27]) rfl ?_); at_builtin; refine Kd.qfJ qa1 (w0 := wr) wr.heap.size rfl (.tmp 26) (.tmp 27) 24 33 (.agg #[(.int .i64 0), (.int .i64 0)]) 16 rfl Tryz.underlying24 qc4 rfl (by decide) (by omega) v26 ([] : List qaj) rules _ _ _ (fun k_ => k_ ≠ g6) (fun _ => False) rfl rfl ?aO ?aR (fun _ _ h => h) (fun _ h => h.elim) ?aF ?aB ?aS ?aL ?_; (case aO => exact Kd.qaT (Kd.qgr HL0.out B26.out (by decide)) (fun _ hk => hk.2)); (case aF => exact (fun k_ hk => by have := qdN B26.out; omega)); (case aR => exact (Kd.R_reads' (Kd.qbn HL.out HB26.out)).2.2); (case aB => exact HB26.out); (case aS => exact qal HB26.out); (case aL => have h_ := HLB.out; simp only [List.length_nil]; omega); intro v28 w28 ho hb hg_ hat_; simp only [List.nil_append] at ho; have B28 := ak_ (qey B26.out hg_ (fun e_ => by have := Kd.qsK HL0.out B26.out (by decide); exact this e_)); clear hg_ hat_; have qrq := ak_ ho; have HB28 := ak_ hb; clear HL0 HB26 ho hb; obtain ⟨A28, c28, e28⟩ := Kd.qbC qrq.out; subst e28) | ((with_reducible refine qad (f := 37) rfl ?_); refine gl_ 30 Tryz.func37 #[.slice A28 rules.length c28, .func (.func 47) #[] #[.pointer (some ⟨g6, 0, none⟩)]] rfl qeX ?_; refine (qjI (qgc i) 47 #[.pointer (some ⟨g6, 0, none⟩)] (enters_of Tryz.func47 (by kernel_rfl) rfl) A28 c28 wr.heap.size (fun k_ => k_ ≠ g6) rules _ HB28.out.size qrq.out ?sP).mono ?_; (case sP => exact (fun W_ x hx hg_ => qlP i g6 x W_ (by have h_ := List.all_eq_true.1 HNZ.out x hx; simpa using h_) ((qaO (qey B28.out hg_ (fun e_ => qrq.out.1 g6 e_.symm rfl)) 0).trans rfl))); rintro e w30 ⟨rfl, hR_, hg_⟩; refine ⟨_, rfl, ?_⟩; have HBx := ak_ (HB28.out.grown hg_ HB28.out.size (Kd.qc1 qrq.out)); have B30 := ak_ (qey B28.out hg_ (fun e_ => qrq.out.1 g6 e_.symm rfl)); rw [← HCR.out] at hR_ ⊢; have HR30 := ak_ hR_; have hcG30 := qbj B30.out; clear hR_ hg_ qrq HB28 B28 B26 B6_ qr1))
        obtain ⟨ad, e_, hx0, hx1⟩ := qcq (Kd.R_reads' HR30.out).2.2 (0 : Int) (by omega) (by have := HC4.out; omega); subst e_; have HXi := ak_ (show w30.drew.cell? ⟨g6, 0, none⟩ = _ from hcG30); have HX0 := ak_ (show w30.drew.cell? ad = _ from hx0); have HX1 := ak_ (show w30.drew.cell? ⟨ad.block, ad.off + 1, none⟩ = _ from hx1); have HBS := ak_ (qap HBx.out); have BQ := ak_ (qae (qam BQ.out HBx.out))
        have hln_ : 0 < cr.length := (by have := HC4.out; omega)
        clear hx0 hx1 hcG30; refine qc7 (n := 8) (S := fun w' => w'.cell? ⟨g6, 0, none⟩ = some (.int .i64 (i : Int)) ∧ w'.cell? ad = some (.int .i64 (qab cr 0).f0) ∧ w'.cell? ⟨ad.block, ad.off + 1, none⟩ = some (.int .i64 (qab cr 0).f1)) (ds := [6]) #[false, false, false, false, false, false, false, false] (by kernel_rfl) rfl rfl ⟨HXi.out, HX0.out, HX1.out⟩ (fun hHeld => ?_)
        generalize w30.drew = wS at HXi HX0 HX1 HBS BQ hHeld ⊢
        refine qef (i := 2) (N := some 36) (v := ?_) (a' := ?_) #[false, false, true, false, false, false, false, false] rfl rfl (by kernel_rfl) (fun _ _ _ h => h) (Or.inl ⟨by rfl, ?_⟩) ?_ ?_; rotate_left
        · intro w'
          go_simp
          with_reducible rfl
        rotate_left
        · simp only [Act.put, List.setIfInBounds_toArray, List.set_cons_zero, List.set_cons_succ, qbL, qbQ]
          rfl
        refine qef (i := 3) (N := some 37) (v := ?_) (a' := ?_) #[false, false, true, true, false, false, false, false] rfl rfl (by kernel_rfl) (fun _ _ _ h => h) (Or.inl ⟨by rfl, ?_⟩) ?_ ?_; rotate_left
        · intro w'
          go_simp
          with_reducible rfl
        rotate_left
        · simp only [Act.put, List.setIfInBounds_toArray, List.set_cons_zero, List.set_cons_succ, qbL, qbQ]
          rfl
        refine qg9 (i := 0) (N := some 34) (v := ?_) (a' := ?_) #[true, false, true, true, false, false, false, false] rfl rfl (by kernel_rfl) (fun _ _ _ h => h) (Or.inl ⟨by rfl, ?_⟩) hHeld ?_ ?_; rotate_left
        · rintro w' ⟨s0, s1, s2⟩
          go_simp
          with_reducible rfl
        rotate_left
        · simp only [Act.put, List.setIfInBounds_toArray, List.set_cons_zero, List.set_cons_succ, qbL, qbQ]
          rfl
        refine qef (i := 1) (N := some 35) (v := ?_) (a' := ?_) #[true, true, true, true, false, false, false, false] rfl rfl (by kernel_rfl) (fun _ _ _ h => h) (Or.inl ⟨by rfl, ?_⟩) ?_ ?_; rotate_left
        · intro w'
          go_simp
          with_reducible rfl
        rotate_left
        · simp only [Act.put, List.setIfInBounds_toArray, List.set_cons_zero, List.set_cons_succ, qbL, qbQ]
          rfl
        refine qef (i := 5) (N := some 2) (v := ?_) (a' := ?_) #[true, true, true, true, false, true, false, false] rfl rfl (by kernel_rfl) (fun _ _ _ h => h) (Or.inl ⟨by rfl, ?_⟩) ?_ ?_; rotate_left
        · intro w'
          go_simp
          with_reducible rfl
        rotate_left
        · simp only [Act.put, List.setIfInBounds_toArray, List.set_cons_zero, List.set_cons_succ, qbL, qbQ]
          rfl
        refine qg9 (i := 4) (N := some 38) (v := ?_) (a' := ?_) #[true, true, true, true, true, true, false, false] rfl rfl (by kernel_rfl) (fun _ _ _ h => h) (Or.inl ⟨by rfl, ?_⟩) hHeld ?_ ?_; rotate_left
        · rintro w' ⟨s0, s1, s2⟩
          go_simp
          with_reducible rfl
        rotate_left
        · simp only [Act.put, List.setIfInBounds_toArray, List.set_cons_zero, List.set_cons_succ, qbL, qbQ]
          rfl
        refine qpf (i := 6) (N := none) #[true, true, true, true, true, true, true, false] rfl rfl (by kernel_rfl) (by decide) (fun K hK => ?_); obtain ⟨hr0_, hr1_, hrf0_, hrf1_⟩ := qa2 BQ.out; refine qmF (w1 := ?_) (by rfl) rfl ?_ ?_; rotate_left
        · go_simp
          rfl
        refine hK.out _ _ ?_; clear hK K; refine qef (i := 7) (N := some 4) (v := ?_) (a' := ?_) #[true, true, true, true, true, true, true, true] rfl rfl (by kernel_rfl) (fun _ _ _ h => h) (Or.inl ⟨by rfl, ?_⟩) ?_ ?_; rotate_left
        · intro w'
          go_simp
          with_reducible rfl
        rotate_left
        · simp only [Act.put, List.setIfInBounds_toArray, List.set_cons_zero, List.set_cons_succ, qbL, qbQ]
          rfl
        refine qeI (by kernel_rfl) ?_; go_wp2; refine bodyPost_ret (qdX (rs := [.tmp 2, .cell 3 33, .tmp 4]) rfl (by simp) (.tmp (.cell gQ 33 #[.int .i64 (qab cr 0).f0, .int .i64 (qab cr 0).f1] (0, 0) _ rfl (qaQ (cs' := #[.int .i64 (qab cr 0).f0, .int .i64 (qab cr 0).f1]) (qaQ (cs' := #[.int .i64 (qab cr 0).f0, .int .i64 0]) BQ.out 0 _ rfl) 1 _ rfl) Tryz.underlying33 rfl (by kernel_rfl) (.tmp .nil)))) rfl ?_; have h_ := HFIN.out; simp only [Option.some.injEq, Prod.mk.injEq] at h_; obtain ⟨rfl, rfl, rfl, rfl⟩ := h_; exact ⟨rfl, qaw (qaw (qac HB.out HBS.out) qkv) qkv⟩
def qgA (i : Nat) (x : qaj) : Bool := qcp.f (wrap64 ((i : Int) + 1)) x.f0 == some x.f1
def qce.l0 : Nat → ByteArray → List qaj → Nat → Option (Int × Int × Int × Bool)
  | 0, _, _, _ => none
  | k + 1, s, fit, pos => if pos < s.size then (if bt s pos < 128 then (if bt s pos = 120 then (if fit.length < 8796093022207 ∧ fit.all (fun x => (qcp.f (wrap64 ((pos : Int) + 1)) x.f0).isSome) = true then (if (fit.filter (qgA pos)).length = 1 then some (wrap64 ((pos : Int) + 1), (qab (fit.filter (qgA pos)) 0).f0, (qab (fit.filter (qgA pos)) 0).f1, true) else qce.l0 k s fit (pos + 1)) else none) else qce.l0 k s fit (pos + 1)) else none) else some (0, 0, 0, false)
def qce.f (k : Nat) (qax : ByteArray) (qaZ : Int) : Option (Int × Int × Int × Bool) := (qbl.f k qax qaZ).bind fun t => if t = true then ((qbA.f k qax).bind fun fit => qce.l0 k qax fit 0) else some (0, 0, 0, false)
theorem qtK (fit : List qaj) (p : qaj → Bool) (j : Nat) (h : j < fit.length) : (fit.take (j + 1)).filter p = (fit.take j).filter p ++ (if p (qab fit (j : Int)) = true then [qab fit (j : Int)] else []) := by
  rw [List.take_succ_eq_append_getElem h, List.filter_append]
  congr 1
  have e_ : qab fit (j : Int) = fit[j] := by simp [qab, List.getD, h]
  rw [e_]; by_cases c : p fit[j] = true
  ·rw [if_pos c, List.filter_cons, if_pos c, List.filter_nil]
  rw [if_neg c, List.filter_cons, if_neg c, List.filter_nil]
theorem qce.calls (k : Nat) (qax : ByteArray) (qaZ : Int) (r1 r2 r3 : Int) (r4 : Bool) (w : World) (h : qce.f k qax qaZ = some (r1, r2, r3, r4)) :
    Calls Tryz.prog 16 #[.agg #[.string qax, .int .i64 qaZ]] w fun e w' => e = .returned (.tuple #[.int .i64 r1, .agg #[.int .i64 r2, .int .i64 r3], .bool r4]) ∧ Below w.heap.size w w' := by
  have hu := Tryz.underlying23; have hu2 := Tryz.underlying33; unfold qce.f at h; replace h := Option.bind_eq_some_iff.mp h; obtain ⟨t, A0_, h⟩ := h; have A1 := ak_ A0_; clear A0_
  cases t with
  | false =>
    rw [if_neg (by decide)] at h; simp only [Option.some.injEq, Prod.mk.injEq] at h; obtain ⟨rfl, rfl, rfl, rfl⟩ := h; go_enter Tryz.func16, Tryz.ntmps16
    go_wp2_with (first | ((with_reducible refine qas (N := 1) rfl ?_); (try (refine qav (by rfl) ?_; dsimp only)); refine bx_ 1 (cs := #[.string qax, .int .i64 qaZ]) (t := 23) qa0 ?_; intro gP hg w1 hbox hb; have BP1 := ak_ hbox; have HB1 := ak_ hb; have GP := ak_ (show w.heap.size ≤ gP by rw [hg]; exact Nat.le_refl _); have qnP : w1.cell? ⟨gP, 0, none⟩ = some (.string qax) := (qaO hbox 0).trans rfl; have qnQ : w1.cell? ⟨gP, 1, none⟩ = some (.int .i64 qaZ) := (qaO hbox 1).trans rfl; clear hbox hb hg) | ((with_reducible refine qas (N := 3) rfl ?_); (try (refine qav (by rfl) ?_; dsimp only)); refine bx_ 3 (cs := #[.int .i64 0, .int .i64 0]) (t := 33) qa0 ?_; intro gQ hg w2 hbox hb; have BQ2 := ak_ hbox; have BP2 := ak_ (qam BP1.out hb); have HB2 := ak_ (qac HB1.out hb); have GQ := ak_ (show gP < gQ by rw [hg]; exact qdN BP1.out); have hcq0 := qbj BP2.out; have hcq1 := qbm BP2.out; clear qnP qnQ BP1 HB1; clear hbox hb hg) | ((with_reducible refine qad (f := 45) rfl ?_); refine gl_ 11 Tryz.func45 #[.agg #[.string qax, .int .i64 qaZ]] rfl qeX ?_; (with_reducible refine (qbl.calls k qax qaZ false _ A1.out).mono ?_); rintro e w3 ⟨rfl, hb⟩; refine ⟨_, rfl, ?_⟩; have BP3 := ak_ (qam BP2.out hb); have BQ3 := ak_ (qam BQ2.out hb); have HB3 := ak_ (qac HB2.out hb); have hcr0 := qbj BP3.out; obtain ⟨qmz, qmA, qmx, qmy⟩ := qa2 BQ3.out; clear BP2 BQ2 HB2 hcq0 hcq1; clear hb))
    refine bodyPost_ret (qdX (rs := [.tmp 2, .cell 3 33, .tmp 4]) rfl (by simp) (.tmp (.cell gQ 33 #[.int .i64 0, .int .i64 0] (0, 0) _ rfl (by first | exact BQ3.out | exact qaQ (cs' := #[.int .i64 0, .int .i64 0]) (qaQ (cs' := #[.int .i64 0, .int .i64 0]) BQ3.out 0 _ rfl) 1 _ rfl) Tryz.underlying33 rfl (by kernel_rfl) (.tmp .nil)))) rfl ?_; exact ⟨rfl, by first | exact HB3.out | exact qaw (qaw HB3.out qkv) qkv⟩
  | true =>
    rw [if_pos rfl] at h; replace h := Option.bind_eq_some_iff.mp h; obtain ⟨fit, A0_, h⟩ := h; have A2 := ak_ A0_; have H' := ak_ h; clear A0_ h; go_enter Tryz.func16, Tryz.ntmps16
    go_wp2_with (first | ((with_reducible refine qas (N := 1) rfl ?_); (try (refine qav (by rfl) ?_; dsimp only)); refine bx_ 1 (cs := #[.string qax, .int .i64 qaZ]) (t := 23) qa0 ?_; intro gP hg w1 hbox hb; have BP1 := ak_ hbox; have HB1 := ak_ hb; have GP := ak_ (show w.heap.size ≤ gP by rw [hg]; exact Nat.le_refl _); have qnP : w1.cell? ⟨gP, 0, none⟩ = some (.string qax) := (qaO hbox 0).trans rfl; have qnQ : w1.cell? ⟨gP, 1, none⟩ = some (.int .i64 qaZ) := (qaO hbox 1).trans rfl; clear hbox hb hg) | ((with_reducible refine qas (N := 3) rfl ?_); (try (refine qav (by rfl) ?_; dsimp only)); refine bx_ 3 (cs := #[.int .i64 0, .int .i64 0]) (t := 33) qa0 ?_; intro gQ hg w2 hbox hb; have BQ2 := ak_ hbox; have BP2 := ak_ (qam BP1.out hb); have HB2 := ak_ (qac HB1.out hb); have GQ := ak_ (show gP < gQ by rw [hg]; exact qdN BP1.out); have hcq0 := qbj BP2.out; have hcq1 := qbm BP2.out; clear qnP qnQ BP1 HB1; clear hbox hb hg) | ((with_reducible refine qad (f := 45) rfl ?_); refine gl_ 11 Tryz.func45 #[.agg #[.string qax, .int .i64 qaZ]] rfl qeX ?_; (with_reducible refine (qbl.calls k qax qaZ true _ A1.out).mono ?_); rintro e w3 ⟨rfl, hb⟩; refine ⟨_, rfl, ?_⟩; have BP3 := ak_ (qam BP2.out hb); have BQ3 := ak_ (qam BQ2.out hb); have HB3 := ak_ (qac HB2.out hb); have hcr0 := qbj BP3.out; obtain ⟨qmz, qmA, qmx, qmy⟩ := qa2 BQ3.out; clear BP2 BQ2 HB2 hcq0 hcq1; clear hb) | ((with_reducible refine qad (f := 46) rfl ?_); refine gl_ 16 Tryz.func46 #[.string qax] rfl qeX ?_; (with_reducible refine (qbA.calls k qax fit _ A2.out).mono ?_); rintro e w4 ⟨v16, rfl, ho, hb⟩; refine ⟨_, rfl, ?_⟩; have BP4 := ak_ (qam BP3.out hb); have BQ4 := ak_ (qam BQ3.out hb); have HB4 := ak_ (qac HB3.out hb); obtain ⟨A5, c5, e5⟩ := Kd.qbC ho; subst e5; have HL4 := ak_ (Kd.qby ho HB3.out.size); have hcs0 := qbj BP4.out; clear BP3 BQ3 HB3 hcr0 qmz qmA qmx qmy; clear ho hb))
    have GI := ak_ (show w.heap.size ≤ w4.heap.size from HB4.out.size); have GPI := ak_ (qdN BP4.out)
    go_loopg [] k (fun kq wx => ∃ pos : Nat, wx.heap[w4.heap.size]? = some (.stringIter qax pos) ∧ qah (Below w4.heap.size w4 wx) ∧ qah (qce.l0 kq qax fit pos = some (r1, r2, r3, r4)) ∧ qah (kq ≤ k))
    case atStart => exact ⟨0, by have h_ := World.iter_heap w4 qax 0; simpa using h_, ⟨(Below.refl _ w4).alloc (Nat.le_refl _) _⟩, H', ⟨Nat.le_refl _⟩⟩
    case round =>
      clear H' hcs0; obtain ⟨pos, hit, HBI, HA_, HK⟩ := hrel
      cases gk with
      | zero => exact absurd HA_.out (by simp [qce.l0])
      | succ k1 =>
        have H := HA_.out; clear HA_; simp only [qce.l0] at H; by_cases hps : pos < qax.size; rotate_left
        ·rw [if_neg hps] at H
         have hnx : ∀ ty, (Instr.next (.pointer (some ⟨w4.heap.size, 0, none⟩)) true ty).run Tryz.prog wr = _ := fun ty => Lib.run_next_end_at wr w4.heap.size qax pos ty hit hps
         simp only [Option.some.injEq, Prod.mk.injEq] at H; obtain ⟨rfl, rfl, rfl, rfl⟩ := H; have BQ := ak_ (qam BQ4.out HBI.out); have HB := ak_ (qac HB4.out HBI.out); obtain ⟨qmz, qmA, qmx, qmy⟩ := qa2 BQ.out; go_wp2; refine bodyPost_ret (qdX (rs := [.tmp 2, .cell 3 33, .tmp 4]) rfl (by simp) (.tmp (.cell gQ 33 #[.int .i64 0, .int .i64 0] (0, 0) _ rfl (qaQ (cs' := #[.int .i64 0, .int .i64 0]) (qaQ (cs' := #[.int .i64 0, .int .i64 0]) BQ.out 0 _ rfl) 1 _ rfl) Tryz.underlying33 rfl (by kernel_rfl) (.tmp .nil)))) rfl ?_; exact ⟨rfl, qaw (qaw HB.out qkv) qkv⟩
        rw [if_pos hps] at H; by_cases ha : bt qax pos < 128; rotate_left
        ·rw [if_neg ha] at H; exact absurd H (by simp)
        rw [if_pos ha] at H
        have hnx : ∀ ty, (Instr.next (.pointer (some ⟨w4.heap.size, 0, none⟩)) true ty).run Tryz.prog wr = _ := fun ty => Lib.run_next_ascii_at wr w4.heap.size qax pos ty hit hps (by have := qli qax pos hps; omega)
        have qr9 := Lib.iterAt_heap wr w4.heap.size qax pos (pos + 1) hit; have qtr := Lib.below_iterAt HBI.out (k := w4.heap.size) (Nat.le_refl _) qax (pos + 1)
        obtain ⟨W, hWd⟩ : ∃ W, wr.iterAt w4.heap.size qax (pos + 1) = W := ⟨_, rfl⟩
        rw [hWd] at hnx qr9 qtr; clear hit hWd HBI ha; have HBW := ak_ qtr; have HI := ak_ qr9; clear qtr qr9; have hcP : W.cell? ⟨gP, 0, none⟩ = some (.string qax) := (qaO (qam BP4.out HBW.out) 0).trans rfl; have hx6 := qli qax pos; have p6 := eq_true (show 0 ≤ ((pos : Nat) : Int) by omega); have q6 := eq_true (show ((pos : Nat) : Int) < (qax.size : Int) by omega); by_cases c2_ : bt qax pos = 120; rotate_left
        ·rw [if_neg c2_] at H; have c2b : (bt qax pos != 120) = true := bne_iff_ne.2 c2_; have c2c : (bt qax pos == 120) = false := beq_eq_false_iff_ne.2 c2_; clear c2_; have H' := ak_ H; clear H; go_wp2
         go_roundg k1
         case measure => have := HK.out; omega
         case rel => exact ⟨pos + 1, HI.out, HBW, H', ⟨by have := HK.out; omega⟩⟩
        rw [if_pos c2_] at H; have c2b : (bt qax pos != 120) = false := bne_eq_false_iff_eq.2 c2_; have c2c : (bt qax pos == 120) = true := beq_iff_eq.2 c2_; clear c2_; by_cases c3_ : fit.length < 8796093022207 ∧ fit.all (fun x => (qcp.f (wrap64 ((pos : Int) + 1)) x.f0).isSome) = true; rotate_left
        ·rw [if_neg c3_] at H; exact absurd H (by simp)
        rw [if_pos c3_] at H; have HLB := ak_ c3_.1; have HSO := ak_ c3_.2; have H' := ak_ H; clear c3_ H; go_wp2
        go_loopg [7, 30] fit.length (fun gg v7 v30 wx => ∃ j : Nat, v30 = .int .i64 j ∧ j ≤ fit.length ∧ fit.length - j ≤ gg ∧ qah (Kd.R qa1 33 wx W.heap.size (fun _ => True) v7 ((fit.take j).filter (qgA pos))) ∧ qah (Below W.heap.size W wx))
        case atStart => exact ⟨0, rfl, Nat.zero_le _, Nat.le_refl _, ⟨Kd.qkl _ _ _ _ _⟩, ⟨Below.refl _ _⟩⟩
        case round =>
          clear hcP hnx; obtain ⟨j, rfl, hj, hgg, HO, HW2⟩ := hrel; have HC := ak_ (Kd.R_reads' (Kd.qbn HL4.out (qac HBW.out HW2.out))).2.2; have hjb : fit.length < 8796093022207 := HLB.out; by_cases hlt : j < fit.length
          ·have c1z : (j : Int) < (fit.length : Int) := by omega
           have c1b : decide ((j : Int) < (fit.length : Int)) = true := decide_eq_true c1z; have c1c : decide (j < fit.length) = true := decide_eq_true hlt; obtain ⟨ad, e_, hx0, hx1⟩ := qcq HC.out (j : Int) (by omega) (by omega)
           cases e_
           simp only [Int.toNat_natCast] at hx0 hx1
           obtain ⟨q, hq⟩ : ∃ q, qcp.f (wrap64 ((pos : Int) + 1)) (qab fit (j : Int)).f0 = some q := by
             have h_ := List.all_eq_true.1 HSO.out (qab fit (j : Int)) (by rw [show qab fit (j : Int) = fit[j] by simp [qab, List.getD, hlt]]; exact List.getElem_mem hlt); exact Option.isSome_iff_exists.1 h_
           have HM := ak_ (fun W => qcp.calls (wrap64 ((pos : Int) + 1)) (qab fit (j : Int)).f0 q W hq); have HT := ak_ (qtK fit (qgA pos) j hlt); have HH := ak_ (show qgA pos (qab fit (j : Int)) = (q == (qab fit (j : Int)).f1) by unfold qgA; rw [hq]; rfl); clear hq
           obtain ⟨Y, hY⟩ : ∃ l_, l_ = (fit.take j).filter (qgA pos) := ⟨_, rfl⟩
           have HY := ak_ hY; have HYL := ak_ (show Y.length ≤ fit.length by rw [hY]; exact Nat.le_trans (List.length_filter_le _ _) (by rw [List.length_take]; omega)); have HO1 := ak_ (show Kd.R qa1 33 wr W.heap.size (fun _ => True) u7 Y by rw [hY]; exact HO.out); clear hY HO; by_cases hqr : q = (qab fit (j : Int)).f1
           ·have cqb : (q == (qab fit (j : Int)).f1) = true := beq_iff_eq.2 hqr; clear hqr; have HH2 := ak_ (HH.out.trans cqb)
            go_wp2_with (first | ((with_reducible refine qas (N := 9) rfl ?_); (try (refine qav (by rfl) ?_; dsimp only)); refine bx_ 9 (cs := #[.int .i64 0, .int .i64 0]) (t := 33) qa0 ?_; intro g9 hg w20 hbox hb; have BK := ak_ hbox; have HB0 := ak_ hb; have G9 := ak_ hg; have qr5 : w20.cell? ⟨g9, 0, none⟩ = some (.int .i64 0) := (qaO hbox 0).trans rfl; have qr6 : w20.cell? ⟨g9, 1, none⟩ = some (.int .i64 0) := (qaO hbox 1).trans rfl; have qr7 := qaU hbox 0; have qr8 := qaU hbox 1; clear hbox hb hg))
            have BK8 := ak_ (show ((w20.setCell ⟨g9, 0, none⟩ (.int .i64 (qab fit (j : Int)).f0)).setCell ⟨g9, 1, none⟩ (.int .i64 (qab fit (j : Int)).f1)).heap[g9]? = _ from qaQ (cs' := #[.int .i64 (qab fit (j : Int)).f0, .int .i64 (qab fit (j : Int)).f1]) (qaQ (cs' := #[.int .i64 (qab fit (j : Int)).f0, .int .i64 0]) BK.out 0 _ rfl) 1 _ rfl); have qsj := ak_ (show Below wr.heap.size wr ((w20.setCell ⟨g9, 0, none⟩ (.int .i64 (qab fit (j : Int)).f0)).setCell ⟨g9, 1, none⟩ (.int .i64 (qab fit (j : Int)).f1)) from qaw (qaw HB0.out (Nat.le_of_eq G9.out.symm)) (Nat.le_of_eq G9.out.symm)); clear qr5 qr6 qr7 qr8 BK HB0
            generalize ((w20.setCell ⟨g9, 0, none⟩ (.int .i64 (qab fit (j : Int)).f0)).setCell ⟨g9, 1, none⟩ (.int .i64 (qab fit (j : Int)).f1)) = w8 at BK8 qsj ⊢
            have hcA := qbj BK8.out; have hcB := qbm BK8.out; have HO8 := ak_ (Kd.qbn (Kd.qcQ HO1.out g9 (Nat.le_of_eq G9.out.symm)) qsj.out); have HB8 := ak_ (qac HW2.out qsj.out); clear HO1; go_wp2
            go_quiet ((go_at_call 48; exact Calls.quiet_of ((HM.out _).mono (fun e w' h => ⟨h.1, h.2.out⟩))))
            go_wp2_with (first | ((with_reducible refine qca (b := .append) (xs := #[.tmp 42, .tmp 44]) rfl ?_); at_builtin; refine Kd.qfc qa1 (w0 := W) W.heap.size rfl (.tmp 42) (.tmp 44) 24 33 (.agg #[(.int .i64 0), (.int .i64 0)]) 16 rfl Tryz.underlying24 qc4 rfl (by decide) (by omega) u7 Y (qab fit (j : Int)) [.int .i64 (qab fit (j : Int)).f0, .int .i64 (qab fit (j : Int)).f1] (fun k_ => k_ ≠ g9) (fun _ => False) rfl rfl ?aP (fun _ hk => hk.elim) ?aF ?aO ?aB ?aS ?aL ?_; (case aP => exact qdp _ _ _ (qab fit (j : Int))); (case aB => exact (by repeat (first | (with_reducible first | exact HB8.out | apply qau | apply qao | apply qap) | exact HB8.out))); (case aF => exact (fun k_ hk => Kd.qoV (g := g9) (by (with_reducible repeat (first | refine qag ?_ _ | refine qae ?_ | refine qaf ?_ _)); exact BK8.out) k_ hk)); (case aO => exact (by (with_reducible repeat (first | apply Kd.qaA | apply Kd.qaz | apply Kd.qaL)); exact Kd.qaT HO8.out (fun _ hk => hk.2))); (case aS => exact (qal (by repeat (first | (with_reducible first | exact HB8.out | apply qau | apply qao | apply qap) | exact HB8.out)))); (case aL => have h_ := HLB.out; have h2_ := HYL.out; omega); intro v45 w11 ho hb hg hat; have HOB := ak_ ho; have HBN := ak_ hb; clear ho hb hg hat))
            go_roundg (fit.length - (j + 1))
            case measure => omega
            case rel => exact ⟨j + 1, by go_num, by omega, Nat.le_refl _, ⟨by rw [HT.out, if_pos HH2.out, ← HY.out]; exact Kd.qaT HOB.out (fun _ _ => trivial)⟩, HBN⟩
           have cqb : (q == (qab fit (j : Int)).f1) = false := beq_eq_false_iff_ne.2 hqr; clear hqr; have HH2 := ak_ (HH.out.trans cqb)
           go_wp2_with (first | ((with_reducible refine qas (N := 9) rfl ?_); (try (refine qav (by rfl) ?_; dsimp only)); refine bx_ 9 (cs := #[.int .i64 0, .int .i64 0]) (t := 33) qa0 ?_; intro g9 hg w20 hbox hb; have BK := ak_ hbox; have HB0 := ak_ hb; have G9 := ak_ hg; have qr5 : w20.cell? ⟨g9, 0, none⟩ = some (.int .i64 0) := (qaO hbox 0).trans rfl; have qr6 : w20.cell? ⟨g9, 1, none⟩ = some (.int .i64 0) := (qaO hbox 1).trans rfl; have qr7 := qaU hbox 0; have qr8 := qaU hbox 1; clear hbox hb hg))
           have BK8 := ak_ (show ((w20.setCell ⟨g9, 0, none⟩ (.int .i64 (qab fit (j : Int)).f0)).setCell ⟨g9, 1, none⟩ (.int .i64 (qab fit (j : Int)).f1)).heap[g9]? = _ from qaQ (cs' := #[.int .i64 (qab fit (j : Int)).f0, .int .i64 (qab fit (j : Int)).f1]) (qaQ (cs' := #[.int .i64 (qab fit (j : Int)).f0, .int .i64 0]) BK.out 0 _ rfl) 1 _ rfl); have qsj := ak_ (show Below wr.heap.size wr ((w20.setCell ⟨g9, 0, none⟩ (.int .i64 (qab fit (j : Int)).f0)).setCell ⟨g9, 1, none⟩ (.int .i64 (qab fit (j : Int)).f1)) from qaw (qaw HB0.out (Nat.le_of_eq G9.out.symm)) (Nat.le_of_eq G9.out.symm)); clear qr5 qr6 qr7 qr8 BK HB0
           generalize ((w20.setCell ⟨g9, 0, none⟩ (.int .i64 (qab fit (j : Int)).f0)).setCell ⟨g9, 1, none⟩ (.int .i64 (qab fit (j : Int)).f1)) = w8 at BK8 qsj ⊢
           have hcA := qbj BK8.out; have hcB := qbm BK8.out; have HO8 := ak_ (Kd.qbn (Kd.qcQ HO1.out g9 (Nat.le_of_eq G9.out.symm)) qsj.out); have HB8 := ak_ (qac HW2.out qsj.out); clear HO1; go_wp2
           go_quiet ((go_at_call 48; exact Calls.quiet_of ((HM.out _).mono (fun e w' h => ⟨h.1, h.2.out⟩))))
           go_wp2
           go_roundg (fit.length - (j + 1))
           case measure => omega
           case rel => exact ⟨j + 1, by go_num, by omega, Nat.le_refl _, ⟨by rw [HT.out, if_neg (by rw [HH2.out]; decide), List.append_nil, ← HY.out]; exact Kd.qaz (Kd.qaT HO8.out (fun _ _ => trivial)) _⟩, ⟨qao HB8.out _⟩⟩
          obtain rfl : j = fit.length := by omega
          have c1b : decide ((fit.length : Int) < (fit.length : Int)) = false := decide_eq_false (by omega); have c1c : decide (fit.length < fit.length) = false := decide_eq_false (by omega)
          obtain ⟨cr, hcr⟩ : ∃ l_, l_ = fit.filter (qgA pos) := ⟨_, rfl⟩
          have HR := ak_ (show Kd.R qa1 33 wr W.heap.size (fun _ => True) u7 cr by rw [hcr]; have h_ := HO.out; rw [List.take_length] at h_; exact h_); have H := H'.out; rw [← hcr] at H; clear hcr HO H'; obtain ⟨A7, c7, e7⟩ := Kd.qbC HR.out; subst e7; by_cases c4_ : cr.length = 1; rotate_left
          ·rw [if_neg c4_] at H; have H' := ak_ H; have c4b : ((cr.length : Int) == 1) = false := beq_eq_false_iff_ne.2 (by omega); clear H c4_; go_wp2
           go_roundg k1
           case measure => have := HK.out; omega
           case rel => exact ⟨pos + 1, qam HI.out HW2.out, ⟨qac HBW.out HW2.out⟩, H', ⟨by have := HK.out; omega⟩⟩
          rw [if_pos c4_] at H; have HFIN := ak_ H; have HC4 := ak_ c4_; have c4b : ((cr.length : Int) == 1) = true := beq_iff_eq.2 (by omega); clear H c4_; go_wp2; obtain ⟨ad, e_, hx0, hx1⟩ := qcq (Kd.R_reads' HR.out).2.2 (0 : Int) (by omega) (by have := HC4.out; omega); subst e_; have HX0 := ak_ (show wr.drew.cell? ad = _ from hx0); have HX1 := ak_ (show wr.drew.cell? ⟨ad.block, ad.off + 1, none⟩ = _ from hx1); have HBS := ak_ (qap (Below.refl wr.heap.size wr)); have BQ := ak_ (qae (qam BQ4.out (qac HBW.out HW2.out)))
          have hln_ : 0 < cr.length := (by have := HC4.out; omega)
          clear hx0 hx1; refine qc7 (n := 8) (S := fun w' => w'.cell? ad = some (.int .i64 (qab cr 0).f0) ∧ w'.cell? ⟨ad.block, ad.off + 1, none⟩ = some (.int .i64 (qab cr 0).f1)) (ds := [6]) #[false, false, false, false, false, false, false, false] (by kernel_rfl) rfl rfl ⟨HX0.out, HX1.out⟩ (fun hHeld => ?_)
          generalize wr.drew = wS at HX0 HX1 HBS BQ hHeld ⊢
          refine qef (i := 0) (N := some 50) (v := ?_) (a' := ?_) #[true, false, false, false, false, false, false, false] rfl rfl (by kernel_rfl) (fun _ _ _ h => h) (Or.inl ⟨by rfl, ?_⟩) ?_ ?_; rotate_left
          · intro w'
            go_simp
            with_reducible rfl
          rotate_left
          · simp only [Act.put, List.setIfInBounds_toArray, List.set_cons_zero, List.set_cons_succ, qbL, qbQ]
            rfl
          refine qef (i := 1) (N := some 51) (v := ?_) (a' := ?_) #[true, true, false, false, false, false, false, false] rfl rfl (by kernel_rfl) (fun _ _ _ h => h) (Or.inl ⟨by rfl, ?_⟩) ?_ ?_; rotate_left
          · intro w'
            go_simp
            with_reducible rfl
          rotate_left
          · simp only [Act.put, List.setIfInBounds_toArray, List.set_cons_zero, List.set_cons_succ, qbL, qbQ]
            rfl
          refine qef (i := 2) (N := some 52) (v := ?_) (a' := ?_) #[true, true, true, false, false, false, false, false] rfl rfl (by kernel_rfl) (fun _ _ _ h => h) (Or.inl ⟨by rfl, ?_⟩) ?_ ?_; rotate_left
          · intro w'
            go_simp
            with_reducible rfl
          rotate_left
          · simp only [Act.put, List.setIfInBounds_toArray, List.set_cons_zero, List.set_cons_succ, qbL, qbQ]
            rfl
          refine qef (i := 3) (N := some 53) (v := ?_) (a' := ?_) #[true, true, true, true, false, false, false, false] rfl rfl (by kernel_rfl) (fun _ _ _ h => h) (Or.inl ⟨by rfl, ?_⟩) ?_ ?_; rotate_left
          · intro w'
            go_simp
            with_reducible rfl
          rotate_left
          · simp only [Act.put, List.setIfInBounds_toArray, List.set_cons_zero, List.set_cons_succ, qbL, qbQ]
            rfl
          refine qef (i := 5) (N := some 2) (v := ?_) (a' := ?_) #[true, true, true, true, false, true, false, false] rfl rfl (by kernel_rfl) (fun _ _ _ h => h) (Or.inl ⟨by rfl, ?_⟩) ?_ ?_; rotate_left
          · intro w'
            go_simp
            with_reducible rfl
          rotate_left
          · simp only [Act.put, List.setIfInBounds_toArray, List.set_cons_zero, List.set_cons_succ, qbL, qbQ]
            rfl
          refine qg9 (i := 4) (N := some 54) (v := ?_) (a' := ?_) #[true, true, true, true, true, true, false, false] rfl rfl (by kernel_rfl) (fun _ _ _ h => h) (Or.inl ⟨by rfl, ?_⟩) hHeld ?_ ?_; rotate_left
          · rintro w' ⟨s0, s1⟩
            go_simp
            with_reducible rfl
          rotate_left
          · simp only [Act.put, List.setIfInBounds_toArray, List.set_cons_zero, List.set_cons_succ, qbL, qbQ]
            rfl
          refine qpf (i := 6) (N := none) #[true, true, true, true, true, true, true, false] rfl rfl (by kernel_rfl) (by decide) (fun K hK => ?_); obtain ⟨hr0_, hr1_, hrf0_, hrf1_⟩ := qa2 BQ.out; refine qmF (w1 := ?_) (by rfl) rfl ?_ ?_; rotate_left
          · go_simp
            rfl
          refine hK.out _ _ ?_; clear hK K; refine qef (i := 7) (N := some 4) (v := ?_) (a' := ?_) #[true, true, true, true, true, true, true, true] rfl rfl (by kernel_rfl) (fun _ _ _ h => h) (Or.inl ⟨by rfl, ?_⟩) ?_ ?_; rotate_left
          · intro w'
            go_simp
            with_reducible rfl
          rotate_left
          · simp only [Act.put, List.setIfInBounds_toArray, List.set_cons_zero, List.set_cons_succ, qbL, qbQ]
            rfl
          refine qeI (by kernel_rfl) ?_; go_wp2; refine bodyPost_ret (qdX (rs := [.tmp 2, .cell 3 33, .tmp 4]) rfl (by simp) (.tmp (.cell gQ 33 #[.int .i64 (qab cr 0).f0, .int .i64 (qab cr 0).f1] (0, 0) _ rfl (qaQ (cs' := #[.int .i64 (qab cr 0).f0, .int .i64 (qab cr 0).f1]) (qaQ (cs' := #[.int .i64 (qab cr 0).f0, .int .i64 0]) BQ.out 0 _ rfl) 1 _ rfl) Tryz.underlying33 rfl (by kernel_rfl) (.tmp .nil)))) rfl ?_; have h_ := HFIN.out; simp only [Option.some.injEq, Prod.mk.injEq] at h_; obtain ⟨rfl, rfl, rfl, rfl⟩ := h_; exact ⟨rfl, qaw (qaw (qac (qac (qac HB4.out HBW.out) HW2.out) HBS.out) qkv) qkv⟩
def qqs : Go.Shelf.Ren := ⟨fun | 171 => 76 | 243 => 101 | 246 => 114 | 283 => 127 | 284 => 128 | 285 => 129 | 286 => 130 | 129 => 142 | 317 => 141 | 318 => 143 | 319 => 144 | 320 => 145 | 337 => 150 | 338 => 151 | n => n, fun | 3 => 3 | 9 => 9 | 2 => 2 | 4 => 4 | 171 => 128 | 0 => 0 | 53 => 73 | 37 => 50 | 5 => 5 | 173 => 131 | 212 => 146 | 51 => 147 | 20 => 20 | 213 => 148 | 46 => 113 | 232 => 158 | 233 => 159 | n => n, fun | 17 => 5 | 18 => 6 | 19 => 7 | n => n⟩
theorem lays171 : Go.Proofs.Lays.n171 Tryz.prog qqs := {
  mixed := by kernel_rfl
  f129 := Tryz.func142.trans (congrArg some (by kernel_rfl))
  f171 := Tryz.func76.trans (congrArg some (by kernel_rfl))
  f243 := Tryz.func101.trans (congrArg some (by kernel_rfl))
  f246 := Tryz.func114.trans (congrArg some (by kernel_rfl))
  f283 := Tryz.func127.trans (congrArg some (by kernel_rfl))
  f284 := Tryz.func128.trans (congrArg some (by kernel_rfl))
  f285 := Tryz.func129.trans (congrArg some (by kernel_rfl))
  f286 := Tryz.func130.trans (congrArg some (by kernel_rfl))
  f317 := Tryz.func141.trans (congrArg some (by kernel_rfl))
  f318 := Tryz.func143.trans (congrArg some (by kernel_rfl))
  f319 := Tryz.func144.trans (congrArg some (by kernel_rfl))
  f320 := Tryz.func145.trans (congrArg some (by kernel_rfl))
  f337 := Tryz.func150.trans (congrArg some (by kernel_rfl))
  f338 := Tryz.func151.trans (congrArg some (by kernel_rfl))
  t0 := Tryz.underlying0
  a0 := Tryz.isAgg0
  z0 := Tryz.sizeOf0
  v0 := Tryz.zeroValue0
  t2 := Tryz.underlying2
  a2 := Tryz.isAgg2
  z2 := Tryz.sizeOf2
  v2 := Tryz.zeroValue2
  t3 := Tryz.underlying3
  a3 := Tryz.isAgg3
  z3 := Tryz.sizeOf3
  v3 := Tryz.zeroValue3
  t4 := Tryz.underlying4
  a4 := Tryz.isAgg4
  z4 := Tryz.sizeOf4
  v4 := Tryz.zeroValue4
  t5 := Tryz.underlying5
  a5 := Tryz.isAgg5
  z5 := Tryz.sizeOf5
  v5 := Tryz.zeroValue5
  t9 := Tryz.underlying9
  a9 := Tryz.isAgg9
  z9 := Tryz.sizeOf9
  v9 := Tryz.zeroValue9
  t20 := Tryz.underlying20
  a20 := Tryz.isAgg20
  z20 := Tryz.sizeOf20
  v20 := Tryz.zeroValue20
  t37 := Tryz.underlying50
  a37 := Tryz.isAgg50
  z37 := Tryz.sizeOf50
  v37 := Tryz.zeroValue50
  t46 := Tryz.underlying113
  a46 := Tryz.isAgg113
  z46 := Tryz.sizeOf113
  v46 := Tryz.zeroValue113
  t51 := Tryz.underlying147
  a51 := Tryz.isAgg147
  z51 := Tryz.sizeOf147
  v51 := Tryz.zeroValue147
  t53 := Tryz.underlying73
  a53 := Tryz.isAgg73
  z53 := Tryz.sizeOf73
  v53 := Tryz.zeroValue73
  t171 := Tryz.underlying128
  a171 := Tryz.isAgg128
  z171 := Tryz.sizeOf128
  v171 := Tryz.zeroValue128
  t173 := Tryz.underlying131
  a173 := Tryz.isAgg131
  z173 := Tryz.sizeOf131
  v173 := Tryz.zeroValue131
  t212 := Tryz.underlying146
  a212 := Tryz.isAgg146
  z212 := Tryz.sizeOf146
  v212 := Tryz.zeroValue146
  t213 := Tryz.underlying148
  a213 := Tryz.isAgg148
  z213 := Tryz.sizeOf148
  t232 := Tryz.underlying158
  a232 := Tryz.isAgg158
  z232 := Tryz.sizeOf158
  v232 := Tryz.zeroValue158
  t233 := Tryz.underlying159
  a233 := Tryz.isAgg159
  z233 := Tryz.sizeOf159
  v233 := Tryz.zeroValue159
  g17 := by kernel_rfl
  g18 := by kernel_rfl
  g19 := by kernel_rfl }
def strconv_Itoa.f (a0 : Int) : Option ByteArray := if 0 ≤ a0 ∧ a0 < 100 then some ⟨(Lib.decDigits a0.toNat).toArray⟩ else none
theorem strconv_Itoa.calls (a0 : Int) (r : ByteArray) (w : World) (h : strconv_Itoa.f a0 = some r) :
    Calls Tryz.prog 76 #[.int .i64 a0] w fun e w' => e = .returned (.string r) ∧ Below w.heap.size w w' := by
  unfold strconv_Itoa.f at h; by_cases hc : 0 ≤ a0 ∧ a0 < 100; rotate_left
  ·rw [if_neg hc] at h; exact absurd h (by simp)
  rw [if_pos hc] at h; obtain rfl := Option.some.inj h
  obtain ⟨n, rfl⟩ : ∃ n : Nat, a0 = (n : Int) := ⟨a0.toNat, by omega⟩
  rw [Int.toNat_natCast]
  exact (Any.strconv_Itoa_small lays171 n (by omega) w).mono fun e w' ⟨he, hw⟩ => ⟨he, hw ▸ Below.refl _ _⟩
def qbu.f (qax : ByteArray) (qaZ : Int) : Option (ByteArray) := if qax.size + 1 ≤ 9223372036854775807 then ((strconv_Itoa.f qaZ).bind fun qaF => (if (qax ++ (⟨#[58]⟩ : ByteArray)).size + qaF.size ≤ 9223372036854775807 then (some ((qax ++ (⟨#[58]⟩ : ByteArray)) ++ qaF)) else (none))) else (none)
def qbu.T1 : Bool × List (List Nat × List Nat) := (true, [([], []), ([0], [0]), ([1], [1]), ([], []), ([3], [3]), ([4], [4]), ([2, 5], [2, 5]), ([6, 5, 0, 1, 2, 3, 4, 5, 6], [6])])
def qbu.B1 : List Nat := [0, 1, 3, 0, 8, 24, 63, 127]
theorem qbu.tab1 : qhD .any (opsOf Tryz.f49 1) = qbu.T1 := by kernel_rfl
theorem qbu.qsS : qeE qbu.T1.2 qbu.B1 = true := by kernel_rfl
theorem qbu.calls (qax : ByteArray) (qaZ : Int) (r : ByteArray) (w : World) (h : qbu.f qax qaZ = some r) :
  Calls Tryz.prog 49 #[.agg #[.string qax, .int .i64 qaZ]] w fun e w' => e = .returned (.string r) ∧ Below w.heap.size w w' := by
 have qiv := Tryz.underlying23; have HB := ak_ (Below.refl w.heap.size w); have H : (if qax.size + 1 ≤ 9223372036854775807 then ((strconv_Itoa.f qaZ).bind fun qaF => (if (qax ++ (⟨#[58]⟩ : ByteArray)).size + qaF.size ≤ 9223372036854775807 then (some ((qax ++ (⟨#[58]⟩ : ByteArray)) ++ qaF)) else (none))) else (none)) = some r := h; clear h; by_cases c2 : qax.size + 1 ≤ 9223372036854775807; rotate_left
 ·rw [if_neg c2] at H; exact absurd H (by simp)
 rw [if_pos c2] at H; have qkC := eq_true c2; have c2b1 : decide (qax.size + 1 ≤ 9223372036854775807) = true := decide_eq_true c2
 try have c2b2 : (9223372036854775807 < qax.size + 1) = False := eq_false (Nat.not_lt.2 c2)
 obtain ⟨qaF, A3, H⟩ := qbh H; (try dsimp only at H); by_cases c4 : (qax ++ (⟨#[58]⟩ : ByteArray)).size + qaF.size ≤ 9223372036854775807; rotate_left
 ·rw [if_neg c4] at H; exact absurd H (by simp)
 rw [if_pos c4] at H; have qhF := eq_true c4; have c4b1 : decide ((qax ++ (⟨#[58]⟩ : ByteArray)).size + qaF.size ≤ 9223372036854775807) = true := decide_eq_true c4
 try have c4b2 : (9223372036854775807 < (qax ++ (⟨#[58]⟩ : ByteArray)).size + qaF.size) = False := eq_false (Nat.not_lt.2 c4)
 have c4b3 : (9223372036854775807 < qax.size + 1 + qaF.size) = False := by have e_ : (qax ++ (⟨#[58]⟩ : ByteArray)).size = qax.size + 1 := (ByteArray.size_append).trans rfl; rw [← e_]; exact c4b2
 obtain rfl := Option.some.inj H; go_enter Tryz.func49, Tryz.ntmps49
 try go_wp2_with (first | ((with_reducible refine qas (N := 1) rfl ?_); refine bx_ 1 (cs := #[.string qax, .int .i64 qaZ]) (t := 23) qa0 ?_; intro qaR hg w5 hbox hb; have qai := ak_ (hbox); have qcB := ak_ (HB.ge hg); have qcg := ak_ (HB.ge hg); replace HB := HB.mw hb; clear hb hbox hg))
 replace qai := ak_ (qae qai.out); replace HB := ak_ (qap HB.out); refine qc7 (n := 8) (S := fun w' => w'.cell? ⟨qaR, 0, none⟩ = some (.string qax) ∧ w'.cell? ⟨qaR, 1, none⟩ = some (.int .i64 qaZ)) (ds := []) (rA_ [0, 8]) (by kernel_rfl) rfl rfl ⟨qbj qai.out, qbm qai.out⟩ (fun hHeld => ?_); refine qb1 qbu.tab1 qbu.qsS (fun HT_ HW_ => ?_)
 generalize w5.drew = w6 at qai HB hHeld ⊢
 refine pu_ 0 3 [1, 7] ?_; refine pu_ 3 6 [1, 2, 1, 4] ?_; refine qip 1 4 [2, 1, 1, 4] ?_; refine pu_ 2 5 [4, 4] ?_; refine qip 4 7 [5, 3] ?_; refine qe2 (i := 5) (N := some 8) (rA_ [6, 2]) rfl rfl (qcn HT_.out (by kernel_rfl)) (by decide) (fun K hK => ?_); refine qdz Tryz.func76 (by kernel_rfl) rfl #[.int .i64 qaZ] (by rfl) rfl rfl qbK ?_
 with_reducible refine (strconv_Itoa.calls qaZ qaF _ A3.out).mono ?_
 rintro e w7 ⟨rfl, hb⟩; refine ⟨_, rfl, ?_⟩; replace qai := qai.mw hb; replace HB := ak_ (qac qaM hb); (try clear hb); (try clear hb2); (try clear hk); (try clear hi); refine hK.out _ _ ⟨qbj qai.out, qbm qai.out⟩ (fun hHeld => ?_); clear hK K; refine nm_ 8 ?_; refine pu_ 6 9 [7, 1] ?_; refine pu_ 7 2 [8] ?_; refine qeI (qc3 HT_.out (by kernel_rfl)) ?_
 try go_wp2
 go_ret
 exact ⟨qbx, qaM⟩
def qb0.f (qax : ByteArray) (qaZ : Int) : Option (ByteArray × Bool) := (qa7.f qax qaZ).bind fun qaF => (if qaF = true then ((qbu.f qax qaZ).bind fun qaX => (some (qaX, true))) else (some ((⟨#[]⟩ : ByteArray), false)))
theorem qb0.calls (qax : ByteArray) (qaZ : Int) (r1 : ByteArray) (r2 : Bool) (w : World) (h : qb0.f qax qaZ = some (r1, r2)) :
  Calls Tryz.prog 17 #[.agg #[.string qax, .int .i64 qaZ]] w fun e w' => e = .returned (.tuple #[.string r1, .bool r2]) ∧ Below w.heap.size w w' := by
 have qiv := Tryz.underlying23; have HB := ak_ (Below.refl w.heap.size w); have H : ((qa7.f qax qaZ).bind fun qaF => (if qaF = true then ((qbu.f qax qaZ).bind fun qaX => (some (qaX, true))) else (some ((⟨#[]⟩ : ByteArray), false)))) = some (r1, r2) := h; clear h; obtain ⟨qaF, A2, H⟩ := qbh H; (try dsimp only at H); by_cases c3 : qaF = true
 ·subst c3; rw [if_pos rfl] at H; obtain ⟨qaX, A4, H⟩ := qbh H; (try dsimp only at H); simp only [Option.some.injEq, Prod.mk.injEq] at H; obtain ⟨rfl, rfl⟩ := H; go_enter Tryz.func17, Tryz.ntmps17
  go_wp2_with (first | ((with_reducible refine qas (N := 1) rfl ?_); refine bx_ 1 (cs := #[.string qax, .int .i64 qaZ]) (t := 23) qa0 ?_; intro qaR hg w5 hbox hb; have qai := ak_ (hbox); have qcB := ak_ (HB.ge hg); have qcg := ak_ (HB.ge hg); replace HB := HB.mw hb; clear hb hbox hg; obtain ⟨qjn, qjo, qkd, qjq⟩ := qa2 qai.out) | ((with_reducible refine qad (f := 43) rfl ?_); refine gl_ 5 Tryz.func43 #[.agg #[.string qax, .int .i64 qaZ]] rfl qbK ?_; (with_reducible refine (qa7.calls qax qaZ true _ A2.out).mono ?_); rintro e w7 ⟨rfl, hb⟩; refine ⟨_, rfl, ?_⟩; replace qai := qai.mw hb; replace HB := ak_ (qac qaM hb); (try clear hb); obtain ⟨qgg, qgh, qgz, qgi⟩ := qa2 qai.out) | ((with_reducible refine qad (f := 49) rfl ?_); refine gl_ 8 Tryz.func49 #[.agg #[.string qax, .int .i64 qaZ]] rfl qbK ?_; (with_reducible refine (qbu.calls qax qaZ qaX _ A4.out).mono ?_); rintro e w9 ⟨rfl, hb⟩; refine ⟨_, rfl, ?_⟩; replace qai := qai.mw hb; replace HB := ak_ (qac qaM hb); (try clear hb)))
  go_ret2
  exact ⟨qbx, qaM⟩
 replace c3 := Bool.eq_false_iff.mpr c3; subst c3; rw [if_neg (show ¬ (false = true) by decide)] at H; simp only [Option.some.injEq, Prod.mk.injEq] at H; obtain ⟨rfl, rfl⟩ := H; go_enter Tryz.func17, Tryz.ntmps17
 go_wp2_with (first | ((with_reducible refine qas (N := 1) rfl ?_); refine bx_ 1 (cs := #[.string qax, .int .i64 qaZ]) (t := 23) qa0 ?_; intro qaR hg w10 hbox hb; have qai := ak_ (hbox); have qcB := ak_ (HB.ge hg); have qcg := ak_ (HB.ge hg); replace HB := HB.mw hb; clear hb hbox hg; obtain ⟨qgv, qgw, qgx, qgy⟩ := qa2 qai.out) | ((with_reducible refine qad (f := 43) rfl ?_); refine gl_ 5 Tryz.func43 #[.agg #[.string qax, .int .i64 qaZ]] rfl qbK ?_; (with_reducible refine (qa7.calls qax qaZ false _ A2.out).mono ?_); rintro e w12 ⟨rfl, hb⟩; refine ⟨_, rfl, ?_⟩; replace qai := qai.mw hb; replace HB := ak_ (qac qaM hb); (try clear hb)))
 go_ret2
 exact ⟨qbx, qaM⟩
def qcf.f : Nat → Int → Option (ByteArray)
 | 0, _ => none
 | k + 1, a0 => if a0 < 10 then (some (strOfNums (([(wrap64 (48 + a0)) % 256] : List Int)))) else ((qcf.f k (wrap64 (Int.tdiv a0 10))).bind fun qcC => ((some (([(wrap64 (48 + (Int.tmod a0 10))) % 256] : List Int) : List Int)).bind fun qmL => (if qcC.size + (strOfNums qmL).size ≤ 9223372036854775807 then (some (qcC ++ (strOfNums qmL))) else (none))))
def qcf.T3 : Bool × List (List Nat × List Nat) := (true, [([], []), ([0], [0]), ([1], [1]), ([], []), ([3], [3]), ([4], [4]), ([5], [5]), ([6], [6]), ([7], [7]), ([2, 8], [2, 8]), ([9, 2, 0, 1, 2, 3, 4, 5, 6, 7, 8, 9], [9])])
def qcf.B3 : List Nat := [0, 1, 3, 0, 8, 24, 56, 120, 248, 511, 1023]
theorem qcf.tab3 : qhD .any (opsOf Tryz.f50 3) = qcf.T3 := by kernel_rfl
theorem qcf.qry : qeE qcf.T3.2 qcf.B3 = true := by kernel_rfl
theorem qcf.calls (k : Nat) : ∀ (a0 : Int) (r : ByteArray) (w : World) (h : qcf.f k a0 = some r),
  Calls Tryz.prog 50 #[.int .i64 a0] w fun e w' => e = .returned (.string r) ∧ Below w.heap.size w w' := by
 induction k using Nat.strongRecOn with
 | _ k ih =>
 intro a0 r w h
 cases k with
 | zero => exact absurd h (by simp [qcf.f])
 | succ k =>
 simp only [qcf.f] at h; have HB := ak_ (Below.refl w.heap.size w); have H : (if a0 < 10 then (some (strOfNums (([(wrap64 (48 + a0)) % 256] : List Int)))) else ((qcf.f k (wrap64 (Int.tdiv a0 10))).bind fun qcC => ((some (([(wrap64 (48 + (Int.tmod a0 10))) % 256] : List Int) : List Int)).bind fun qmL => (if qcC.size + (strOfNums qmL).size ≤ 9223372036854775807 then (some (qcC ++ (strOfNums qmL))) else (none))))) = some r := h; clear h; by_cases c2 : a0 < 10
 ·rw [if_pos c2] at H; have qkC : decide (a0 < 10) = true := decide_eq_true c2; clear c2
  obtain ⟨y101, hy_⟩ : ∃ y_ : List Int, y_ = (([(wrap64 (48 + a0)) % 256] : List Int)) := ⟨_, rfl⟩
  replace H : (some (strOfNums y101)) = some r := qkG; have qpT := ak_ hy_; clear hy_; obtain rfl := Option.some.inj H; go_enter Tryz.func50, Tryz.ntmps50
  go_wp2_with (first | ((with_reducible refine qas (N := 8) rfl ?_); refine Kd.qgM (Kd.int .u8) _ 5 ?hg (N := 8) ?hd (xs := ([(wrap64 (48 + a0)) % 256] : List Int)) (inner := [.int .u8 ((wrap64 (48 + a0)) % 256)]) (ok := fun _ => True) (okp := fun _ => True) ?hr ?hp (fun _ hk => hk) trivial (Below.refl _ _) (Nat.le_refl _) (by simp) ?_; (case hd => rfl); (case hg => rfl); (case hr => exact qa0); (case hp => exact (qcj.one (show Kd.M (Kd.int .u8) _ _ _ ((wrap64 (48 + a0)) % 256) [.int .u8 ((wrap64 (48 + a0)) % 256)] from rfl) (qcj.none _ _))); intro v102 w3 ho4 hb hg_ hnew_; clear hg_ hnew_; (first | rw [← qpT.out] at ho4 | (simp only [Int.reduceToNat] at ho4; rw [← qpT.out] at ho4)); have qoI := ak_ (Kd.qby ho4 (qal qcw)); replace HB := HB.mw hb; clear hb ho4; have hcv5 := qdZ (P := Tryz.prog) Tryz.underlying50 Tryz.underlying5 Tryz.underlying9 (Kd.qfi qoI.out)))
  go_ret
  exact ⟨qbx, qcw⟩
 rw [if_neg c2] at H; have qkC : decide (a0 < 10) = false := decide_eq_false c2; clear c2; obtain ⟨qcC, A6, H⟩ := qbh H; (try dsimp only at H)
 obtain ⟨qmL, hy_⟩ : ∃ y_ : List Int, y_ = (([(wrap64 (48 + (Int.tmod a0 10))) % 256] : List Int)) := ⟨_, rfl⟩
 replace H : (if qcC.size + (strOfNums qmL).size ≤ 9223372036854775807 then (some (qcC ++ (strOfNums qmL))) else (none)) = some r := qkG; have qnr := ak_ hy_; clear hy_; by_cases c7 : qcC.size + (strOfNums qmL).size ≤ 9223372036854775807; rotate_left
 ·rw [if_neg c7] at H; exact absurd H (by simp)
 rw [if_pos c7] at H; have qiI := eq_true c7; have qmR : decide (qcC.size + (strOfNums qmL).size ≤ 9223372036854775807) = true := decide_eq_true c7
 try have c7b2 : (9223372036854775807 < qcC.size + (strOfNums qmL).size) = False := eq_false (Nat.not_lt.2 c7)
 obtain rfl := Option.some.inj H; go_enter Tryz.func50, Tryz.ntmps50
 try go_wp2
 replace HB := ak_ (qap HB.out); refine qc7 (n := 11) (S := fun w' => True) (ds := []) (rA_ [0, 11]) (by kernel_rfl) rfl rfl trivial (fun hHeld => ?_); refine qb1 qcf.tab3 qcf.qry (fun HT_ HW_ => ?_)
 generalize w.drew = w8 at HB hHeld ⊢
 refine pu_ 0 10 [1, 10] ?_; refine pu_ 1 11 [2, 9] ?_; refine pu_ 3 13 [2, 1, 1, 7] ?_; refine pu_ 4 14 [2, 1, 2, 6] ?_; refine pu_ 5 15 [2, 1, 3, 5] ?_; refine pu_ 6 16 [2, 1, 4, 4] ?_; refine qtT (σ := Value) 2 (rA_ [9, 2]) (fun s_ => [(12, .string qcC), (17, s_), (18, .string (strOfNums qmL))]) (fun s_ w' => (Kd.R (Kd.int .u8) 5 w' w.heap.size (fun _ => True) s_ qmL) ∧ (Below w.heap.size w w')) ?_ ?_; rotate_left
 ·intro hCont; refine two_ (i := 2) (j := 7) (Ni := some 12) (Nj := some 17) (rA_ [7, 4]) (rA_ [2, 1, 5, 3]) rfl rfl rfl rfl (qrc HT_.out (by kernel_rfl)) (by decide) (by decide) (fun K hK => ?_) (fun K hK => ?_)
  ·skip
   refine qdz Tryz.func50 (by kernel_rfl) rfl #[.int .i64 (wrap64 (Int.tdiv a0 10))] (by rfl) rfl rfl qbK ?_
   with_reducible refine (ih k (by omega) (wrap64 (Int.tdiv a0 10)) qcC _ A6.out).mono ?_
   rintro e w9 ⟨rfl, hb⟩; refine ⟨_, rfl, ?_⟩; replace HB := HB.mw hb; (try clear hb); (try clear hb2); (try clear hk); (try clear hi); refine hK.out _ _ trivial (fun hHeld => ?_); clear hK K; refine nm_ 12 ?_; refine qe2 (i := 7) (N := some 17) (rA_ [8, 3]) rfl rfl (qcn HT_.out (by kernel_rfl)) (by decide) (fun K hK => ?_); refine Kd.qde (Kd.int .u8) _ 5 ?hg (N := 17) ?hd (xs := ([(wrap64 (48 + (Int.tmod a0 10))) % 256] : List Int)) (inner := [.int .u8 ((wrap64 (48 + (Int.tmod a0 10))) % 256)]) (ok := fun _ => True) (okp := fun _ => True) ?hr ?hp (fun _ hk => hk) trivial (Below.refl _ _) (Nat.le_refl _) (by simp) ?_; (case hd => rfl); (case hg => rfl); (case hr => exact qa0); (case hp => exact (qcj.one (show Kd.M (Kd.int .u8) _ _ _ ((wrap64 (48 + (Int.tmod a0 10))) % 256) [.int .u8 ((wrap64 (48 + (Int.tmod a0 10))) % 256)] from rfl) (qcj.none _ _))); intro qjE w10 ho11 hb hg_ hnew_; clear hg_ hnew_; (first | rw [← qnr.out] at ho11 | (simp only [Int.reduceToNat] at ho11; rw [← qnr.out] at ho11)); have qcE := ak_ (Kd.qby ho11 (qal qcw)); replace HB := HB.mw hb; clear hb ho11; refine hK.out _ _ trivial (fun hHeld => ?_); clear hK K; refine nm_ 17 ?_; refine qe2 (i := 8) (N := some 18) (rA_ [9, 2]) rfl rfl (qcn HT_.out (by kernel_rfl)) (by decide) (fun K hK => ?_); have hcv12 := qdZ (P := Tryz.prog) Tryz.underlying50 Tryz.underlying5 Tryz.underlying9 (Kd.qfi qcE.out); refine qun (w1 := ?_) (v := ?_) (by rfl) rfl ?_ ?_; rotate_left 2
   ·go_simp; constructor
    ·rfl
    rfl
   clear hcv12; refine hK.out _ _ trivial (fun hHeld => ?_); clear hK K; refine nm_ 18 ?_; exact qeN qrR (hCont (qjE) _ ⟨(by apply_rules only [qcE.out, Kd.qaA, Kd.qaz, Kd.qaL]), qcw⟩)
  skip
  refine Kd.qde (Kd.int .u8) _ 5 ?hg (N := 17) ?hd (xs := ([(wrap64 (48 + (Int.tmod a0 10))) % 256] : List Int)) (inner := [.int .u8 ((wrap64 (48 + (Int.tmod a0 10))) % 256)]) (ok := fun _ => True) (okp := fun _ => True) ?hr ?hp (fun _ hk => hk) trivial (Below.refl _ _) (Nat.le_refl _) (by simp) ?_; (case hd => rfl); (case hg => rfl); (case hr => exact qa0); (case hp => exact (qcj.one (show Kd.M (Kd.int .u8) _ _ _ ((wrap64 (48 + (Int.tmod a0 10))) % 256) [.int .u8 ((wrap64 (48 + (Int.tmod a0 10))) % 256)] from rfl) (qcj.none _ _))); intro qjE w9 qtQ hb hg_ hnew_; clear hg_ hnew_; (first | rw [← qnr.out] at qtQ | (simp only [Int.reduceToNat] at qtQ; rw [← qnr.out] at qtQ)); have qcE := ak_ (Kd.qby qtQ (qal qcw)); replace HB := HB.mw hb; clear hb qtQ; refine hK.out _ _ trivial (fun hHeld => ?_); clear hK K; refine nm_ 17 ?_; refine two_ (i := 2) (j := 8) (Ni := some 12) (Nj := some 18) (rA_ [8, 3]) (rA_ [2, 1, 6, 2]) rfl rfl rfl rfl (qrc HT_.out (by kernel_rfl)) (by decide) (by decide) (fun K hK => ?_) (fun K hK => ?_)
  ·skip
   refine qdz Tryz.func50 (by kernel_rfl) rfl #[.int .i64 (wrap64 (Int.tdiv a0 10))] (by rfl) rfl rfl qbK ?_
   with_reducible refine (ih k (by omega) (wrap64 (Int.tdiv a0 10)) qcC _ A6.out).mono ?_
   rintro e w11 ⟨rfl, hb⟩; refine ⟨_, rfl, ?_⟩; replace qcE := qcE.mw hb; replace HB := HB.mw hb; (try clear hb); (try clear hb2); (try clear hk); (try clear hi); refine hK.out _ _ trivial (fun hHeld => ?_); clear hK K; refine nm_ 12 ?_; refine qe2 (i := 8) (N := some 18) (rA_ [9, 2]) rfl rfl (qcn HT_.out (by kernel_rfl)) (by decide) (fun K hK => ?_); have hcv12 := qdZ (P := Tryz.prog) Tryz.underlying50 Tryz.underlying5 Tryz.underlying9 (Kd.qfi qcE.out); refine qun (w1 := ?_) (v := ?_) (by rfl) rfl ?_ ?_; rotate_left 2
   ·go_simp; constructor
    ·rfl
    rfl
   clear hcv12; refine hK.out _ _ trivial (fun hHeld => ?_); clear hK K; refine nm_ 18 ?_; exact qeN qrR (hCont (qjE) _ ⟨(by apply_rules only [qcE.out, Kd.qaA, Kd.qaz, Kd.qaL]), qcw⟩)
  skip
  have hcv11 := qdZ (P := Tryz.prog) Tryz.underlying50 Tryz.underlying5 Tryz.underlying9 (Kd.qfi qcE.out); refine qun (w1 := ?_) (v := ?_) (by rfl) rfl ?_ ?_; rotate_left 2
  ·go_simp; constructor
   ·rfl
   rfl
  clear hcv11; refine hK.out _ _ trivial (fun hHeld => ?_); clear hK K; refine nm_ 18 ?_; refine qe2 (i := 2) (N := some 12) (rA_ [9, 2]) rfl rfl (qcn HT_.out (by kernel_rfl)) (by decide) (fun K hK => ?_); refine qdz Tryz.func50 (by kernel_rfl) rfl #[.int .i64 (wrap64 (Int.tdiv a0 10))] (by rfl) rfl rfl qbK ?_
  with_reducible refine (ih k (by omega) (wrap64 (Int.tdiv a0 10)) qcC _ A6.out).mono ?_
  rintro e w12 ⟨rfl, hb⟩; refine ⟨_, rfl, ?_⟩; replace qcE := qcE.mw hb; replace HB := HB.mw hb; (try clear hb); (try clear hb2); (try clear hk); (try clear hi); refine hK.out _ _ trivial (fun hHeld => ?_); clear hK K; refine nm_ 12 ?_; exact qeN qrR (hCont (qjE) _ ⟨(by apply_rules only [qcE.out, Kd.qaA, Kd.qaz, Kd.qaL]), qcw⟩)
 rintro qjE w13 ⟨h0_, h1_⟩
 have n0_ : qah (Kd.R (Kd.int .u8) 5 w13 w.heap.size (fun _ => True) qjE qmL) := ⟨h0_⟩
 have n1_ : qah (Below w.heap.size w w13) := ⟨h1_⟩
 clear HB; clear h0_ h1_; have qcE := n0_; have HB := n1_; clear n0_ n1_; have hHeld := trivial; refine qeN (a' := ?_) ?_ ?_; rotate_left
 ·simp only [qjw, Act.put, List.setIfInBounds_toArray, List.set_cons_zero, List.set_cons_succ]; rfl
 refine pu_ 9 19 [10, 1] ?_; refine pu_ 10 2 [11] ?_; refine qeI (qc3 HT_.out (by kernel_rfl)) ?_
 try go_wp2
 go_ret
 exact ⟨qbx, qcw⟩
def qbv.f (k : Nat) (qax : ByteArray) (qaZ : Int) : Option (ByteArray × Bool) := (qbl.f k qax qaZ).bind fun qaF => (if qaF = true then (if qax.size + 1 ≤ 9223372036854775807 then ((qcf.f k qaZ).bind fun qaX => (if (qax ++ (⟨#[58]⟩ : ByteArray)).size + qaX.size ≤ 9223372036854775807 then (some ((qax ++ (⟨#[58]⟩ : ByteArray)) ++ qaX, true)) else (none))) else (none)) else (some ((⟨#[]⟩ : ByteArray), false)))
def qbv.T3 : Bool × List (List Nat × List Nat) := (true, [([], []), ([0], [0]), ([1], [1]), ([], []), ([3], [3]), ([4], [4]), ([2, 5], [2, 5]), ([6, 5, 0, 1, 2, 3, 4, 5, 6], [6]), ([7, 0, 1, 2, 3, 4, 5, 6, 7], [])])
def qbv.B3 : List Nat := [0, 1, 3, 0, 8, 24, 63, 127, 255]
theorem qbv.tab3 : qhD .any (opsOf Tryz.f18 3) = qbv.T3 := by kernel_rfl
theorem qbv.qry : qeE qbv.T3.2 qbv.B3 = true := by kernel_rfl
theorem qbv.calls (k : Nat) (qax : ByteArray) (qaZ : Int) (r1 : ByteArray) (r2 : Bool) (w : World) (h : qbv.f k qax qaZ = some (r1, r2)) :
  Calls Tryz.prog 18 #[.agg #[.string qax, .int .i64 qaZ]] w fun e w' => e = .returned (.tuple #[.string r1, .bool r2]) ∧ Below w.heap.size w w' := by
 have qiv := Tryz.underlying23; have HB := ak_ (Below.refl w.heap.size w); have H : ((qbl.f k qax qaZ).bind fun qaF => (if qaF = true then (if qax.size + 1 ≤ 9223372036854775807 then ((qcf.f k qaZ).bind fun qaX => (if (qax ++ (⟨#[58]⟩ : ByteArray)).size + qaX.size ≤ 9223372036854775807 then (some ((qax ++ (⟨#[58]⟩ : ByteArray)) ++ qaX, true)) else (none))) else (none)) else (some ((⟨#[]⟩ : ByteArray), false)))) = some (r1, r2) := h; clear h; obtain ⟨qaF, A2, H⟩ := qbh H; (try dsimp only at H); by_cases c3 : qaF = true; rotate_left
 ·replace c3 := Bool.eq_false_iff.mpr c3; subst c3; rw [if_neg (show ¬ (false = true) by decide)] at H; simp only [Option.some.injEq, Prod.mk.injEq] at H; obtain ⟨rfl, rfl⟩ := H; go_enter Tryz.func18, Tryz.ntmps18
  go_wp2_with (first | ((with_reducible refine qas (N := 1) rfl ?_); refine bx_ 1 (cs := #[.string qax, .int .i64 qaZ]) (t := 23) qa0 ?_; intro qaR hg w12 hbox hb; have qai := ak_ (hbox); have qcB := ak_ (HB.ge hg); have qcg := ak_ (HB.ge hg); replace HB := HB.mw hb; clear hb hbox hg; obtain ⟨qnR, qnS, qn9, qoa⟩ := qa2 qai.out) | ((with_reducible refine qad (f := 45) rfl ?_); refine gl_ 5 Tryz.func45 #[.agg #[.string qax, .int .i64 qaZ]] rfl qbK ?_; (with_reducible refine (qbl.calls k qax qaZ false _ A2.out).mono ?_); rintro e w14 ⟨rfl, hb⟩; refine ⟨_, rfl, ?_⟩; replace qai := qai.mw hb; replace HB := ak_ (qac qaM hb); (try clear hb)))
  go_ret2
  exact ⟨qbx, qaM⟩
 subst c3; rw [if_pos rfl] at H; by_cases c4 : qax.size + 1 ≤ 9223372036854775807; rotate_left
 ·rw [if_neg c4] at H; exact absurd H (by simp)
 rw [if_pos c4] at H; have qhF := eq_true c4; have c4b1 : decide (qax.size + 1 ≤ 9223372036854775807) = true := decide_eq_true c4
 try have c4b2 : (9223372036854775807 < qax.size + 1) = False := eq_false (Nat.not_lt.2 c4)
 obtain ⟨qaX, A5, H⟩ := qbh H; (try dsimp only at H); by_cases c6 : (qax ++ (⟨#[58]⟩ : ByteArray)).size + qaX.size ≤ 9223372036854775807; rotate_left
 ·rw [if_neg c6] at H; exact absurd H (by simp)
 rw [if_pos c6] at H; have qkn := eq_true c6; have qr4 : decide ((qax ++ (⟨#[58]⟩ : ByteArray)).size + qaX.size ≤ 9223372036854775807) = true := decide_eq_true c6
 try have c6b2 : (9223372036854775807 < (qax ++ (⟨#[58]⟩ : ByteArray)).size + qaX.size) = False := eq_false (Nat.not_lt.2 c6)
 have c6b3 : (9223372036854775807 < qax.size + 1 + qaX.size) = False := by have e_ : (qax ++ (⟨#[58]⟩ : ByteArray)).size = qax.size + 1 := (ByteArray.size_append).trans rfl; rw [← e_]; exact c6b2
 simp only [Option.some.injEq, Prod.mk.injEq] at H; obtain ⟨rfl, rfl⟩ := H; go_enter Tryz.func18, Tryz.ntmps18
 try go_wp2_with (first | ((with_reducible refine qas (N := 1) rfl ?_); refine bx_ 1 (cs := #[.string qax, .int .i64 qaZ]) (t := 23) qa0 ?_; intro qaR hg w7 hbox hb; have qai := ak_ (hbox); have qcB := ak_ (HB.ge hg); have qcg := ak_ (HB.ge hg); replace HB := HB.mw hb; clear hb hbox hg; obtain ⟨qgg, qgh, qgz, qgi⟩ := qa2 qai.out) | ((with_reducible refine qad (f := 45) rfl ?_); refine gl_ 5 Tryz.func45 #[.agg #[.string qax, .int .i64 qaZ]] rfl qbK ?_; (with_reducible refine (qbl.calls k qax qaZ true _ A2.out).mono ?_); rintro e w9 ⟨rfl, hb⟩; refine ⟨_, rfl, ?_⟩; replace qai := qai.mw hb; replace HB := ak_ (qac qaM hb); (try clear hb)))
 replace qai := ak_ (qae qai.out); replace HB := ak_ (qap HB.out); refine qc7 (n := 9) (S := fun w' => w'.cell? ⟨qaR, 0, none⟩ = some (.string qax) ∧ w'.cell? ⟨qaR, 1, none⟩ = some (.int .i64 qaZ)) (ds := []) (rA_ [0, 9]) (by kernel_rfl) rfl rfl ⟨qbj qai.out, qbm qai.out⟩ (fun hHeld => ?_); refine qb1 qbv.tab3 qbv.qry (fun HT_ HW_ => ?_)
 generalize w9.drew = w10 at qai HB hHeld ⊢
 refine pu_ 0 7 [1, 8] ?_; refine pu_ 3 10 [1, 2, 1, 5] ?_; refine qip 1 8 [2, 1, 1, 5] ?_; refine pu_ 2 9 [4, 5] ?_; refine qip 4 11 [5, 4] ?_; refine qe2 (i := 5) (N := some 12) (rA_ [6, 3]) rfl rfl (qcn HT_.out (by kernel_rfl)) (by decide) (fun K hK => ?_); refine qdz Tryz.func50 (by kernel_rfl) rfl #[.int .i64 qaZ] (by rfl) rfl rfl qbK ?_
 with_reducible refine (qcf.calls k qaZ qaX _ A5.out).mono ?_
 rintro e w11 ⟨rfl, hb⟩; refine ⟨_, rfl, ?_⟩; replace qai := qai.mw hb; replace HB := ak_ (qac qaM hb); (try clear hb); (try clear hb2); (try clear hk); (try clear hi); refine hK.out _ _ ⟨qbj qai.out, qbm qai.out⟩ (fun hHeld => ?_); clear hK K; refine nm_ 12 ?_; refine pu_ 6 13 [7, 2] ?_; refine pu_ 7 2 [8, 1] ?_; refine pu_ 8 3 [9] ?_; refine qeI (qc3 HT_.out (by kernel_rfl)) ?_
 try go_wp2
 go_ret2
 exact ⟨qbx, qaM⟩
section
attribute [local go_sem] qfe qfg qf0 qf1 qeA qeB qff qfh
attribute [local go_sem high] qoQ
def qbd.l0 : Nat → List (qaj) → List (qaj) → Int → Int → Option (Bool)
 | 0, _, _, _, _ => none
 | k + 1, x0, x1, x12, x13 => if x13 < x12 then (if 0 ≤ x13 then (if x13 < (x0.length : Int) then (if x13 < (x1.length : Int) then (if (!(((qab x0 x13).f0) == ((qab x1 x13).f0)) || (!(((qab x0 x13).f1) == ((qab x1 x13).f1)))) = true then (some false) else (qbd.l0 k x0 x1 x12 (wrap64 (x13 + 1)))) else (none)) else (none)) else (none)) else (some true)
def qbd.f (k : Nat) (l0 : List (qaj)) (l1 : List (qaj)) : Option (Bool) := if (l0.length : Int) = (l1.length : Int) then (qbd.l0 k l0 l1 (l0.length : Int) 0) else (some false)
theorem qbd.calls (k : Nat) (A0 : Option Addr) (c0 : Nat) (l0 : List (qaj)) (A1 : Option Addr) (c1 : Nat) (l1 : List (qaj)) (r : Bool) (w : World) (hr0 : Kd.C qa1 w A0 l0.length l0) (hc0 : l0.length ≤ c0) (hr1 : Kd.C qa1 w A1 l1.length l1) (hc1 : l1.length ≤ c1) (h : qbd.f k l0 l1 = some r) :
  Calls Tryz.prog 20 #[.slice A0 l0.length c0, .slice A1 l1.length c1] w fun e w' => e = .returned (.bool r) ∧ qd0 w w' := by
 have qkE := Tryz.underlying33; have HR0 := ak_ hr0; have HC0 := ak_ hc0; clear hr0 hc0; have HR1 := ak_ hr1; have HC1 := ak_ hc1; clear hr1 hc1; have H : (if (l0.length : Int) = (l1.length : Int) then (qbd.l0 k l0 l1 (l0.length : Int) 0) else (some false)) = some r := h; clear h; by_cases c3 : (l0.length : Int) = (l1.length : Int); rotate_left
 ·rw [if_neg c3] at H; have qil : ((l0.length : Int) == (l1.length : Int)) = false := beq_eq_false_iff_ne.mpr c3; have qr3 : ((l0.length : Int) != (l1.length : Int)) = true := bne_iff_ne.mpr c3
  have c3b2 : (l0.length == l1.length) = false := by first | simpa using c3 | (simp at c3 ⊢; omega)
  obtain rfl := Option.some.inj H; go_enter Tryz.func20, Tryz.ntmps20; go_wp2
  repeat (go_quiet (fail); try go_wp2)
  go_ret
  exact ⟨qbg, qdT⟩
 rw [if_pos c3] at H; have qil : ((l0.length : Int) == (l1.length : Int)) = true := beq_iff_eq.mpr c3; have qr3 : ((l0.length : Int) != (l1.length : Int)) = false := bne_eq_false_iff_eq.mpr c3
 have c3b2 : (l0.length == l1.length) = true := by first | simpa using c3 | (simp at c3 ⊢; omega)
 clear c3; have H' := ak_ H; clear H; go_enter Tryz.func20, Tryz.ntmps20; go_wp2
 repeat (go_quiet (fail); try go_wp2)
 go_loopg [13] k (fun kq v13 w' => ∃ (qcx : Int), v13 = .int .i64 qcx ∧ qah (qbd.l0 kq l0 l1 (l0.length : Int) qcx = some r) ∧ qah (kq ≤ k) ∧ qd0 w w')
 case atStart => exact ⟨(0), qbg, H', ⟨Nat.le_refl _⟩, qdT⟩
 case round =>
  clear H'; (try clear c3); (try clear qil); (try clear qr3); (try clear c3b2); obtain ⟨qcx, rfl, HA, HK1, ⟨m1, rfl⟩⟩ := hrel
  cases gk with
  | zero => exact absurd HA.out (by simp [qbd.l0])
  | succ k1 =>
   have H := HA.out; clear HA; simp only [qbd.l0] at H; by_cases c4 : qcx < (l0.length : Int); rotate_left
   ·rw [if_neg c4] at H; have qhF : decide (qcx < (l0.length : Int)) = false := decide_eq_false c4; clear c4; obtain rfl := Option.some.inj H; go_wp2
    repeat (go_quiet (fail); try go_wp2)
    go_ret
    exact ⟨qbg, qdT⟩
   rw [if_pos c4] at H; have qhF : decide (qcx < (l0.length : Int)) = true := decide_eq_true c4; clear c4; by_cases c5 : 0 ≤ qcx; rotate_left
   ·rw [if_neg c5] at H; exact absurd H (by simp)
   rw [if_pos c5] at H; have qi9 : decide (0 ≤ qcx) = true := decide_eq_true c5; clear c5; by_cases c6 : qcx < (l0.length : Int); rotate_left
   ·rw [if_neg c6] at H; exact absurd H (by simp)
   rw [if_pos c6] at H; have qkn : decide (qcx < (l0.length : Int)) = true := decide_eq_true c6; clear c6; by_cases c7 : qcx < (l1.length : Int); rotate_left
   ·rw [if_neg c7] at H; exact absurd H (by simp)
   rw [if_pos c7] at H; have qiI : decide (qcx < (l1.length : Int)) = true := decide_eq_true c7; clear c7; by_cases c8 : (!(((qab l0 qcx).f0) == ((qab l1 qcx).f0)) || (!(((qab l0 qcx).f1) == ((qab l1 qcx).f1)))) = true
   ·rw [if_pos c8] at H; have c8b0 : (!(((qab l0 qcx).f0) == ((qab l1 qcx).f0)) || (!(((qab l0 qcx).f1) == ((qab l1 qcx).f1)))) = true := c8; clear c8; obtain rfl := Option.some.inj H; have qgF : 0 ≤ (qcx : Int) := of_decide_eq_true qa8; have qgG : qcx < (l0.length : Int) := of_decide_eq_true qa8; obtain ⟨qlc, qlo, qdv, qe9⟩ := qcq HR0.out qcx qgF qgG
    cases qlo
    replace qgF := eq_true qgF; replace qgG := eq_true qgG; have qhn : 0 ≤ (qcx : Int) := of_decide_eq_true qa8; have qho : qcx < (l1.length : Int) := of_decide_eq_true qa8; obtain ⟨qnw, qnL, qdw, qdI⟩ := qcq HR1.out qcx qhn qho
    cases qnL
    replace qhn := eq_true qhn; replace qho := eq_true qho; go_wp2
    repeat (go_quiet (fail); try go_wp2)
    go_ret
    exact ⟨qbg, qdT⟩
   rw [if_neg c8] at H
   have c8b0 : (!(((qab l0 qcx).f0) == ((qab l1 qcx).f0)) || (!(((qab l0 qcx).f1) == ((qab l1 qcx).f1)))) = false := by simpa using c8
   clear c8; have H' := ak_ H; clear H; have qgF : 0 ≤ (qcx : Int) := of_decide_eq_true qa8; have qgG : qcx < (l0.length : Int) := of_decide_eq_true qa8; obtain ⟨qlc, qlo, qdv, qe9⟩ := qcq HR0.out qcx qgF qgG
   cases qlo
   replace qgF := eq_true qgF; replace qgG := eq_true qgG; have qhn : 0 ≤ (qcx : Int) := of_decide_eq_true qa8; have qho : qcx < (l1.length : Int) := of_decide_eq_true qa8; obtain ⟨qnw, qnL, qdw, qdI⟩ := qcq HR1.out qcx qhn qho
   cases qnL
   replace qhn := eq_true qhn; replace qho := eq_true qho; go_wp2
   repeat (go_quiet (fail); try go_wp2)
   go_roundg k1
   case measure => have := HK1.out; omega
   case rel => exact ⟨(wrap64 (qcx + 1)), qbg, H', ⟨qgl⟩, qdT⟩
end
def qbN.l0 : Nat → List (List (qaj)) → List (List (qaj)) → Int → Int → Option (Bool)
 | 0, _, _, _, _ => none
 | k + 1, x0, x1, x12, x13 => if x13 < x12 then (if 0 ≤ x13 then (if x13 < (x0.length : Int) then (if x13 < (x1.length : Int) then ((qbd.f k (qar x0 x13) (qar x1 x13)).bind fun qaX => (if qaX = true then (qbN.l0 k x0 x1 x12 (wrap64 (x13 + 1))) else (some false))) else (none)) else (none)) else (none)) else (some true)
def qbN.f (k : Nat) (l0 : List (List (qaj))) (l1 : List (List (qaj))) : Option (Bool) := if (l0.length : Int) = (l1.length : Int) then (qbN.l0 k l0 l1 (l0.length : Int) 0) else (some false)
theorem qbN.calls (k : Nat) (A0 : Option Addr) (c0 : Nat) (l0 : List (List (qaj))) (A1 : Option Addr) (c1 : Nat) (l1 : List (List (qaj))) (r : Bool) (w : World) (hr0 : Kd.C (Kd.slice 33 qa1) w A0 l0.length l0) (hc0 : l0.length ≤ c0) (hr1 : Kd.C (Kd.slice 33 qa1) w A1 l1.length l1) (hc1 : l1.length ≤ c1) (h : qbN.f k l0 l1 = some r) :
  Calls Tryz.prog 19 #[.slice A0 l0.length c0, .slice A1 l1.length c1] w fun e w' => e = .returned (.bool r) ∧ qd0 w w' := by
 have HR0 := ak_ hr0; have HC0 := ak_ hc0; clear hr0 hc0; have HR1 := ak_ hr1; have HC1 := ak_ hc1; clear hr1 hc1; have H : (if (l0.length : Int) = (l1.length : Int) then (qbN.l0 k l0 l1 (l0.length : Int) 0) else (some false)) = some r := h; clear h; by_cases c3 : (l0.length : Int) = (l1.length : Int); rotate_left
 ·rw [if_neg c3] at H; have qil : ((l0.length : Int) == (l1.length : Int)) = false := beq_eq_false_iff_ne.mpr c3; have qr3 : ((l0.length : Int) != (l1.length : Int)) = true := bne_iff_ne.mpr c3
  have c3b2 : (l0.length == l1.length) = false := by first | simpa using c3 | (simp at c3 ⊢; omega)
  obtain rfl := Option.some.inj H; go_enter Tryz.func19, Tryz.ntmps19; go_wp2
  repeat (go_quiet (fail); try go_wp2)
  go_ret
  exact ⟨qbg, qdT⟩
 rw [if_pos c3] at H; have qil : ((l0.length : Int) == (l1.length : Int)) = true := beq_iff_eq.mpr c3; have qr3 : ((l0.length : Int) != (l1.length : Int)) = false := bne_eq_false_iff_eq.mpr c3
 have c3b2 : (l0.length == l1.length) = true := by first | simpa using c3 | (simp at c3 ⊢; omega)
 clear c3; have H' := ak_ H; clear H; go_enter Tryz.func19, Tryz.ntmps19; go_wp2
 repeat (go_quiet (fail); try go_wp2)
 go_loopg [13] k (fun kq v13 w' => ∃ (qcx : Int), v13 = .int .i64 qcx ∧ qah (qbN.l0 kq l0 l1 (l0.length : Int) qcx = some r) ∧ qah (kq ≤ k) ∧ qd0 w w')
 case atStart => exact ⟨(0), qbg, H', ⟨Nat.le_refl _⟩, qdT⟩
 case round =>
  clear H'; (try clear c3); (try clear qil); (try clear qr3); (try clear c3b2); obtain ⟨qcx, rfl, HA, HK1, ⟨m1, rfl⟩⟩ := hrel
  cases gk with
  | zero => exact absurd HA.out (by simp [qbN.l0])
  | succ k1 =>
   have H := HA.out; clear HA; simp only [qbN.l0] at H; by_cases c4 : qcx < (l0.length : Int); rotate_left
   ·rw [if_neg c4] at H; have qhF : decide (qcx < (l0.length : Int)) = false := decide_eq_false c4; clear c4; obtain rfl := Option.some.inj H; go_wp2
    repeat (go_quiet (fail); try go_wp2)
    go_ret
    exact ⟨qbg, qdT⟩
   rw [if_pos c4] at H; have qhF : decide (qcx < (l0.length : Int)) = true := decide_eq_true c4; clear c4; by_cases c5 : 0 ≤ qcx; rotate_left
   ·rw [if_neg c5] at H; exact absurd H (by simp)
   rw [if_pos c5] at H; have qi9 : decide (0 ≤ qcx) = true := decide_eq_true c5; clear c5; by_cases c6 : qcx < (l0.length : Int); rotate_left
   ·rw [if_neg c6] at H; exact absurd H (by simp)
   rw [if_pos c6] at H; have qkn : decide (qcx < (l0.length : Int)) = true := decide_eq_true c6; clear c6; by_cases c7 : qcx < (l1.length : Int); rotate_left
   ·rw [if_neg c7] at H; exact absurd H (by simp)
   rw [if_pos c7] at H; have qiI : decide (qcx < (l1.length : Int)) = true := decide_eq_true c7; clear c7; obtain ⟨qaX, A8, H⟩ := qbh H; (try dsimp only at H); by_cases c9 : qaX = true
   ·subst c9; rw [if_pos rfl] at H; have H' := ak_ H; clear H; have qgF : 0 ≤ (qcx : Int) := of_decide_eq_true qa8; have qgG : qcx < (l0.length : Int) := of_decide_eq_true qa8; obtain ⟨qlc, A101_0, c101_0, qlo, qdv, qlQ, qlM⟩ := qfL HR0.out qcx qgF qgG
    cases qlo
    have qsn := ak_ qlM; have qiE := ak_ qlQ; clear qlM qlQ; replace qgF := eq_true qgF; replace qgG := eq_true qgG; have qhn : 0 ≤ (qcx : Int) := of_decide_eq_true qa8; have qho : qcx < (l1.length : Int) := of_decide_eq_true qa8; obtain ⟨qnw, A102_0, c102_0, qnL, qdw, qlR, qlN⟩ := qfL HR1.out qcx qhn qho
    cases qnL
    have qso := ak_ qlN; have qiF := ak_ qlR; clear qlN qlR; replace qhn := eq_true qhn; replace qho := eq_true qho
    go_wp2_with (first | (go_at_call 20; (with_reducible refine (qbd.calls k1 _ _ (qar l0 qcx) _ _ (qar l1 qcx) true _ ?qaB ?qaC ?qdC ?qdD A8.out).mono ?_); (case qaB => exact k78_); (case qaC => exact qiE.out); (case qdC => exact k79_); (case qdD => exact qiF.out); rintro e w' ⟨rfl, ⟨nd, rfl⟩⟩; (try first | exact ⟨rfl, _, World.drewN_drewN _ _ _⟩ | exact ⟨rfl, _, Eq.trans (World.drewN_drewN _ _ _) (congrArg (World.drewN _) (Nat.add_assoc _ _ _))⟩)))
    repeat (go_quiet (first | (go_at_call 20; (with_reducible refine (qbd.calls k1 _ _ (qar l0 qcx) _ _ (qar l1 qcx) true _ ?qaB ?qaC ?qdC ?qdD A8.out).mono ?_); (case qaB => exact k78_); (case qaC => exact qiE.out); (case qdC => exact k79_); (case qdD => exact qiF.out); rintro e w' ⟨rfl, ⟨nd, rfl⟩⟩; (try first | exact ⟨rfl, _, World.drewN_drewN _ _ _⟩ | exact ⟨rfl, _, Eq.trans (World.drewN_drewN _ _ _) (congrArg (World.drewN _) (Nat.add_assoc _ _ _))⟩))); try go_wp2_with (first | (go_at_call 20; (with_reducible refine (qbd.calls k1 _ _ (qar l0 qcx) _ _ (qar l1 qcx) true _ ?qaB ?qaC ?qdC ?qdD A8.out).mono ?_); (case qaB => exact k78_); (case qaC => exact qiE.out); (case qdC => exact k79_); (case qdD => exact qiF.out); rintro e w' ⟨rfl, ⟨nd, rfl⟩⟩; (try first | exact ⟨rfl, _, World.drewN_drewN _ _ _⟩ | exact ⟨rfl, _, Eq.trans (World.drewN_drewN _ _ _) (congrArg (World.drewN _) (Nat.add_assoc _ _ _))⟩))))
    go_roundg k1
    case measure => have := HK1.out; omega
    case rel => exact ⟨(wrap64 (qcx + 1)), qbg, H', ⟨qgl⟩, qdT⟩
   replace c9 := Bool.eq_false_iff.mpr c9; subst c9; rw [if_neg (show ¬ (false = true) by decide)] at H; obtain rfl := Option.some.inj H; have qgF : 0 ≤ (qcx : Int) := of_decide_eq_true qa8; have qgG : qcx < (l0.length : Int) := of_decide_eq_true qa8; obtain ⟨qlc, A101_0, c101_0, qlo, qdv, qlQ, qlM⟩ := qfL HR0.out qcx qgF qgG
   cases qlo
   have qsn := ak_ qlM; have qiE := ak_ qlQ; clear qlM qlQ; replace qgF := eq_true qgF; replace qgG := eq_true qgG; have qhn : 0 ≤ (qcx : Int) := of_decide_eq_true qa8; have qho : qcx < (l1.length : Int) := of_decide_eq_true qa8; obtain ⟨qnw, A102_0, c102_0, qnL, qdw, qlR, qlN⟩ := qfL HR1.out qcx qhn qho
   cases qnL
   have qso := ak_ qlN; have qiF := ak_ qlR; clear qlN qlR; replace qhn := eq_true qhn; replace qho := eq_true qho
   go_wp2_with (first | (go_at_call 20; (with_reducible refine (qbd.calls k1 _ _ (qar l0 qcx) _ _ (qar l1 qcx) false _ ?qaB ?qaC ?qdC ?qdD A8.out).mono ?_); (case qaB => exact k78_); (case qaC => exact qiE.out); (case qdC => exact k79_); (case qdD => exact qiF.out); rintro e w' ⟨rfl, ⟨nd, rfl⟩⟩; (try first | exact ⟨rfl, _, World.drewN_drewN _ _ _⟩ | exact ⟨rfl, _, Eq.trans (World.drewN_drewN _ _ _) (congrArg (World.drewN _) (Nat.add_assoc _ _ _))⟩)))
   repeat (go_quiet (first | (go_at_call 20; (with_reducible refine (qbd.calls k1 _ _ (qar l0 qcx) _ _ (qar l1 qcx) false _ ?qaB ?qaC ?qdC ?qdD A8.out).mono ?_); (case qaB => exact k78_); (case qaC => exact qiE.out); (case qdC => exact k79_); (case qdD => exact qiF.out); rintro e w' ⟨rfl, ⟨nd, rfl⟩⟩; (try first | exact ⟨rfl, _, World.drewN_drewN _ _ _⟩ | exact ⟨rfl, _, Eq.trans (World.drewN_drewN _ _ _) (congrArg (World.drewN _) (Nat.add_assoc _ _ _))⟩))); try go_wp2_with (first | (go_at_call 20; (with_reducible refine (qbd.calls k1 _ _ (qar l0 qcx) _ _ (qar l1 qcx) false _ ?qaB ?qaC ?qdC ?qdD A8.out).mono ?_); (case qaB => exact k78_); (case qaC => exact qiE.out); (case qdC => exact k79_); (case qdD => exact qiF.out); rintro e w' ⟨rfl, ⟨nd, rfl⟩⟩; (try first | exact ⟨rfl, _, World.drewN_drewN _ _ _⟩ | exact ⟨rfl, _, Eq.trans (World.drewN_drewN _ _ _) (congrArg (World.drewN _) (Nat.add_assoc _ _ _))⟩))))
   go_ret
   exact ⟨qbg, qdT⟩
def qbB.f (qax : ByteArray) (qaZ : Int) : Option (Bool) := (qa7.f qax qaZ).bind fun qaF => (some qaF)
theorem qbB.calls (qax : ByteArray) (qaZ : Int) (r : Bool) (w : World) (h : qbB.f qax qaZ = some r) :
  Calls Tryz.prog 21 #[.agg #[.string qax, .int .i64 qaZ]] w fun e w' => e = .returned (.bool r) ∧ Below w.heap.size w w' := by
 have qiv := Tryz.underlying23; have HB := ak_ (Below.refl w.heap.size w); have H : ((qa7.f qax qaZ).bind fun qaF => (some qaF)) = some r := h; clear h; obtain ⟨qaF, A2, H⟩ := qbh H; (try dsimp only at H); obtain rfl := Option.some.inj H; go_enter Tryz.func21, Tryz.ntmps21
 go_wp2_with (first | ((with_reducible refine qas (N := 1) rfl ?_); refine bx_ 1 (cs := #[.string qax, .int .i64 qaZ]) (t := 23) qa0 ?_; intro qaR hg w3 hbox hb; have qai := ak_ (hbox); have qcB := ak_ (HB.ge hg); have qcg := ak_ (HB.ge hg); replace HB := HB.mw hb; clear hb hbox hg; obtain ⟨qmY, qmZ, qm0, qm1⟩ := qa2 qai.out) | ((with_reducible refine qad (f := 43) rfl ?_); refine gl_ 4 Tryz.func43 #[.agg #[.string qax, .int .i64 qaZ]] rfl qbK ?_; (with_reducible refine (qa7.calls qax qaZ qaF _ A2.out).mono ?_); rintro e w5 ⟨rfl, hb⟩; refine ⟨_, rfl, ?_⟩; replace qai := qai.mw hb; replace HB := ak_ (qac qaM hb); (try clear hb)))
 go_ret
 exact ⟨qbx, qaM⟩
def qcz.f (k : Nat) (qax : ByteArray) (qaZ : Int) : Option (Bool) := (qbl.f k qax qaZ).bind fun qaF => (some qaF)
theorem qcz.calls (k : Nat) (qax : ByteArray) (qaZ : Int) (r : Bool) (w : World) (h : qcz.f k qax qaZ = some r) :
  Calls Tryz.prog 22 #[.agg #[.string qax, .int .i64 qaZ]] w fun e w' => e = .returned (.bool r) ∧ Below w.heap.size w w' := by
 have qiv := Tryz.underlying23; have HB := ak_ (Below.refl w.heap.size w); have H : ((qbl.f k qax qaZ).bind fun qaF => (some qaF)) = some r := h; clear h; obtain ⟨qaF, A2, H⟩ := qbh H; (try dsimp only at H); obtain rfl := Option.some.inj H; go_enter Tryz.func22, Tryz.ntmps22
 go_wp2_with (first | ((with_reducible refine qas (N := 1) rfl ?_); refine bx_ 1 (cs := #[.string qax, .int .i64 qaZ]) (t := 23) qa0 ?_; intro qaR hg w3 hbox hb; have qai := ak_ (hbox); have qcB := ak_ (HB.ge hg); have qcg := ak_ (HB.ge hg); replace HB := HB.mw hb; clear hb hbox hg; obtain ⟨qmY, qmZ, qm0, qm1⟩ := qa2 qai.out) | ((with_reducible refine qad (f := 45) rfl ?_); refine gl_ 4 Tryz.func45 #[.agg #[.string qax, .int .i64 qaZ]] rfl qbK ?_; (with_reducible refine (qbl.calls k qax qaZ qaF _ A2.out).mono ?_); rintro e w5 ⟨rfl, hb⟩; refine ⟨_, rfl, ?_⟩; replace qai := qai.mw hb; replace HB := ak_ (qac qaM hb); (try clear hb)))
 go_ret
 exact ⟨qbx, qaM⟩
def qfO.f (l0 : List Int) (l1 : List Int) : Option (Bool) := if (l0.length : Int) > 1048576 then (some true) else (some (decide ((l1.length : Int) > (wrap64 (1048576 - (l0.length : Int))))))
theorem qfO.calls (A0 : Option Addr) (c0 : Nat) (l0 : List Int) (A1 : Option Addr) (c1 : Nat) (l1 : List Int) (r : Bool) (w : World) (hr0 : Kd.C (Kd.int .u8) w A0 l0.length l0) (hc0 : l0.length ≤ c0) (hr1 : Kd.C (Kd.int .u8) w A1 l1.length l1) (hc1 : l1.length ≤ c1) (h : qfO.f l0 l1 = some r) :
  Calls Tryz.prog 31 #[.slice A0 l0.length c0, .slice A1 l1.length c1] w fun e w' => e = .returned (.bool r) ∧ qd0 w w' := by
 have HR0 := ak_ hr0; have HC0 := ak_ hc0; clear hr0 hc0; have HR1 := ak_ hr1; have HC1 := ak_ hc1; clear hr1 hc1; have H : (if (l0.length : Int) > 1048576 then (some true) else (some (decide ((l1.length : Int) > (wrap64 (1048576 - (l0.length : Int))))))) = some r := h; clear h; by_cases c3 : (l0.length : Int) > 1048576
 ·rw [if_pos c3] at H; have qil : decide (1048576 < (l0.length : Int)) = true := decide_eq_true c3; have qr3 : decide (1048576 < l0.length) = true := decide_eq_true (by omega); clear c3; obtain rfl := Option.some.inj H; go_enter Tryz.func31, Tryz.ntmps31; go_wp2
  go_ret
  exact ⟨qbg, qdT⟩
 rw [if_neg c3] at H; have qil : decide (1048576 < (l0.length : Int)) = false := decide_eq_false c3; have qr3 : decide (1048576 < l0.length) = false := decide_eq_false (by omega); clear c3; obtain rfl := Option.some.inj H; go_enter Tryz.func31, Tryz.ntmps31; go_wp2
 go_ret
 exact ⟨qbg, qdT⟩
def qaE (w0 W : World) (g : Nat) (f0 : List Int) (f1 : Int) (f2 : Int) : Prop := ∃ A0 c0, W.heap[g]? = some (.cells #[.slice A0 f0.length c0, .int .i64 f1, .int .u64 f2] 75 (0, 0)) ∧ w0.heap.size ≤ g ∧ Kd.C (Kd.int .u8) w0 A0 f0.length f0
theorem qaE.grown {w0 W : World} {g : Nat} {f0 : List Int} {f1 : Int} {f2 : Int} {W1 : World} {row : Option Nat} (h : qaE w0 W g f0 f1 f2) (hw : W.grownBy W1 row) (hne : some g ≠ row) : qaE w0 W1 g f0 f1 f2 := by
 obtain ⟨A0, c0, hb, hg, hr0⟩ := h; exact ⟨A0, c0, qey hb hw hne, hg, hr0⟩
theorem qaE.own_neN {w0 W : World} {g : Nat} {f0 : List Int} {f1 : Int} {f2 : Int} {α : Type} {d : Kd α} {e : Nat} {base : Nat} {ok : Nat → Prop} {v : Value} {xs : List α} (h : qaE w0 W g f0 f1 f2) (ho : Kd.N d e W base ok v xs) (ht : e ≠ 75) : some g ≠ v.ownBlock := by
 obtain ⟨A0, c0, hb, hg, hr0⟩ := h; exact Kd.N_ne ho hb ht
theorem qaE.fresh {w0 W : World} {g : Nat} {f0 : List Int} {f1 : Int} {f2 : Int} (h : qaE w0 W g f0 f1 f2) : ∀ k, W.heap.size ≤ k → k ≠ g := by
 obtain ⟨A0, c0, hb, hg, hr0⟩ := h; exact Kd.qoV hb
theorem qaE.kept {w0 W : World} {g : Nat} {f0 : List Int} {f1 : Int} {f2 : Int} {W1 : World} {S : Nat → Prop} (h : qaE w0 W g f0 f1 f2) (hk : Kept W W1 S) (hne : ¬ S g) : qaE w0 W1 g f0 f1 f2 := by
 obtain ⟨A0, c0, hb, hg, hr0⟩ := h; exact ⟨A0, c0, blk_kept hb hk hne, hg, hr0⟩
theorem qaE.below {w0 W : World} {g : Nat} {f0 : List Int} {f1 : Int} {f2 : Int} {W1 : World} (h : qaE w0 W g f0 f1 f2) (hw : Below W.heap.size W W1) : qaE w0 W1 g f0 f1 f2 := h.grown (qcc hw none) (by simp)
theorem qaE.alloc {w0 W : World} {g : Nat} {f0 : List Int} {f1 : Int} {f2 : Int} (h : qaE w0 W g f0 f1 f2) (o : Obj) : qaE w0 (W.alloc o) g f0 f1 f2 := h.below (qau (Below.refl _ _) o)
theorem qaE.drewN {w0 W : World} {g : Nat} {f0 : List Int} {f1 : Int} {f2 : Int} (h : qaE w0 W g f0 f1 f2) (m : Nat) : qaE w0 (W.drewN m) g f0 f1 f2 := h
theorem qaE.drew {w0 W : World} {g : Nat} {f0 : List Int} {f1 : Int} {f2 : Int} (h : qaE w0 W g f0 f1 f2) : qaE w0 W.drew g f0 f1 f2 := h
theorem qaE.at_ {w0 W : World} {g : Nat} {f0 : List Int} {f1 : Int} {f2 : Int} {w' : World} {m : Nat} (hq : W.drewN m = w') (h : qaE w0 W g f0 f1 f2) : qaE w0 w' g f0 f1 f2 := by subst hq; exact qaE.drewN h m
theorem qaE.apart {w0 W : World} {g : Nat} {f0 : List Int} {f1 : Int} {f2 : Int} {α : Type} {d : Kd α} {e : Nat} {base : Nat} {ok : Nat → Prop} {v : Value} {xs : List α} (h : qaE w0 W g f0 f1 f2) (ho : d.R e W base ok v xs) (ht : ∀ q, q ∈ e :: d.E → q ≠ 75) : d.R e W base (fun k => ok k ∧ k ≠ g) v xs := by
 obtain ⟨A0, c0, hb, hg, hr0⟩ := h; exact Kd.qgr ho hb ht
theorem qaE.qgj {w0 W : World} {g : Nat} {f0 : List Int} {f1 : Int} {f2 : Int} {α : Type} {d : Kd α} {e : Nat} {base : Nat} {ok : Nat → Prop} {v : Value} {xs : List α} (h : qaE w0 W g f0 f1 f2) (ho : d.R e W base ok v xs) (ht : e ≠ 75) : some g ≠ v.ownBlock := by
 obtain ⟨A0, c0, hb, hg, hr0⟩ := h; exact Kd.qsK ho hb ht
theorem qaE.apartQ {w0 W : World} {g : Nat} {f0 : List Int} {f1 : Int} {f2 : Int} {α : Type} {d : Kd α} {e : Nat} {base : Nat} {ok : Nat → Prop} {v : Value} {xs : List α} (h : qaE w0 W g f0 f1 f2) (ho : d.Q e W base ok v xs) (ht : ∀ q, q ∈ e :: d.E → q ≠ 75) : d.Q e W base (fun k => ok k ∧ k ≠ g) v xs := by
 obtain ⟨A0, c0, hb, hg, hr0⟩ := h; exact Kd.qnu ho hb ht
theorem qaE.own_neQ {w0 W : World} {g : Nat} {f0 : List Int} {f1 : Int} {f2 : Int} {α : Type} {d : Kd α} {e : Nat} {base : Nat} {ok : Nat → Prop} {v : Value} {xs : List α} (h : qaE w0 W g f0 f1 f2) (ho : d.Q e W base ok v xs) (ht : e ≠ 75) : some g ≠ v.ownBlock := by
 obtain ⟨A0, c0, hb, hg, hr0⟩ := h; exact Kd.Q_ne ho hb ht
theorem qaE.apartS {w0 W : World} {g : Nat} {f0 : List Int} {f1 : Int} {f2 : Int} {α : Type} {d : Kd α} {e : Nat} {base : Nat} {ok : Nat → Prop} {v : Value} {xs : List α} (h : qaE w0 W g f0 f1 f2) (ho : d.S e W base ok v xs) (ht : ∀ q, q ∈ e :: d.E → q ≠ 75) : d.S e W base (fun k => ok k ∧ k ≠ g) v xs := by
 obtain ⟨A0, c0, hb, hg, hr0⟩ := h; exact Kd.S_types ho hb ht
theorem qaE.own_neS {w0 W : World} {g : Nat} {f0 : List Int} {f1 : Int} {f2 : Int} {α : Type} {d : Kd α} {e : Nat} {base : Nat} {ok : Nat → Prop} {v : Value} {xs : List α} (h : qaE w0 W g f0 f1 f2) (ho : d.S e W base ok v xs) (ht : e ≠ 75) : some g ≠ v.ownBlock := by
 obtain ⟨A0, c0, hb, hg, hr0⟩ := h; exact Kd.S_ne ho hb ht
theorem qaE.lt {w0 W : World} {g : Nat} {f0 : List Int} {f1 : Int} {f2 : Int} (h : qaE w0 W g f0 f1 f2) : g < W.heap.size := by
 obtain ⟨A0, c0, hb, hg, hr0⟩ := h; exact qdN hb
theorem qaE.ge {w0 W : World} {g : Nat} {f0 : List Int} {f1 : Int} {f2 : Int} (h : qaE w0 W g f0 f1 f2) : w0.heap.size ≤ g := by
 obtain ⟨A0, c0, hb, hg, hr0⟩ := h; exact hg
theorem qaE.ne_blk {w0 W : World} {g : Nat} {f0 : List Int} {f1 : Int} {f2 : Int} {a : Nat} {cs : Array Value} {t : TypeId} {fr : Nat × Nat} (h : qaE w0 W g f0 f1 f2) (hb2 : W.heap[a]? = some (.cells cs t fr)) (ht : t ≠ 75) : g ≠ a := by
 obtain ⟨A0, c0, hb, hg, hr0⟩ := h; rintro rfl; rw [hb] at hb2
 injection hb2 with hb2
 injection hb2 with _ ht2
 exact ht ht2.symm
theorem qaE.far {w0 W : World} {g : Nat} {f0 : List Int} {f1 : Int} {f2 : Int} {p : Addr} (h : qaE w0 W g f0 f1 f2) (hne : g ≠ p.block) (u : Value) : qaE w0 (W.setCell p u) g f0 f1 f2 := by
 obtain ⟨A0, c0, hb, hg, hr0⟩ := h; exact ⟨A0, c0, qa4 hb hne u, hg, hr0⟩
theorem qjf {W : World} {g : Nat} {A0 : Option Addr} {c0 : Nat} {f0 : List Int} {f1 : Int} {f2 : Int} (h : W.heap[g]? = some (.cells #[.slice A0 f0.length c0, .int .i64 f1, .int .u64 f2] 75 (0, 0))) : W.cell? ⟨g, 0, none⟩ = some (.slice A0 f0.length c0) := (qaO h 0).trans rfl
theorem qjg {W : World} {g : Nat} {A0 : Option Addr} {c0 : Nat} {f0 : List Int} {f1 : Int} {f2 : Int} (h : W.heap[g]? = some (.cells #[.slice A0 f0.length c0, .int .i64 f1, .int .u64 f2] 75 (0, 0))) : W.cell? ⟨g, 1, none⟩ = some (.int .i64 f1) := (qaO h 1).trans rfl
theorem qaE.qua {w0 W : World} {g : Nat} {f0 : List Int} {f1 : Int} {f2 : Int} (h : qaE w0 W g f0 f1 f2) (x : Int) : qaE w0 (W.setCell ⟨g, 1, none⟩ (.int .i64 x)) g f0 x f2 := by
 obtain ⟨A0, c0, hb, hg, hr0⟩ := h; exact ⟨A0, c0, by simpa using qnB hb 1 (.int .i64 x), hg, hr0⟩
theorem qjh {W : World} {g : Nat} {A0 : Option Addr} {c0 : Nat} {f0 : List Int} {f1 : Int} {f2 : Int} (h : W.heap[g]? = some (.cells #[.slice A0 f0.length c0, .int .i64 f1, .int .u64 f2] 75 (0, 0))) : W.cell? ⟨g, 2, none⟩ = some (.int .u64 f2) := (qaO h 2).trans rfl
theorem qaE.qub {w0 W : World} {g : Nat} {f0 : List Int} {f1 : Int} {f2 : Int} (h : qaE w0 W g f0 f1 f2) (x : Int) : qaE w0 (W.setCell ⟨g, 2, none⟩ (.int .u64 x)) g f0 f1 x := by
 obtain ⟨A0, c0, hb, hg, hr0⟩ := h; exact ⟨A0, c0, by simpa using qnB hb 2 (.int .u64 x), hg, hr0⟩
theorem qaE.new (w0 W : World) (A0 : Option Addr) (c0 : Nat) (f0 : List Int) (f1 : Int) (f2 : Int) (hB : Below w0.heap.size w0 W) (hr0 : Kd.C (Kd.int .u8) w0 A0 f0.length f0) : qaE w0 (W.alloc (.cells #[.slice A0 f0.length c0, .int .i64 f1, .int .u64 f2] 75)) W.heap.size f0 f1 f2 := ⟨A0, c0, by simpa using heap_alloc_new W _, hB.size, hr0⟩
def qcH.f (qbk : List Int) (qc2 : Int) (qdU : Int) : Option (Int × Int × Int) := if qc2 < (qbk.length : Int) then (if 0 ≤ qc2 then (if (wrap64 (qc2 + 1)) ≤ (qbk.length : Int) then (some (wrap64 (rd qbk qc2), wrap64 (qc2 + 1), IntKind.u64.wrap ((IntKind.u64.wrap ((IntKind.u64.wrap (qdU * 6364136223846793005)) + (IntKind.u64.wrap (wrap64 (rd qbk qc2))))) + 1442695040888963407))) else (some (wrap64 (Go.bits .and .u64 ((IntKind.u64.wrap ((IntKind.u64.wrap ((IntKind.u64.wrap (qdU * 6364136223846793005)) + (IntKind.u64.wrap (wrap64 (rd qbk qc2))))) + 1442695040888963407)) / 1099511627776) 255), wrap64 (qc2 + 1), IntKind.u64.wrap ((IntKind.u64.wrap ((IntKind.u64.wrap (qdU * 6364136223846793005)) + (IntKind.u64.wrap (wrap64 (rd qbk qc2))))) + 1442695040888963407)))) else (none)) else (if (wrap64 (qc2 + 1)) ≤ (qbk.length : Int) then (some (0, wrap64 (qc2 + 1), IntKind.u64.wrap ((IntKind.u64.wrap ((IntKind.u64.wrap (qdU * 6364136223846793005)) + 0)) + 1442695040888963407))) else (some (wrap64 (Go.bits .and .u64 ((IntKind.u64.wrap ((IntKind.u64.wrap ((IntKind.u64.wrap (qdU * 6364136223846793005)) + 0)) + 1442695040888963407)) / 1099511627776) 255), wrap64 (qc2 + 1), IntKind.u64.wrap ((IntKind.u64.wrap ((IntKind.u64.wrap (qdU * 6364136223846793005)) + 0)) + 1442695040888963407))))
theorem qcH.calls (g : Nat) (qbk : List Int) (qc2 : Int) (qdU : Int) (r1 : Int) (r2 : Int) (r3 : Int) (w0 w : World) (hI : qaE w0 w g qbk qc2 qdU) (hB : Below w0.heap.size w0 w) (h : qcH.f qbk qc2 qdU = some (r1, r2, r3)) :
  Calls Tryz.prog 92 #[.pointer (some ⟨g, 0, none⟩)] w fun e w' => e = .returned (.int .i64 r1) ∧ qaE w0 w' g qbk r2 r3 ∧ Below w0.heap.size w0 w' ∧ qak w w' g none := by
 have HI0 := ak_ hI; have HK := ak_ (qak.refl w g none); have HL := ak_ hB.size; clear hI; have HW0 := ak_ hB.size; have HB := ak_ hB; clear hB; have H : (if qc2 < (qbk.length : Int) then (if 0 ≤ qc2 then (if (wrap64 (qc2 + 1)) ≤ (qbk.length : Int) then (some (wrap64 (rd qbk qc2), wrap64 (qc2 + 1), IntKind.u64.wrap ((IntKind.u64.wrap ((IntKind.u64.wrap (qdU * 6364136223846793005)) + (IntKind.u64.wrap (wrap64 (rd qbk qc2))))) + 1442695040888963407))) else (some (wrap64 (Go.bits .and .u64 ((IntKind.u64.wrap ((IntKind.u64.wrap ((IntKind.u64.wrap (qdU * 6364136223846793005)) + (IntKind.u64.wrap (wrap64 (rd qbk qc2))))) + 1442695040888963407)) / 1099511627776) 255), wrap64 (qc2 + 1), IntKind.u64.wrap ((IntKind.u64.wrap ((IntKind.u64.wrap (qdU * 6364136223846793005)) + (IntKind.u64.wrap (wrap64 (rd qbk qc2))))) + 1442695040888963407)))) else (none)) else (if (wrap64 (qc2 + 1)) ≤ (qbk.length : Int) then (some (0, wrap64 (qc2 + 1), IntKind.u64.wrap ((IntKind.u64.wrap ((IntKind.u64.wrap (qdU * 6364136223846793005)) + 0)) + 1442695040888963407))) else (some (wrap64 (Go.bits .and .u64 ((IntKind.u64.wrap ((IntKind.u64.wrap ((IntKind.u64.wrap (qdU * 6364136223846793005)) + 0)) + 1442695040888963407)) / 1099511627776) 255), wrap64 (qc2 + 1), IntKind.u64.wrap ((IntKind.u64.wrap ((IntKind.u64.wrap (qdU * 6364136223846793005)) + 0)) + 1442695040888963407))))) = some (r1, r2, r3) := h; clear h; by_cases c2 : qc2 < (qbk.length : Int); rotate_left
 ·rw [if_neg c2] at H; have qkC : decide (qc2 < (qbk.length : Int)) = false := decide_eq_false c2; clear c2; by_cases c7 : (wrap64 (qc2 + 1)) ≤ (qbk.length : Int)
  ·rw [if_pos c7] at H; have qiI : decide ((wrap64 (qc2 + 1)) ≤ (qbk.length : Int)) = true := decide_eq_true c7; clear c7; simp only [Option.some.injEq, Prod.mk.injEq] at H; obtain ⟨rfl, rfl, rfl⟩ := H; obtain ⟨ASz8_0, cSz8_0, HGz8, hgz8, HSz8_0⟩ := HI0.out; have qgg := qjf HGz8; have qgh := qjg HGz8; have hcz8_2 := qjh HGz8; have qgi := qaU HGz8 1; have hfz8_2 := qaU HGz8 2; clear HGz8 hgz8; go_enter Tryz.func92, Tryz.ntmps92; go_wp2
   repeat (go_quiet (fail); try go_wp2)
   go_ret
   (try simp only [Int.add_zero]); exact ⟨qbx, qcR, qdO, qcW⟩
  rw [if_neg c7] at H; have qiI : decide ((wrap64 (qc2 + 1)) ≤ (qbk.length : Int)) = false := decide_eq_false c7; clear c7; simp only [Option.some.injEq, Prod.mk.injEq] at H; obtain ⟨rfl, rfl, rfl⟩ := H; obtain ⟨ASz9_0, cSz9_0, HGz9, hgz9, HSz9_0⟩ := HI0.out; have qlB := qjf HGz9; have qlC := qjg HGz9; have hcz9_2 := qjh HGz9; have qlL := qaU HGz9 1; have hfz9_2 := qaU HGz9 2; clear HGz9 hgz9; go_enter Tryz.func92, Tryz.ntmps92; go_wp2
  repeat (go_quiet (fail); try go_wp2)
  go_ret
  (try simp only [Int.add_zero]); exact ⟨qbx, qcR, qdO, qcW⟩
 rw [if_pos c2] at H; have qkC : decide (qc2 < (qbk.length : Int)) = true := decide_eq_true c2; clear c2; by_cases c3 : 0 ≤ qc2; rotate_left
 ·rw [if_neg c3] at H; exact absurd H (by simp)
 rw [if_pos c3] at H; have qil : decide (0 ≤ qc2) = true := decide_eq_true c3; clear c3; by_cases c4 : (wrap64 (qc2 + 1)) ≤ (qbk.length : Int)
 ·rw [if_pos c4] at H; have qhF : decide ((wrap64 (qc2 + 1)) ≤ (qbk.length : Int)) = true := decide_eq_true c4; clear c4; simp only [Option.some.injEq, Prod.mk.injEq] at H; obtain ⟨rfl, rfl, rfl⟩ := H; obtain ⟨ASz5_0, cSz5_0, HGz5, hgz5, HSz5_0⟩ := HI0.out; have qtz := qjf HGz5; have qtA := qjg HGz5; have hcz5_2 := qjh HGz5; have qtH := qaU HGz5 1; have hfz5_2 := qaU HGz5 2; clear HGz5 hgz5; have qgF : 0 ≤ (qc2 : Int) := of_decide_eq_true qa8; have qgG : qc2 < (qbk.length : Int) := of_decide_eq_true qa8; obtain ⟨qlc, qlo, qdv⟩ := Kd.qmQ HSz5_0 qc2 qgF qgG
  cases qlo
  replace qdv := qay HB.out qdv; replace qgF := eq_true qgF; replace qgG := eq_true qgG; go_enter Tryz.func92, Tryz.ntmps92; go_wp2
  repeat (go_quiet (fail); try go_wp2)
  go_ret
  (try simp only [Int.add_zero]); exact ⟨qbx, qcR, qdO, qcW⟩
 rw [if_neg c4] at H; have qhF : decide ((wrap64 (qc2 + 1)) ≤ (qbk.length : Int)) = false := decide_eq_false c4; clear c4; simp only [Option.some.injEq, Prod.mk.injEq] at H; obtain ⟨rfl, rfl, rfl⟩ := H; obtain ⟨ASz6_0, cSz6_0, HGz6, hgz6, HSz6_0⟩ := HI0.out; have qjn := qjf HGz6; have qjo := qjg HGz6; have hcz6_2 := qjh HGz6; have qjq := qaU HGz6 1; have hfz6_2 := qaU HGz6 2; clear HGz6 hgz6; have qgF : 0 ≤ (qc2 : Int) := of_decide_eq_true qa8; have qgG : qc2 < (qbk.length : Int) := of_decide_eq_true qa8; obtain ⟨qlc, qlo, qdv⟩ := Kd.qmQ HSz6_0 qc2 qgF qgG
 cases qlo
 replace qdv := qay HB.out qdv; replace qgF := eq_true qgF; replace qgG := eq_true qgG; go_enter Tryz.func92, Tryz.ntmps92; go_wp2
 repeat (go_quiet (fail); try go_wp2)
 go_ret
 (try simp only [Int.add_zero]); exact ⟨qbx, qcR, qdO, qcW⟩
def qan.f (qbk : List Int) (qc2 : Int) (qdU : Int) (a1 : Int) : Option (Int × Int × Int) := if a1 ≤ 1 then (some (0, qc2, qdU)) else ((qcH.f qbk qc2 qdU).bind fun qb9 => (if a1 > 200 then ((qcH.f qbk qb9.2.1 qb9.2.2).bind fun qfd => (if a1 = 0 then (none) else (some (Int.tmod (wrap64 ((wrap64 (qb9.1 * 256)) + qfd.1)) a1, qfd.2.1, qfd.2.2)))) else (if a1 = 0 then (none) else (some (Int.tmod qb9.1 a1, qb9.2.1, qb9.2.2)))))
theorem qan.calls (g : Nat) (qbk : List Int) (qc2 : Int) (qdU : Int) (a1 : Int) (r1 : Int) (r2 : Int) (r3 : Int) (w0 w : World) (hI : qaE w0 w g qbk qc2 qdU) (hB : Below w0.heap.size w0 w) (h : qan.f qbk qc2 qdU a1 = some (r1, r2, r3)) :
  Calls Tryz.prog 66 #[.pointer (some ⟨g, 0, none⟩), .int .i64 a1] w fun e w' => e = .returned (.int .i64 r1) ∧ qaE w0 w' g qbk r2 r3 ∧ Below w0.heap.size w0 w' ∧ qak w w' g none := by
 have HI0 := ak_ hI; have HK := ak_ (qak.refl w g none); have HL := ak_ hB.size; clear hI; have HW0 := ak_ hB.size; have HB := ak_ hB; clear hB; have H : (if a1 ≤ 1 then (some (0, qc2, qdU)) else ((qcH.f qbk qc2 qdU).bind fun qb9 => (if a1 > 200 then ((qcH.f qbk qb9.2.1 qb9.2.2).bind fun qfd => (if a1 = 0 then (none) else (some (Int.tmod (wrap64 ((wrap64 (qb9.1 * 256)) + qfd.1)) a1, qfd.2.1, qfd.2.2)))) else (if a1 = 0 then (none) else (some (Int.tmod qb9.1 a1, qb9.2.1, qb9.2.2)))))) = some (r1, r2, r3) := h; clear h; by_cases c3 : a1 ≤ 1
 ·rw [if_pos c3] at H; have qil : decide (a1 ≤ 1) = true := decide_eq_true c3; clear c3; simp only [Option.some.injEq, Prod.mk.injEq] at H; obtain ⟨rfl, rfl, rfl⟩ := H; go_enter Tryz.func66, Tryz.ntmps66; go_wp2
  go_ret
  exact ⟨qbx, qcR, qdO, qcW⟩
 rw [if_neg c3] at H; have qil : decide (a1 ≤ 1) = false := decide_eq_false c3; clear c3; obtain ⟨⟨qco, qaF, qaX⟩, A4, H⟩ := qbh H; (try dsimp only at H); by_cases c5 : a1 > 200
 ·rw [if_pos c5] at H; have qi9 : decide (200 < a1) = true := decide_eq_true c5; clear c5; obtain ⟨⟨qcC, t105, qgH⟩, A6, H⟩ := qbh H; (try dsimp only at H); by_cases c7 : a1 = 0
  ·rw [if_pos c7] at H; exact absurd H (by simp)
  rw [if_neg c7] at H; have qiI : (a1 == 0) = false := beq_eq_false_iff_ne.mpr c7; have qmR : (a1 != 0) = true := bne_iff_ne.mpr c7; simp only [Option.some.injEq, Prod.mk.injEq] at H; obtain ⟨rfl, rfl, rfl⟩ := H; go_enter Tryz.func66, Tryz.ntmps66
  go_wp2_with (first | ((with_reducible refine qad (f := 92) rfl ?_); refine gl_ 9 Tryz.func92 #[.pointer (some ⟨g, 0, none⟩)] rfl qbK ?_; (with_reducible refine (qcH.calls g qbk qc2 qdU qco qaF qaX w0 _ ?qaB ?qaC A4.out).mono ?_); (case qaB => exact qcR); (case qaC => exact qdO); rintro e w8 ⟨rfl, hi, hb, hk⟩; refine ⟨_, rfl, ?_⟩; replace HK := ak_ (qak.trans qcW hk (.inl rfl)); replace HB := ak_ (hb); replace HI0 := ak_ (hi); (try clear hb hk hi)) | ((with_reducible refine qad (f := 92) rfl ?_); refine gl_ 15 Tryz.func92 #[.pointer (some ⟨g, 0, none⟩)] rfl qbK ?_; (with_reducible refine (qcH.calls g qbk qaF qaX qcC t105 qgH w0 _ ?qaB ?qaC A6.out).mono ?_); (case qaB => exact qcR); (case qaC => exact qdO); rintro e w9 ⟨rfl, hi, hb, hk⟩; refine ⟨_, rfl, ?_⟩; replace HK := ak_ (qak.trans qcW hk (.inl rfl)); replace HB := ak_ (hb); replace HI0 := ak_ (hi); (try clear hb hk hi)))
  go_ret
  exact ⟨qbx, qcR, qdO, qcW⟩
 rw [if_neg c5] at H; have qi9 : decide (200 < a1) = false := decide_eq_false c5; clear c5; by_cases c10 : a1 = 0
 ·rw [if_pos c10] at H; exact absurd H (by simp)
 rw [if_neg c10] at H; have qs1 : (a1 == 0) = false := beq_eq_false_iff_ne.mpr c10; have c10b1 : (a1 != 0) = true := bne_iff_ne.mpr c10; simp only [Option.some.injEq, Prod.mk.injEq] at H; obtain ⟨rfl, rfl, rfl⟩ := H; go_enter Tryz.func66, Tryz.ntmps66
 go_wp2_with (first | ((with_reducible refine qad (f := 92) rfl ?_); refine gl_ 9 Tryz.func92 #[.pointer (some ⟨g, 0, none⟩)] rfl qbK ?_; (with_reducible refine (qcH.calls g qbk qc2 qdU qco qaF qaX w0 _ ?qaB ?qaC A4.out).mono ?_); (case qaB => exact qcR); (case qaC => exact qdO); rintro e w11 ⟨rfl, hi, hb, hk⟩; refine ⟨_, rfl, ?_⟩; replace HK := ak_ (qak.trans qcW hk (.inl rfl)); replace HB := ak_ (hb); replace HI0 := ak_ (hi); (try clear hb hk hi)))
 go_ret
 exact ⟨qbx, qcR, qdO, qcW⟩
def qbH.f (qbk : List Int) (qc2 : Int) (qdU : Int) (a1 : Int) : Option (Bool × Int × Int) := (qan.f qbk qc2 qdU a1).bind fun qb9 => (some ((qb9.1 == 0), qb9.2.1, qb9.2.2))
theorem qbH.calls (g : Nat) (qbk : List Int) (qc2 : Int) (qdU : Int) (a1 : Int) (r1 : Bool) (r2 : Int) (r3 : Int) (w0 w : World) (hI : qaE w0 w g qbk qc2 qdU) (hB : Below w0.heap.size w0 w) (h : qbH.f qbk qc2 qdU a1 = some (r1, r2, r3)) :
  Calls Tryz.prog 65 #[.pointer (some ⟨g, 0, none⟩), .int .i64 a1] w fun e w' => e = .returned (.bool r1) ∧ qaE w0 w' g qbk r2 r3 ∧ Below w0.heap.size w0 w' ∧ qak w w' g none := by
 have HI0 := ak_ hI; have HK := ak_ (qak.refl w g none); have HL := ak_ hB.size; clear hI; have HW0 := ak_ hB.size; have HB := ak_ hB; clear hB; have H : ((qan.f qbk qc2 qdU a1).bind fun qb9 => (some ((qb9.1 == 0), qb9.2.1, qb9.2.2))) = some (r1, r2, r3) := h; clear h; obtain ⟨⟨qco, qaF, qaX⟩, A3, H⟩ := qbh H; (try dsimp only at H); simp only [Option.some.injEq, Prod.mk.injEq] at H; obtain ⟨rfl, rfl, rfl⟩ := H; go_enter Tryz.func65, Tryz.ntmps65
 go_wp2_with (first | ((with_reducible refine qad (f := 66) rfl ?_); refine gl_ 7 Tryz.func66 #[.pointer (some ⟨g, 0, none⟩), .int .i64 a1] rfl qbK ?_; (with_reducible refine (qan.calls g qbk qc2 qdU a1 qco qaF qaX w0 _ ?qaB ?qaC A3.out).mono ?_); (case qaB => exact qcR); (case qaC => exact qdO); rintro e w4 ⟨rfl, hi, hb, hk⟩; refine ⟨_, rfl, ?_⟩; replace HK := ak_ (qak.trans qcW hk (.inl rfl)); replace HB := ak_ (hb); replace HI0 := ak_ (hi); (try clear hb hk hi)))
 go_ret
 exact ⟨qbx, qcR, qdO, qcW⟩
def qfu.f (qax : Int) (qaZ : Int) : Option (Bool) := (qbF.f qax 2 60).bind fun qaF => (if qaF = true then ((qbF.f qaZ 0 (wrap64 (qax - 1))).bind fun qaX => (some qaX)) else (some false))
theorem qfu.calls (qax : Int) (qaZ : Int) (r : Bool) (w : World) (h : qfu.f qax qaZ = some r) :
  Calls Tryz.prog 86 #[.agg #[.int .i64 qax, .int .i64 qaZ]] w fun e w' => e = .returned (.bool r) ∧ Below w.heap.size w w' := by
 have qkE := Tryz.underlying33; have HB := ak_ (Below.refl w.heap.size w); have H : ((qbF.f qax 2 60).bind fun qaF => (if qaF = true then ((qbF.f qaZ 0 (wrap64 (qax - 1))).bind fun qaX => (some qaX)) else (some false))) = some r := h; clear h; obtain ⟨qaF, A2, H⟩ := qbh H; (try dsimp only at H); by_cases c3 : qaF = true
 ·subst c3; rw [if_pos rfl] at H; obtain ⟨qaX, A4, H⟩ := qbh H; (try dsimp only at H); obtain rfl := Option.some.inj H; go_enter Tryz.func86, Tryz.ntmps86
  go_wp2_with (first | ((with_reducible refine qas (N := 1) rfl ?_); refine bx_ 1 (cs := #[.int .i64 qax, .int .i64 qaZ]) (t := 33) qa0 ?_; intro qaR hg w5 hbox hb; have qai := ak_ (hbox); have qcB := ak_ (HB.ge hg); have qcg := ak_ (HB.ge hg); replace HB := HB.mw hb; clear hb hbox hg; obtain ⟨qjn, qjo, qkd, qjq⟩ := qa2 qai.out) | ((with_reducible refine qad (f := 75) rfl ?_); refine gl_ 5 Tryz.func75 #[.int .i64 qax, .int .i64 2, .int .i64 60] rfl qbK ?_; (with_reducible refine (qbF.calls qax 2 60 true _ A2.out).mono ?_); rintro e w' ⟨rfl, ⟨nd, rfl⟩⟩; refine ⟨_, rfl, ?_⟩) | (go_at_call 75; (with_reducible refine (qbF.calls qaZ 0 (wrap64 (qax - 1)) qaX _ A4.out).mono ?_); rintro e w' ⟨rfl, ⟨nd, rfl⟩⟩))
  go_ret
  exact ⟨qbx, qaM⟩
 replace c3 := Bool.eq_false_iff.mpr c3; subst c3; rw [if_neg (show ¬ (false = true) by decide)] at H; obtain rfl := Option.some.inj H; go_enter Tryz.func86, Tryz.ntmps86
 go_wp2_with (first | ((with_reducible refine qas (N := 1) rfl ?_); refine bx_ 1 (cs := #[.int .i64 qax, .int .i64 qaZ]) (t := 33) qa0 ?_; intro qaR hg w7 hbox hb; have qai := ak_ (hbox); have qcB := ak_ (HB.ge hg); have qcg := ak_ (HB.ge hg); replace HB := HB.mw hb; clear hb hbox hg; obtain ⟨qgg, qgh, qgz, qgi⟩ := qa2 qai.out) | ((with_reducible refine qad (f := 75) rfl ?_); refine gl_ 5 Tryz.func75 #[.int .i64 qax, .int .i64 2, .int .i64 60] rfl qbK ?_; (with_reducible refine (qbF.calls qax 2 60 false _ A2.out).mono ?_); rintro e w' ⟨rfl, ⟨nd, rfl⟩⟩; refine ⟨_, rfl, ?_⟩))
 go_ret
 exact ⟨qbx, qaM⟩
def qb5.l0 : Nat → List (qaj) → Int → Int → Option (Bool)
 | 0, _, _, _ => none
 | k + 1, x8, x9, x10 => if x10 < x9 then (if 0 ≤ x10 then (if x10 < (x8.length : Int) then ((qfu.f ((qab x8 x10).f0) ((qab x8 x10).f1)).bind fun qaX => (if qaX = true then (qb5.l0 k x8 x9 (wrap64 (x10 + 1))) else (some false))) else (none)) else (none)) else (some true)
def qb5.f (k : Nat) (l0 : List (qaj)) : Option (Bool) := if (l0.length : Int) > 12 then (some false) else (qb5.l0 k l0 (l0.length : Int) 0)
theorem qb5.calls (k : Nat) (A0 : Option Addr) (c0 : Nat) (l0 : List (qaj)) (r : Bool) (w : World) (hr0 : Kd.C qa1 w A0 l0.length l0) (hc0 : l0.length ≤ c0) (h : qb5.f k l0 = some r) :
  Calls Tryz.prog 57 #[.slice A0 l0.length c0] w fun e w' => e = .returned (.bool r) ∧ Below w.heap.size w w' := by
 have qkE := Tryz.underlying33; have HR0 := ak_ hr0; have HC0 := ak_ hc0; clear hr0 hc0; have HB := ak_ (Below.refl w.heap.size w); have H : (if (l0.length : Int) > 12 then (some false) else (qb5.l0 k l0 (l0.length : Int) 0)) = some r := h; clear h; by_cases c2 : (l0.length : Int) > 12
 ·rw [if_pos c2] at H; have qkC : decide (12 < (l0.length : Int)) = true := decide_eq_true c2; have c2b1 : decide (12 < l0.length) = true := decide_eq_true (by omega); clear c2; obtain rfl := Option.some.inj H; go_enter Tryz.func57, Tryz.ntmps57; go_wp2
  go_ret
  exact ⟨qbx, qcw⟩
 rw [if_neg c2] at H; have qkC : decide (12 < (l0.length : Int)) = false := decide_eq_false c2; have c2b1 : decide (12 < l0.length) = false := decide_eq_false (by omega); clear c2; have H' := ak_ H; clear H; go_enter Tryz.func57, Tryz.ntmps57; go_wp2
 go_loopg [10] k (fun kq v10 w' => ∃ (qfD : Int), v10 = .int .i64 qfD ∧ qah (qb5.l0 kq l0 (l0.length : Int) qfD = some r) ∧ qah (kq ≤ k) ∧ qah (Below w.heap.size w w'))
 case atStart => exact ⟨(0), qbg, H', ⟨Nat.le_refl _⟩, ⟨qcw⟩⟩
 case round =>
  clear H'; (try clear c2); (try clear qkC); (try clear c2b1); obtain ⟨qfD, rfl, HA, HK1, HB⟩ := hrel
  cases gk with
  | zero => exact absurd HA.out (by simp [qb5.l0])
  | succ k1 =>
   have H := HA.out; clear HA; simp only [qb5.l0] at H; by_cases c3 : qfD < (l0.length : Int); rotate_left
   ·rw [if_neg c3] at H; have qil : decide (qfD < (l0.length : Int)) = false := decide_eq_false c3; clear c3; obtain rfl := Option.some.inj H; go_wp2
    go_ret
    exact ⟨qbx, qcw⟩
   rw [if_pos c3] at H; have qil : decide (qfD < (l0.length : Int)) = true := decide_eq_true c3; clear c3; by_cases c4 : 0 ≤ qfD; rotate_left
   ·rw [if_neg c4] at H; exact absurd H (by simp)
   rw [if_pos c4] at H; have qhF : decide (0 ≤ qfD) = true := decide_eq_true c4; clear c4; by_cases c5 : qfD < (l0.length : Int); rotate_left
   ·rw [if_neg c5] at H; exact absurd H (by simp)
   rw [if_pos c5] at H; have qi9 : decide (qfD < (l0.length : Int)) = true := decide_eq_true c5; clear c5; obtain ⟨qaX, A6, H⟩ := qbh H; (try dsimp only at H); by_cases c7 : qaX = true
   ·subst c7; rw [if_pos rfl] at H; have H' := ak_ H; clear H; have qgF : 0 ≤ (qfD : Int) := of_decide_eq_true qa8; have qgG : qfD < (l0.length : Int) := of_decide_eq_true qa8; obtain ⟨qlc, qlo, qdv, qe9⟩ := qcq HR0.out qfD qgF qgG
    cases qlo
    replace qdv := (HB.out.cell (World.block_lt_of_cell? w _ qdv)).trans qdv; replace qe9 := (HB.out.cell (World.block_lt_of_cell? w _ qe9)).trans qe9; replace qgF := eq_true qgF; replace qgG := eq_true qgG
    go_wp2_with (first | ((with_reducible refine qas (N := 4) rfl ?_); refine bx_ 4 (cs := #[.int .i64 0, .int .i64 0]) (t := 33) qa0 ?_; intro qe1 hg w8 hbox hb; have qdr := ak_ (hbox); have qiD := ak_ (HB.ge hg); have qgT := ak_ (HB.ge hg); replace HB := HB.mw hb; clear hb hbox hg; obtain ⟨qlB, qlC, qm2, qlL⟩ := qa2 qdr.out) | ((with_reducible refine qad (f := 86) rfl ?_); refine gl_ 15 Tryz.func86 #[.agg #[.int .i64 ((qab l0 qfD).f0), .int .i64 ((qab l0 qfD).f1)]] rfl qbK ?_; (with_reducible refine (qfu.calls ((qab l0 qfD).f0) ((qab l0 qfD).f1) true _ A6.out).mono ?_); rintro e w10 ⟨rfl, hb⟩; refine ⟨_, rfl, ?_⟩; replace qdr := ak_ (qam (g := qe1) (o := .cells #[.int .i64 ((qab l0 qfD).f0), .int .i64 ((qab l0 qfD).f1)] 33 (0, 0)) k13_ hb); replace HB := ak_ (qac qrO hb); (try clear hb)))
    go_roundg k1
    case measure => have := HK1.out; omega
    case rel => exact ⟨(wrap64 (qfD + 1)), qbg, H', ⟨qgl⟩, ⟨qrO⟩⟩
   replace c7 := Bool.eq_false_iff.mpr c7; subst c7; rw [if_neg (show ¬ (false = true) by decide)] at H; obtain rfl := Option.some.inj H; have qgF : 0 ≤ (qfD : Int) := of_decide_eq_true qa8; have qgG : qfD < (l0.length : Int) := of_decide_eq_true qa8; obtain ⟨qlc, qlo, qdv, qe9⟩ := qcq HR0.out qfD qgF qgG
   cases qlo
   replace qdv := (HB.out.cell (World.block_lt_of_cell? w _ qdv)).trans qdv; replace qe9 := (HB.out.cell (World.block_lt_of_cell? w _ qe9)).trans qe9; replace qgF := eq_true qgF; replace qgG := eq_true qgG
   go_wp2_with (first | ((with_reducible refine qas (N := 4) rfl ?_); refine bx_ 4 (cs := #[.int .i64 0, .int .i64 0]) (t := 33) qa0 ?_; intro qe1 hg w11 hbox hb; have qdr := ak_ (hbox); have qiD := ak_ (HB.ge hg); have qgT := ak_ (HB.ge hg); replace HB := HB.mw hb; clear hb hbox hg; obtain ⟨qqd, qqe, qqh, qqi⟩ := qa2 qdr.out) | ((with_reducible refine qad (f := 86) rfl ?_); refine gl_ 15 Tryz.func86 #[.agg #[.int .i64 ((qab l0 qfD).f0), .int .i64 ((qab l0 qfD).f1)]] rfl qbK ?_; (with_reducible refine (qfu.calls ((qab l0 qfD).f0) ((qab l0 qfD).f1) false _ A6.out).mono ?_); rintro e w13 ⟨rfl, hb⟩; refine ⟨_, rfl, ?_⟩; replace qdr := ak_ (qam (g := qe1) (o := .cells #[.int .i64 ((qab l0 qfD).f0), .int .i64 ((qab l0 qfD).f1)] 33 (0, 0)) k13_ hb); replace HB := ak_ (qac qrO hb); (try clear hb)))
   go_ret
   exact ⟨qbx, qrO⟩
mutual
def qbi.j0 : Nat → List (qaj) → Int → Bool → Option (ByteArray × Bool)
 | 0, _, _, _ => none
 | k + 1, x0, x1, x15 => if x15 = true then (some ((⟨#[]⟩ : ByteArray), false)) else (qbi.l0 k x0 x1 (⟨#[]⟩ : ByteArray) 1)
def qbi.l0 : Nat → List (qaj) → Int → ByteArray → Int → Option (ByteArray × Bool)
 | 0, _, _, _, _ => none
 | k + 1, x0, x1, x6, x7 => if x7 ≤ x1 then ((qeO.f k x0 x7).bind fun qaX => (if qaX = true then (if x6.size + 1 ≤ 9223372036854775807 then (qbi.l0 k x0 x1 (x6 ++ (⟨#[111]⟩ : ByteArray)) (wrap64 (x7 + 1))) else (none)) else (if x6.size + 1 ≤ 9223372036854775807 then (qbi.l0 k x0 x1 (x6 ++ (⟨#[120]⟩ : ByteArray)) (wrap64 (x7 + 1))) else (none)))) else (some (x6, true))
end
def qbi.f (k : Nat) (l0 : List (qaj)) (a1 : Int) : Option (ByteArray × Bool) := (qb5.f k l0).bind fun qco => (if qco = true then ((qbF.f a1 1 48).bind fun qaF => (qbi.j0 k l0 a1 (!qaF))) else (qbi.j0 k l0 a1 true))
theorem qbi.calls (k : Nat) (A0 : Option Addr) (c0 : Nat) (l0 : List (qaj)) (a1 : Int) (r1 : ByteArray) (r2 : Bool) (w : World) (hr0 : Kd.C qa1 w A0 l0.length l0) (hc0 : l0.length ≤ c0) (h : qbi.f k l0 a1 = some (r1, r2)) :
  Calls Tryz.prog 108 #[.slice A0 l0.length c0, .int .i64 a1] w fun e w' => e = .returned (.tuple #[.string r1, .bool r2]) ∧ Below w.heap.size w w' := by
 have HR0 := ak_ hr0; have HC0 := ak_ hc0; clear hr0 hc0; have HB := ak_ (Below.refl w.heap.size w); have H : ((qb5.f k l0).bind fun qco => (if qco = true then ((qbF.f a1 1 48).bind fun qaF => (qbi.j0 k l0 a1 (!qaF))) else (qbi.j0 k l0 a1 true))) = some (r1, r2) := h; clear h; have HC3 := ak_ H; clear H; go_enter Tryz.func108, Tryz.ntmps108
 go_upto_region 1 with (fail)
 go_cut [15] (fun v15 wc => ∃ (kq : Nat) (qhw : Bool), v15 = .bool qhw ∧ qah (qbi.j0 kq l0 a1 qhw = some (r1, r2)) ∧ qah (kq ≤ k) ∧ qah (Below w.heap.size w wc))
 case first =>
  have H := HC3.out; clear HC3; obtain ⟨qco, A4, H⟩ := qbh H; (try dsimp only at H); by_cases c5 : qco = true
  ·subst c5; rw [if_pos rfl] at H; obtain ⟨qaF, A6, H⟩ := qbh H; (try dsimp only at H); have H' := ak_ H; clear H
   go_wp2_with (first | ((with_reducible refine qad (f := 57) rfl ?_); refine gl_ 9 Tryz.func57 #[.slice A0 l0.length c0] rfl qbK ?_; (with_reducible refine (qb5.calls k _ _ l0 true _ ?qaB ?qaC A4.out).mono ?_); (case qaB => exact k70_); (case qaC => exact HC0.out); rintro e w7 ⟨rfl, hb⟩; refine ⟨_, rfl, ?_⟩; replace HB := HB.mw hb; (try clear hb)) | (go_at_call 75; (with_reducible refine (qbF.calls a1 1 48 qaF _ A6.out).mono ?_); rintro e w' ⟨rfl, ⟨nd, rfl⟩⟩))
   go_meet
   case rel => exact ⟨_, (!qaF), qbg, H', ⟨qg6⟩, ⟨qcw⟩⟩
  replace c5 := Bool.eq_false_iff.mpr c5; subst c5; rw [if_neg (show ¬ (false = true) by decide)] at H; have H' := ak_ H; clear H
  go_wp2_with (first | ((with_reducible refine qad (f := 57) rfl ?_); refine gl_ 9 Tryz.func57 #[.slice A0 l0.length c0] rfl qbK ?_; (with_reducible refine (qb5.calls k _ _ l0 false _ ?qaB ?qaC A4.out).mono ?_); (case qaB => exact k70_); (case qaC => exact HC0.out); rintro e w8 ⟨rfl, hb⟩; refine ⟨_, rfl, ?_⟩; replace HB := HB.mw hb; (try clear hb)))
  go_meet
  case rel => exact ⟨_, (true), qbg, H', ⟨qg6⟩, ⟨qcw⟩⟩
 case rest =>
  clear HC3; obtain ⟨kq, qhw, rfl, HA, HJ2, HB⟩ := hcut
  cases kq with
  | zero => exact absurd HA.out (by simp [qbi.j0])
  | succ kj2 =>
   have H := HA.out; clear HA; simp only [qbi.j0] at H; by_cases c9 : qhw = true
   ·subst c9; rw [if_pos rfl] at H; simp only [Option.some.injEq, Prod.mk.injEq] at H; obtain ⟨rfl, rfl⟩ := H; go_wp2
    go_ret2
    exact ⟨qbx, qcw⟩
   replace c9 := Bool.eq_false_iff.mpr c9; subst c9; rw [if_neg (show ¬ (false = true) by decide)] at H; have H' := ak_ H; clear H; go_wp2
   go_loopg [6, 7] kj2 (fun kq v6 v7 w' => ∃ (qup : ByteArray) (qsg : Int), v6 = .string qup ∧ v7 = .int .i64 qsg ∧ qah (qbi.l0 kq l0 a1 qup qsg = some (r1, r2)) ∧ qah (kq ≤ kj2) ∧ qah (Below w.heap.size w w'))
   case atStart => exact ⟨((⟨#[]⟩ : ByteArray)), (1), qbg, qbg, H', ⟨Nat.le_refl _⟩, ⟨qcw⟩⟩
   case round =>
    clear H'; (try clear c9); obtain ⟨qup, qsg, rfl, rfl, HA, HK2, HB⟩ := hrel
    cases gk with
    | zero => exact absurd HA.out (by simp [qbi.l0])
    | succ k2 =>
     have H := HA.out; clear HA; simp only [qbi.l0] at H; by_cases c10 : qsg ≤ a1; rotate_left
     ·rw [if_neg c10] at H; have qs1 : decide (qsg ≤ a1) = false := decide_eq_false c10; clear c10; simp only [Option.some.injEq, Prod.mk.injEq] at H; obtain ⟨rfl, rfl⟩ := H; go_wp2
      go_ret2
      exact ⟨qbx, qcw⟩
     rw [if_pos c10] at H; have qs1 : decide (qsg ≤ a1) = true := decide_eq_true c10; clear c10; obtain ⟨qaX, A11, H⟩ := qbh H; (try dsimp only at H); by_cases c12 : qaX = true
     ·subst c12; rw [if_pos rfl] at H; by_cases c13 : qup.size + 1 ≤ 9223372036854775807; rotate_left
      ·rw [if_neg c13] at H; exact absurd H (by simp)
      rw [if_pos c13] at H; have c13b0 := eq_true c13; have c13b1 : decide (qup.size + 1 ≤ 9223372036854775807) = true := decide_eq_true c13
      try have c13b2 : (9223372036854775807 < qup.size + 1) = False := eq_false (Nat.not_lt.2 c13)
      have H' := ak_ H; clear H
      go_wp2_with (first | ((with_reducible refine qad (f := 87) rfl ?_); refine gl_ 23 Tryz.func87 #[.slice A0 l0.length c0, .int .i64 qsg] rfl qbK ?_; (with_reducible refine (qeO.calls k2 _ _ l0 qsg true _ ?qaB ?qaC A11.out).mono ?_); (case qaB => exact k70_); (case qaC => exact HC0.out); rintro e w14 ⟨rfl, hb⟩; refine ⟨_, rfl, ?_⟩; replace HB := HB.mw hb; (try clear hb)))
      go_roundg k2
      case measure => have := HJ2.out; have := HK2.out; omega
      case rel => exact ⟨(qup ++ (⟨#[111]⟩ : ByteArray)), (wrap64 (qsg + 1)), qbg, qbg, H', ⟨by have := HJ2.out; have := HK2.out; omega⟩, ⟨qcw⟩⟩
     replace c12 := Bool.eq_false_iff.mpr c12; subst c12; rw [if_neg (show ¬ (false = true) by decide)] at H; by_cases c15 : qup.size + 1 ≤ 9223372036854775807; rotate_left
     ·rw [if_neg c15] at H; exact absurd H (by simp)
     rw [if_pos c15] at H; have qs3 := eq_true c15; have c15b1 : decide (qup.size + 1 ≤ 9223372036854775807) = true := decide_eq_true c15
     try have c15b2 : (9223372036854775807 < qup.size + 1) = False := eq_false (Nat.not_lt.2 c15)
     have H' := ak_ H; clear H
     go_wp2_with (first | ((with_reducible refine qad (f := 87) rfl ?_); refine gl_ 23 Tryz.func87 #[.slice A0 l0.length c0, .int .i64 qsg] rfl qbK ?_; (with_reducible refine (qeO.calls k2 _ _ l0 qsg false _ ?qaB ?qaC A11.out).mono ?_); (case qaB => exact k70_); (case qaC => exact HC0.out); rintro e w16 ⟨rfl, hb⟩; refine ⟨_, rfl, ?_⟩; replace HB := HB.mw hb; (try clear hb)))
     go_roundg k2
     case measure => have := HJ2.out; have := HK2.out; omega
     case rel => exact ⟨(qup ++ (⟨#[120]⟩ : ByteArray)), (wrap64 (qsg + 1)), qbg, qbg, H', ⟨by have := HJ2.out; have := HK2.out; omega⟩, ⟨qcw⟩⟩
mutual
def qaH.j0 : Nat → Int → Int → Int → Bool → Option (ByteArray × Int × Bool)
 | 0, _, _, _, _ => none
 | k + 1, x0, x1, x2, x27 => if x27 = true then (some ((⟨#[]⟩ : ByteArray), 0, false)) else (qaH.l0 k x0 x1 x2 ([] : List (qaj)) 0)
def qaH.l0 : Nat → Int → Int → Int → List (qaj) → Int → Option (ByteArray × Int × Bool)
 | 0, _, _, _, _, _ => none
 | k + 1, x0, x1, x8, x9, x10 => if x10 < 20 then (qaH.j2 k x0 x1 x8 x9 x10 (decide ((x9.length : Int) < x1))) else (qaH.j2 k x0 x1 x8 x9 x10 false)
def qaH.j2 : Nat → Int → Int → Int → List (qaj) → Int → Bool → Option (ByteArray × Int × Bool)
 | 0, _, _, _, _, _, _ => none
 | k + 1, x0, x1, x8, x9, x10, x37 => if x37 = true then (if (wrap64 ((Int.tmod (Int.tmod (wrap64 ((wrap64 (x8 * 177)) + 2221)) 10007) 9) + 2)) = 0 then (none) else ((qbR.f k x9 (wrap64 ((Int.tmod (Int.tmod (wrap64 ((wrap64 (x8 * 177)) + 2221)) 10007) 9) + 2)) (Int.tmod (Int.tmod (wrap64 ((wrap64 ((Int.tmod (wrap64 ((wrap64 (x8 * 177)) + 2221)) 10007) * 177)) + 2221)) 10007) (wrap64 ((Int.tmod (Int.tmod (wrap64 ((wrap64 (x8 * 177)) + 2221)) 10007) 9) + 2)))).bind fun qgH => (if qgH = true then (qaH.l0 k x0 x1 (Int.tmod (wrap64 ((wrap64 ((Int.tmod (wrap64 ((wrap64 (x8 * 177)) + 2221)) 10007) * 177)) + 2221)) 10007) x9 (wrap64 (x10 + 1))) else (if x9.length < 8796093022208 then (qaH.l0 k x0 x1 (Int.tmod (wrap64 ((wrap64 ((Int.tmod (wrap64 ((wrap64 (x8 * 177)) + 2221)) 10007) * 177)) + 2221)) 10007) (x9 ++ [(⟨wrap64 ((Int.tmod (Int.tmod (wrap64 ((wrap64 (x8 * 177)) + 2221)) 10007) 9) + 2), Int.tmod (Int.tmod (wrap64 ((wrap64 ((Int.tmod (wrap64 ((wrap64 (x8 * 177)) + 2221)) 10007) * 177)) + 2221)) 10007) (wrap64 ((Int.tmod (Int.tmod (wrap64 ((wrap64 (x8 * 177)) + 2221)) 10007) 9) + 2))⟩ : qaj)]) (wrap64 (x10 + 1))) else (none))))) else (if (x9.length : Int) < x1 then (some ((⟨#[]⟩ : ByteArray), 0, false)) else ((qbi.f k x9 x0).bind fun bt110 => (some (bt110.1, x1, true))))
end
def qaH.f (k : Nat) (a0 : Int) (a1 : Int) (a2 : Int) : Option (ByteArray × Int × Bool) := (qbF.f a0 1 48).bind fun qaF => (if qaF = true then ((qbF.f a1 0 3).bind fun qaX => (if qaX = true then ((qbF.f a2 0 9999).bind fun qcC => (qaH.j0 k a0 a1 a2 (!qcC))) else (qaH.j0 k a0 a1 a2 true))) else (qaH.j0 k a0 a1 a2 true))
theorem qaH.calls (k : Nat) (a0 : Int) (a1 : Int) (a2 : Int) (r1 : ByteArray) (r2 : Int) (r3 : Bool) (w : World) (h : qaH.f k a0 a1 a2 = some (r1, r2, r3)) :
  Calls Tryz.prog 88 #[.int .i64 a0, .int .i64 a1, .int .i64 a2] w fun e w' => e = .returned (.tuple #[.agg #[.string r1, .int .i64 r2], .bool r3]) ∧ Below w.heap.size w w' := by
 have qiv := Tryz.underlying23; have qkE := Tryz.underlying33; have HB := ak_ (Below.refl w.heap.size w); have H : ((qbF.f a0 1 48).bind fun qaF => (if qaF = true then ((qbF.f a1 0 3).bind fun qaX => (if qaX = true then ((qbF.f a2 0 9999).bind fun qcC => (qaH.j0 k a0 a1 a2 (!qcC))) else (qaH.j0 k a0 a1 a2 true))) else (qaH.j0 k a0 a1 a2 true))) = some (r1, r2, r3) := h; clear h; have HC4 := ak_ H; clear H; go_enter Tryz.func88, Tryz.ntmps88
 go_upto_region 1 with (first | ((with_reducible refine qas (N := 6) rfl ?_); (try (refine qav (by rfl) ?_; dsimp only)); refine bx_ 6 (cs := #[.string (⟨#[]⟩ : ByteArray), .int .i64 0]) (t := 23) qa0 ?_; intro qaR hg w5 hbox hb; have qai := ak_ (hbox); have qcB := ak_ (HB.ge hg); have qcg := ak_ (HB.ge hg); replace HB := HB.mw hb; clear hb hbox hg))
 (try simp only [Act.put, List.setIfInBounds_toArray, List.set_cons_zero, List.set_cons_succ])
 go_cut [27] (fun v27 wc => ∃ (kq : Nat) (x27_3 : Bool), v27 = .bool x27_3 ∧ qah (qaH.j0 kq a0 a1 a2 x27_3 = some (r1, r2, r3)) ∧ qah (kq ≤ k) ∧ qah (wc.heap[qaR]? = some (.cells #[.string (⟨#[]⟩ : ByteArray), .int .i64 0] 23 (0, 0))) ∧ qah (Below w.heap.size w wc))
 case first =>
  have H := HC4.out; clear HC4; obtain ⟨qaF, A6, H⟩ := qbh H; (try dsimp only at H); by_cases c7 : qaF = true; rotate_left
  ·replace c7 := Bool.eq_false_iff.mpr c7; subst c7; rw [if_neg (show ¬ (false = true) by decide)] at H; have H' := ak_ H; clear H
   go_wp2_with (first | ((with_reducible refine qad (f := 75) rfl ?_); refine gl_ 16 Tryz.func75 #[.int .i64 a0, .int .i64 1, .int .i64 48] rfl qbK ?_; (with_reducible refine (qbF.calls a0 1 48 false _ A6.out).mono ?_); rintro e w' ⟨rfl, ⟨nd, rfl⟩⟩; refine ⟨_, rfl, ?_⟩))
   go_meet
   case rel => exact ⟨_, (true), qbg, H', ⟨qg6⟩, ⟨qch⟩, ⟨qaM⟩⟩
  subst c7; rw [if_pos rfl] at H; obtain ⟨qaX, A8, H⟩ := qbh H; (try dsimp only at H); by_cases c9 : qaX = true
  ·subst c9; rw [if_pos rfl] at H; obtain ⟨qcC, A10, H⟩ := qbh H; (try dsimp only at H); have H' := ak_ H; clear H
   go_wp2_with (first | ((with_reducible refine qad (f := 75) rfl ?_); refine gl_ 16 Tryz.func75 #[.int .i64 a0, .int .i64 1, .int .i64 48] rfl qbK ?_; (with_reducible refine (qbF.calls a0 1 48 true _ A6.out).mono ?_); rintro e w' ⟨rfl, ⟨nd, rfl⟩⟩; refine ⟨_, rfl, ?_⟩) | (go_at_call 75; (with_reducible refine (qbF.calls a1 0 3 true _ A8.out).mono ?_); rintro e w' ⟨rfl, ⟨nd, rfl⟩⟩) | (go_at_call 75; (with_reducible refine (qbF.calls a2 0 9999 qcC _ A10.out).mono ?_); rintro e w' ⟨rfl, ⟨nd, rfl⟩⟩))
   go_meet
   case rel => exact ⟨_, (!qcC), qbg, H', ⟨qg6⟩, ⟨qch⟩, ⟨qaM⟩⟩
  replace c9 := Bool.eq_false_iff.mpr c9; subst c9; rw [if_neg (show ¬ (false = true) by decide)] at H; have H' := ak_ H; clear H
  go_wp2_with (first | ((with_reducible refine qad (f := 75) rfl ?_); refine gl_ 16 Tryz.func75 #[.int .i64 a0, .int .i64 1, .int .i64 48] rfl qbK ?_; (with_reducible refine (qbF.calls a0 1 48 true _ A6.out).mono ?_); rintro e w' ⟨rfl, ⟨nd, rfl⟩⟩; refine ⟨_, rfl, ?_⟩) | (go_at_call 75; (with_reducible refine (qbF.calls a1 0 3 false _ A8.out).mono ?_); rintro e w' ⟨rfl, ⟨nd, rfl⟩⟩))
  go_meet
  case rel => exact ⟨_, (true), qbg, H', ⟨qg6⟩, ⟨qch⟩, ⟨qaM⟩⟩
 case rest =>
  clear HC4; obtain ⟨kq, x27_3, rfl, HA, HJ3, qai, HB⟩ := hcut
  cases kq with
  | zero => exact absurd HA.out (by simp [qaH.j0])
  | succ kj3 =>
   have H := HA.out; clear HA; simp only [qaH.j0] at H; by_cases c11 : x27_3 = true
   ·subst c11; rw [if_pos rfl] at H; simp only [Option.some.injEq, Prod.mk.injEq] at H; obtain ⟨rfl, rfl, rfl⟩ := H; obtain ⟨qqd, qqe, qqh, qqi⟩ := qa2 qai.out; go_wp2; refine bodyPost_ret (qeT rfl _ _ qaR 23 #[.string (⟨#[]⟩ : ByteArray), .int .i64 0] (0, 0) _ rfl k11_ Tryz.underlying23 rfl (by kernel_rfl)) rfl ?_; exact ⟨qbx, qaM⟩
   replace c11 := Bool.eq_false_iff.mpr c11; subst c11; rw [if_neg (show ¬ (false = true) by decide)] at H; have H' := ak_ H; clear H; go_wp2
   go_loopg [8, 9, 10] kj3 (fun kq v8 v9 v10 w' => ∃ (qgk : Int) (qmn : List (qaj)) (qmK : Int), v8 = .int .i64 qgk ∧ v10 = .int .i64 qmK ∧ qah (qaH.l0 kq a0 a1 qgk qmn qmK = some (r1, r2, r3)) ∧ qah (kq ≤ kj3) ∧ qah (Kd.R qa1 33 w' w.heap.size (fun _ => True) v9 qmn) ∧ qah (w'.heap[qaR]? = some (.cells #[.string (⟨#[]⟩ : ByteArray), .int .i64 0] 23 (0, 0))) ∧ qah (Below w.heap.size w w'))
   case atStart => exact ⟨(a2), (([] : List (qaj))), (0), qbg, qbg, H', ⟨Nat.le_refl _⟩, ⟨qsa⟩, ⟨qch⟩, ⟨qaM⟩⟩
   case round =>
    clear H'; (try clear c11); obtain ⟨qgk, qmn, qmK, rfl, rfl, HA, HK2, qkb, qai, HB⟩ := hrel
    cases gk with
    | zero => exact absurd HA.out (by simp [qaH.l0])
    | succ k2 =>
     have H := HA.out; clear HA; simp only [qaH.l0] at H; have HC13 := ak_ H; clear H
     go_upto_region 6 with (fail)
     go_cut [37] (fun v37 wc => ∃ (kq : Nat) (qrg : Bool), v37 = .bool qrg ∧ qah (qaH.j2 kq a0 a1 qgk qmn qmK qrg = some (r1, r2, r3)) ∧ qah (kq ≤ k2) ∧ qah (Kd.R qa1 33 wc w.heap.size (fun _ => True) u9 qmn) ∧ qah (wc.heap[qaR]? = some (.cells #[.string (⟨#[]⟩ : ByteArray), .int .i64 0] 23 (0, 0))) ∧ qah (Below w.heap.size w wc))
     case first =>
      have H := HC13.out; clear HC13; by_cases c14 : qmK < 20
      ·rw [if_pos c14] at H; have qlk : decide (qmK < 20) = true := decide_eq_true c14; clear c14; (first | rw [qlk] | rw [c14b1] | (simp only [qbL, qbQ]; rw [qlk]) | skip); have H' := ak_ H; clear H; obtain ⟨Ao15, co15, eo15⟩ := Kd.qbC qkb.out; subst eo15; go_wp2; go_meet
       case rel => exact ⟨_, (decide ((qmn.length : Int) < a1)), qbg, H', ⟨by have := HJ3.out; have := HK2.out; first | omega | exact Nat.le_refl _⟩, ⟨by apply_rules only [qkb.out, Kd.qaA, Kd.qaz, Kd.qaL]⟩, ⟨qch⟩, ⟨qaM⟩⟩
      rw [if_neg c14] at H; have qlk : decide (qmK < 20) = false := decide_eq_false c14; clear c14; (first | rw [qlk] | rw [c14b1] | (simp only [qbL, qbQ]; rw [qlk]) | skip); have H' := ak_ H; clear H; go_wp2; go_meet
      case rel => exact ⟨_, (false), qbg, H', ⟨by have := HJ3.out; have := HK2.out; first | omega | exact Nat.le_refl _⟩, ⟨by apply_rules only [qkb.out, Kd.qaA, Kd.qaz, Kd.qaL]⟩, ⟨qch⟩, ⟨qaM⟩⟩
     case rest =>
      clear HC13; (try clear c11); obtain ⟨kq, qrg, rfl, HA, HJ12, qkb, qai, HB⟩ := hcut
      cases kq with
      | zero => exact absurd HA.out (by simp [qaH.j2])
      | succ kj12 =>
       have H := HA.out; clear HA; simp only [qaH.j2] at H; by_cases c16 : qrg = true; rotate_left
       ·replace c16 := Bool.eq_false_iff.mpr c16; subst c16; rw [if_neg (show ¬ (false = true) by decide)] at H; by_cases c33 : (qmn.length : Int) < a1
        ·rw [if_pos c33] at H; have c33b0 : decide ((qmn.length : Int) < a1) = true := decide_eq_true c33; clear c33; simp only [Option.some.injEq, Prod.mk.injEq] at H; obtain ⟨rfl, rfl, rfl⟩ := H; obtain ⟨Ao34, co34, eo34⟩ := Kd.qbC qkb.out; subst eo34; obtain ⟨qiR, qiS, qiZ, qi0⟩ := qa2 qai.out; go_wp2; refine bodyPost_ret (qeT rfl _ _ qaR 23 #[.string (⟨#[]⟩ : ByteArray), .int .i64 0] (0, 0) _ rfl k11_ Tryz.underlying23 rfl (by kernel_rfl)) rfl ?_; exact ⟨qbx, qaM⟩
        rw [if_neg c33] at H; have c33b0 : decide ((qmn.length : Int) < a1) = false := decide_eq_false c33; clear c33; obtain ⟨⟨qky, qsc⟩, A36, H⟩ := qbh H; (try dsimp only at H); simp only [Option.some.injEq, Prod.mk.injEq] at H; obtain ⟨rfl, rfl, rfl⟩ := H; obtain ⟨Ao37, co37, eo37⟩ := Kd.qbC qkb.out; subst eo37
        go_wp2_with (first | ((with_reducible refine qad (f := 108) rfl ?_); refine gl_ 72 Tryz.func108 #[.slice Ao37 qmn.length co37, .int .i64 a0] rfl qbK ?_; (with_reducible refine (qbi.calls kj12 _ _ qmn a0 qky qsc _ ?qaB ?qaC A36.out).mono ?_); (case qaB => repeat (first | exact (Kd.R_reads' qkb.out).2.2 | (with_reducible refine Kd.qbV ?_ _) | (with_reducible refine Kd.qbW ?_ _) | (with_reducible refine Kd.qcs ?_))); (case qaC => exact (Kd.R_reads' qkb.out).2.1); rintro e w38 ⟨rfl, hb⟩; refine ⟨_, rfl, ?_⟩; replace qkb := qkb.mw hb; replace qai := ak_ (qam qch hb); replace HB := ak_ (qac qaM hb); (try clear hb); obtain ⟨qlx, qly, qlH, qlI⟩ := qa2 qai.out))
        refine bodyPost_ret (qeT rfl _ _ qaR 23 #[.string qky, .int .i64 a1] (0, 0) _ rfl (by (with_reducible repeat (first | refine qag ?_ _ | refine qae ?_ | refine qaf ?_ _)); refine qaQ (cs := #[.string qky, .int .i64 0]) ?_ 1 _ rfl; (with_reducible repeat (first | refine qag ?_ _ | refine qae ?_ | refine qaf ?_ _)); refine qaQ (cs := #[.string (⟨#[]⟩ : ByteArray), .int .i64 0]) ?_ 0 _ rfl; apply_rules only [qai.out, qag, qae, qaf]) Tryz.underlying23 rfl (by kernel_rfl)) rfl ?_; exact ⟨qbx, qaM⟩
       subst c16; rw [if_pos rfl] at H; by_cases c17 : (wrap64 ((Int.tmod (Int.tmod (wrap64 ((wrap64 (qgk * 177)) + 2221)) 10007) 9) + 2)) = 0
       ·rw [if_pos c17] at H; exact absurd H (by simp)
       rw [if_neg c17] at H; have c17b0 : ((wrap64 ((Int.tmod (Int.tmod (wrap64 ((wrap64 (qgk * 177)) + 2221)) 10007) 9) + 2)) == 0) = false := beq_eq_false_iff_ne.mpr c17; have c17b1 : ((wrap64 ((Int.tmod (Int.tmod (wrap64 ((wrap64 (qgk * 177)) + 2221)) 10007) 9) + 2)) != 0) = true := bne_iff_ne.mpr c17; obtain ⟨qgH, A18, H⟩ := qbh H; (try dsimp only at H); by_cases c19 : qgH = true
       ·subst c19; rw [if_pos rfl] at H; have H' := ak_ H; clear H
        go_wp2_with (first | ((with_reducible refine qas (N := 12) rfl ?_); (try (refine qav (by rfl) ?_; dsimp only)); refine bx_ 12 (cs := #[.int .i64 0, .int .i64 0]) (t := 33) qa0 ?_; intro qbM hg w20 hbox hb; replace qkb := ak_ (Kd.qbn (Kd.qcQ (by apply_rules only [qkb.out, Kd.qaA, Kd.qaz, Kd.qaL]) qbM (Nat.le_of_eq hg.symm)) hb); have qb7 := ak_ (hbox); have qnl := ak_ ((by rw [hg]; exact (qal qaM) : w.heap.size ≤ qbM)); have qmp := ak_ ((by rw [hg]; exact (qal qaM) : w.heap.size ≤ qbM)); replace HB := ak_ (qac qaM hb); have qes := ak_ (qai.ne hg); have qe4 := ak_ (qai.ne hg).symm; replace qai := ak_ (qam qch hb); clear hb hbox hg; have hnb21 := qe4.out; have hnc21 := qes.out; obtain ⟨qtx, qty, qtF, qtG⟩ := qa2 qb7.out; obtain ⟨Ao23, co23, eo23⟩ := Kd.qbC qkb.out; subst eo23) | ((with_reducible refine qad (f := 42) rfl ?_); refine gl_ 58 Tryz.func42 #[.slice Ao23 qmn.length co23, .agg #[.int .i64 (wrap64 ((Int.tmod (Int.tmod (wrap64 ((wrap64 (qgk * 177)) + 2221)) 10007) 9) + 2)), .int .i64 (Int.tmod (Int.tmod (wrap64 ((wrap64 ((Int.tmod (wrap64 ((wrap64 (qgk * 177)) + 2221)) 10007) * 177)) + 2221)) 10007) (wrap64 ((Int.tmod (Int.tmod (wrap64 ((wrap64 (qgk * 177)) + 2221)) 10007) 9) + 2)))]] rfl qbK ?_; (with_reducible refine (qbR.calls kj12 _ _ qmn (wrap64 ((Int.tmod (Int.tmod (wrap64 ((wrap64 (qgk * 177)) + 2221)) 10007) 9) + 2)) (Int.tmod (Int.tmod (wrap64 ((wrap64 ((Int.tmod (wrap64 ((wrap64 (qgk * 177)) + 2221)) 10007) * 177)) + 2221)) 10007) (wrap64 ((Int.tmod (Int.tmod (wrap64 ((wrap64 (qgk * 177)) + 2221)) 10007) 9) + 2))) true _ ?qaB ?qaC A18.out).mono ?_); (case qaB => refine (Kd.R_reads' (e := 33) (base := w.heap.size) (ok := fun k_ => (True ∧ k_ ≠ qbM)) (n := qmn.length) (c := co23) ?_).2.2; exact k0_); (case qaC => exact (Kd.R_reads' qkb.out).2.1); rintro e w24 ⟨rfl, hb⟩; refine ⟨_, rfl, ?_⟩; replace qkb := ak_ (Kd.qbn k0_ hb); replace qai := ak_ (qam (g := qaR) (o := .cells #[.string (⟨#[]⟩ : ByteArray), .int .i64 0] 23 (0, 0)) k27_ hb); replace qb7 := ak_ (qam (g := qbM) (o := .cells #[.int .i64 (wrap64 ((Int.tmod (Int.tmod (wrap64 ((wrap64 (qgk * 177)) + 2221)) 10007) 9) + 2)), .int .i64 (Int.tmod (Int.tmod (wrap64 ((wrap64 ((Int.tmod (wrap64 ((wrap64 (qgk * 177)) + 2221)) 10007) * 177)) + 2221)) 10007) (wrap64 ((Int.tmod (Int.tmod (wrap64 ((wrap64 (qgk * 177)) + 2221)) 10007) 9) + 2)))] 33 (0, 0)) k3_ hb); replace HB := ak_ (qac qpG hb); (try clear hb)))
        go_roundg kj12
        case measure => have := HJ3.out; have := HK2.out; have := HJ12.out; omega
        case rel => exact ⟨(Int.tmod (wrap64 ((wrap64 ((Int.tmod (wrap64 ((wrap64 (qgk * 177)) + 2221)) 10007) * 177)) + 2221)) 10007), (qmn), (wrap64 (qmK + 1)), qbg, qbg, H', ⟨by have := HJ3.out; have := HK2.out; have := HJ12.out; omega⟩, ⟨by (with_reducible repeat (first | apply Kd.qaA | apply Kd.qaz | apply Kd.qaL)); exact Kd.qaT qkb.out (fun _ hk => trivial)⟩, ⟨qch⟩, ⟨qpG⟩⟩
       replace c19 := Bool.eq_false_iff.mpr c19; subst c19; rw [if_neg (show ¬ (false = true) by decide)] at H; by_cases c25 : qmn.length < 8796093022208; rotate_left
       ·rw [if_neg c25] at H; exact absurd H (by simp)
       rw [if_pos c25] at H; have LMc25 := ak_ c25; clear c25
       obtain ⟨y107, hy_⟩ : ∃ y_ : List (qaj), y_ = (qmn ++ [(⟨wrap64 ((Int.tmod (Int.tmod (wrap64 ((wrap64 (qgk * 177)) + 2221)) 10007) 9) + 2), Int.tmod (Int.tmod (wrap64 ((wrap64 ((Int.tmod (wrap64 ((wrap64 (qgk * 177)) + 2221)) 10007) * 177)) + 2221)) 10007) (wrap64 ((Int.tmod (Int.tmod (wrap64 ((wrap64 (qgk * 177)) + 2221)) 10007) 9) + 2))⟩ : qaj)]) := ⟨_, rfl⟩
       replace H : (qaH.l0 kj12 a0 a1 (Int.tmod (wrap64 ((wrap64 ((Int.tmod (wrap64 ((wrap64 (qgk * 177)) + 2221)) 10007) * 177)) + 2221)) 10007) y107 (wrap64 (qmK + 1))) = some (r1, r2, r3) := qkG; have Ny107 := ak_ hy_; clear hy_; have H' := ak_ H; clear H
       go_wp2_with (first | ((with_reducible refine qas (N := 12) rfl ?_); (try (refine qav (by rfl) ?_; dsimp only)); refine bx_ 12 (cs := #[.int .i64 0, .int .i64 0]) (t := 33) qa0 ?_; intro qbM hg w26 hbox hb; replace qkb := ak_ (Kd.qbn (Kd.qcQ (by apply_rules only [qkb.out, Kd.qaA, Kd.qaz, Kd.qaL]) qbM (Nat.le_of_eq hg.symm)) hb); have qb7 := ak_ (hbox); have qnl := ak_ ((by rw [hg]; exact (qal qaM) : w.heap.size ≤ qbM)); have qmp := ak_ ((by rw [hg]; exact (qal qaM) : w.heap.size ≤ qbM)); replace HB := ak_ (qac qaM hb); have qes := ak_ (qai.ne hg); have qe4 := ak_ (qai.ne hg).symm; replace qai := ak_ (qam qch hb); clear hb hbox hg; have hnb27 := qe4.out; have hnc27 := qes.out; obtain ⟨hcz28_0, hcz28_1, hfz28_0, hfz28_1⟩ := qa2 qb7.out; obtain ⟨Ao29, co29, eo29⟩ := Kd.qbC qkb.out; subst eo29) | ((with_reducible refine qad (f := 42) rfl ?_); refine gl_ 58 Tryz.func42 #[.slice Ao29 qmn.length co29, .agg #[.int .i64 (wrap64 ((Int.tmod (Int.tmod (wrap64 ((wrap64 (qgk * 177)) + 2221)) 10007) 9) + 2)), .int .i64 (Int.tmod (Int.tmod (wrap64 ((wrap64 ((Int.tmod (wrap64 ((wrap64 (qgk * 177)) + 2221)) 10007) * 177)) + 2221)) 10007) (wrap64 ((Int.tmod (Int.tmod (wrap64 ((wrap64 (qgk * 177)) + 2221)) 10007) 9) + 2)))]] rfl qbK ?_; (with_reducible refine (qbR.calls kj12 _ _ qmn (wrap64 ((Int.tmod (Int.tmod (wrap64 ((wrap64 (qgk * 177)) + 2221)) 10007) 9) + 2)) (Int.tmod (Int.tmod (wrap64 ((wrap64 ((Int.tmod (wrap64 ((wrap64 (qgk * 177)) + 2221)) 10007) * 177)) + 2221)) 10007) (wrap64 ((Int.tmod (Int.tmod (wrap64 ((wrap64 (qgk * 177)) + 2221)) 10007) 9) + 2))) false _ ?qaB ?qaC A18.out).mono ?_); (case qaB => refine (Kd.R_reads' (e := 33) (base := w.heap.size) (ok := fun k_ => (True ∧ k_ ≠ qbM)) (n := qmn.length) (c := co29) ?_).2.2; exact k0_); (case qaC => exact (Kd.R_reads' qkb.out).2.1); rintro e w30 ⟨rfl, hb⟩; refine ⟨_, rfl, ?_⟩; replace qkb := ak_ (Kd.qbn k0_ hb); replace qai := ak_ (qam (g := qaR) (o := .cells #[.string (⟨#[]⟩ : ByteArray), .int .i64 0] 23 (0, 0)) k27_ hb); replace qb7 := ak_ (qam (g := qbM) (o := .cells #[.int .i64 (wrap64 ((Int.tmod (Int.tmod (wrap64 ((wrap64 (qgk * 177)) + 2221)) 10007) 9) + 2)), .int .i64 (Int.tmod (Int.tmod (wrap64 ((wrap64 ((Int.tmod (wrap64 ((wrap64 (qgk * 177)) + 2221)) 10007) * 177)) + 2221)) 10007) (wrap64 ((Int.tmod (Int.tmod (wrap64 ((wrap64 (qgk * 177)) + 2221)) 10007) 9) + 2)))] 33 (0, 0)) k3_ hb); replace HB := ak_ (qac qpG hb); (try clear hb); obtain ⟨qh6, qh7, qh8, qh9⟩ := qa2 qb7.out) | ((with_reducible refine qca (b := .append) (xs := #[.tmp 60, .tmp 62]) rfl ?_); (try (refine qav (by rfl) ?_; dsimp only)); at_builtin; refine Kd.qfc qa1 (w0 := w) w.heap.size rfl (.tmp 60) (.tmp 62) 24 33 (.agg #[(.int .i64 0), (.int .i64 0)]) 16 rfl Tryz.underlying24 qjt rfl (by decide) (by omega) (.slice Ao29 qmn.length co29) qmn (⟨wrap64 ((Int.tmod (Int.tmod (wrap64 ((wrap64 (qgk * 177)) + 2221)) 10007) 9) + 2), Int.tmod (Int.tmod (wrap64 ((wrap64 ((Int.tmod (wrap64 ((wrap64 (qgk * 177)) + 2221)) 10007) * 177)) + 2221)) 10007) (wrap64 ((Int.tmod (Int.tmod (wrap64 ((wrap64 (qgk * 177)) + 2221)) 10007) 9) + 2))⟩ : qaj) [.int .i64 (wrap64 ((Int.tmod (Int.tmod (wrap64 ((wrap64 (qgk * 177)) + 2221)) 10007) 9) + 2)), .int .i64 (Int.tmod (Int.tmod (wrap64 ((wrap64 ((Int.tmod (wrap64 ((wrap64 (qgk * 177)) + 2221)) 10007) * 177)) + 2221)) 10007) (wrap64 ((Int.tmod (Int.tmod (wrap64 ((wrap64 (qgk * 177)) + 2221)) 10007) 9) + 2)))] (fun k_ => k_ ≠ qbM) (fun _ => False) rfl rfl ?aP (fun _ hk => hk.elim) ?aF ?aO ?aB ?aS ?aL ?_; (case aP => exact qdp _ _ _ (⟨wrap64 ((Int.tmod (Int.tmod (wrap64 ((wrap64 (qgk * 177)) + 2221)) 10007) 9) + 2), Int.tmod (Int.tmod (wrap64 ((wrap64 ((Int.tmod (wrap64 ((wrap64 (qgk * 177)) + 2221)) 10007) * 177)) + 2221)) 10007) (wrap64 ((Int.tmod (Int.tmod (wrap64 ((wrap64 (qgk * 177)) + 2221)) 10007) 9) + 2))⟩ : qaj)); (case aB => exact qpG); (case aF => exact (fun k_ hk => Kd.qoV (g := qbM) (o := .cells #[.int .i64 (wrap64 ((Int.tmod (Int.tmod (wrap64 ((wrap64 (qgk * 177)) + 2221)) 10007) 9) + 2)), .int .i64 (Int.tmod (Int.tmod (wrap64 ((wrap64 ((Int.tmod (wrap64 ((wrap64 (qgk * 177)) + 2221)) 10007) * 177)) + 2221)) 10007) (wrap64 ((Int.tmod (Int.tmod (wrap64 ((wrap64 (qgk * 177)) + 2221)) 10007) 9) + 2)))] 33 (0, 0)) (by apply_rules only [qb7.out, qag, qae, qaf]) k_ hk)); (case aO => exact (by (with_reducible repeat (first | apply Kd.qaA | apply Kd.qaz | apply Kd.qaL)); exact Kd.qaT qkb.out (fun _ hk => hk.2))); (case aS => exact (qal qpG)); (case aL => have := LMc25.out; omega); intro v108 w32 ho hb hg hat; rw [← Ny107.out] at ho; replace qai := ak_ (qey (g := qaR) (o := .cells #[.string (⟨#[]⟩ : ByteArray), .int .i64 0] 23 (0, 0)) qch hg (Kd.qsK qkb.out qai.out (by decide))); replace qb7 := ak_ (qey (g := qbM) (o := .cells #[.int .i64 (wrap64 ((Int.tmod (Int.tmod (wrap64 ((wrap64 (qgk * 177)) + 2221)) 10007) 9) + 2)), .int .i64 (Int.tmod (Int.tmod (wrap64 ((wrap64 ((Int.tmod (wrap64 ((wrap64 (qgk * 177)) + 2221)) 10007) * 177)) + 2221)) 10007) (wrap64 ((Int.tmod (Int.tmod (wrap64 ((wrap64 (qgk * 177)) + 2221)) 10007) 9) + 2)))] 33 (0, 0)) (by apply_rules only [qb7.out, qag, qae, qaf]) hg (Kd.R_away qkb.out (fun _ hk => hk.2))); replace HB := ak_ (hb); have qpQ := ak_ (ho); clear qkb; clear ho hb hg hat))
       go_roundg kj12
       case measure => have := HJ3.out; have := HK2.out; have := HJ12.out; omega
       case rel => exact ⟨(Int.tmod (wrap64 ((wrap64 ((Int.tmod (wrap64 ((wrap64 (qgk * 177)) + 2221)) 10007) * 177)) + 2221)) 10007), (y107), (wrap64 (qmK + 1)), qbg, qbg, H', ⟨by have := HJ3.out; have := HK2.out; have := HJ12.out; omega⟩, ⟨by (with_reducible repeat (first | apply Kd.qaA | apply Kd.qaz | apply Kd.qaL)); exact Kd.qaT qpQ.out (fun _ hk => trivial)⟩, ⟨qch⟩, ⟨qpG⟩⟩
def qc5.f (qax : ByteArray) (qaZ : Int) (a1 : Int) (a2 : ByteArray) : Option (ByteArray × Int) := if 0 ≤ (wrap64 (a1 - 1)) then (if (wrap64 (a1 - 1)) ≤ (qax.size : Int) then (if (qax.extract 0 ((wrap64 (a1 - 1)) : Int).toNat).size + a2.size ≤ 9223372036854775807 then (if 0 ≤ a1 then (if a1 ≤ (qax.size : Int) then (if ((qax.extract 0 ((wrap64 (a1 - 1)) : Int).toNat) ++ a2).size + (qax.extract (a1 : Int).toNat qax.size).size ≤ 9223372036854775807 then (some (((qax.extract 0 ((wrap64 (a1 - 1)) : Int).toNat) ++ a2) ++ (qax.extract (a1 : Int).toNat qax.size), qaZ)) else (none)) else (none)) else (none)) else (none)) else (none)) else (none)
def qc5.T1 : Bool × List (List Nat × List Nat) := (true, [([], []), ([0], [0]), ([], []), ([2], [2]), ([1, 3], [1, 3]), ([], []), ([4, 5], [4, 5]), ([], []), ([7], [7]), ([], []), ([8, 9], [8, 9]), ([6, 10], [6, 10]), ([0, 1, 2, 3, 4, 5, 6, 7, 8, 9, 10, 11], []), ([12, 11, 0, 1, 2, 3, 4, 5, 6, 7, 8, 9, 10, 11], [11, 12])])
def qc5.B1 : List Nat := [0, 1, 0, 4, 15, 0, 63, 0, 128, 0, 896, 2047, 4095, 8191]
theorem qc5.tab1 : qhD .any (opsOf Tryz.f89 1) = qc5.T1 := by kernel_rfl
theorem qc5.qsS : qeE qc5.T1.2 qc5.B1 = true := by kernel_rfl
theorem qc5.calls (qax : ByteArray) (qaZ : Int) (a1 : Int) (a2 : ByteArray) (r1 : ByteArray) (r2 : Int) (w : World) (h : qc5.f qax qaZ a1 a2 = some (r1, r2)) :
  Calls Tryz.prog 89 #[.agg #[.string qax, .int .i64 qaZ], .int .i64 a1, .string a2] w fun e w' => e = .returned (.agg #[.string r1, .int .i64 r2]) ∧ Below w.heap.size w w' := by
 have qiv := Tryz.underlying23; have HB := ak_ (Below.refl w.heap.size w); have H : (if 0 ≤ (wrap64 (a1 - 1)) then (if (wrap64 (a1 - 1)) ≤ (qax.size : Int) then (if (qax.extract 0 ((wrap64 (a1 - 1)) : Int).toNat).size + a2.size ≤ 9223372036854775807 then (if 0 ≤ a1 then (if a1 ≤ (qax.size : Int) then (if ((qax.extract 0 ((wrap64 (a1 - 1)) : Int).toNat) ++ a2).size + (qax.extract (a1 : Int).toNat qax.size).size ≤ 9223372036854775807 then (some (((qax.extract 0 ((wrap64 (a1 - 1)) : Int).toNat) ++ a2) ++ (qax.extract (a1 : Int).toNat qax.size), qaZ)) else (none)) else (none)) else (none)) else (none)) else (none)) else (none)) = some (r1, r2) := h; clear h
 obtain ⟨ji4, hji4⟩ : ∃ j_ : Int, (wrap64 (a1 - 1)) = j_ := ⟨_, rfl⟩
 replace H : (if 0 ≤ (ji4) then (if (ji4) ≤ (qax.size : Int) then (if (qax.extract 0 ((ji4) : Int).toNat).size + a2.size ≤ 9223372036854775807 then (if 0 ≤ a1 then (if a1 ≤ (qax.size : Int) then (if ((qax.extract 0 ((ji4) : Int).toNat) ++ a2).size + (qax.extract (a1 : Int).toNat qax.size).size ≤ 9223372036854775807 then (some (((qax.extract 0 ((ji4) : Int).toNat) ++ a2) ++ (qax.extract (a1 : Int).toNat qax.size), qaZ)) else (none)) else (none)) else (none)) else (none)) else (none)) else (none)) = some (r1, r2) := by first | (rw [hji4] at H; exact H) | (simp only [hji4] at H ⊢; exact H)
 have hji4w : (IntKind.i64.wrap (a1 - 1)) = ji4 := (qbL _).trans hji4; by_cases c5 : 0 ≤ (ji4); rotate_left
 ·rw [if_neg c5] at H; exact absurd H (by simp)
 rw [if_pos c5] at H; have qi9 := eq_true c5; have c5b1 : decide (0 ≤ (ji4)) = true := decide_eq_true c5; clear c5; by_cases c6 : (ji4) ≤ (qax.size : Int); rotate_left
 ·rw [if_neg c6] at H; exact absurd H (by simp)
 rw [if_pos c6] at H; have qkn := eq_true c6; have qr4 : decide ((ji4) ≤ (qax.size : Int)) = true := decide_eq_true c6; clear c6; by_cases c7 : (qax.extract 0 ((ji4) : Int).toNat).size + a2.size ≤ 9223372036854775807; rotate_left
 ·rw [if_neg c7] at H; exact absurd H (by simp)
 rw [if_pos c7] at H; have qiI := eq_true c7; have qmR : decide ((qax.extract 0 ((ji4) : Int).toNat).size + a2.size ≤ 9223372036854775807) = true := decide_eq_true c7
 try have c7b2 : (9223372036854775807 < (qax.extract 0 ((ji4) : Int).toNat).size + a2.size) = False := eq_false (Nat.not_lt.2 c7)
 have e7_ : (qax.extract 0 ((ji4) : Int).toNat).size = (ji4).toNat := by rw [ByteArray.size_extract]; have := of_eq_true qkn; omega
 have c7b3 : (9223372036854775807 < (ji4).toNat + a2.size) = False := by rw [← e7_]; exact c7b2
 by_cases c8 : 0 ≤ a1; rotate_left
 ·rw [if_neg c8] at H; exact absurd H (by simp)
 rw [if_pos c8] at H; have c8b0 := eq_true c8; have c8b1 : decide (0 ≤ a1) = true := decide_eq_true c8; clear c8; by_cases c9 : a1 ≤ (qax.size : Int); rotate_left
 ·rw [if_neg c9] at H; exact absurd H (by simp)
 rw [if_pos c9] at H; have qqJ := eq_true c9; have c9b1 : decide (a1 ≤ (qax.size : Int)) = true := decide_eq_true c9; clear c9; by_cases c10 : ((qax.extract 0 ((ji4) : Int).toNat) ++ a2).size + (qax.extract (a1 : Int).toNat qax.size).size ≤ 9223372036854775807; rotate_left
 ·rw [if_neg c10] at H; exact absurd H (by simp)
 rw [if_pos c10] at H; have qs1 := eq_true c10; have c10b1 : decide (((qax.extract 0 ((ji4) : Int).toNat) ++ a2).size + (qax.extract (a1 : Int).toNat qax.size).size ≤ 9223372036854775807) = true := decide_eq_true c10
 try have c10b2 : (9223372036854775807 < ((qax.extract 0 ((ji4) : Int).toNat) ++ a2).size + (qax.extract (a1 : Int).toNat qax.size).size) = False := eq_false (Nat.not_lt.2 c10)
 have e10_ : (qax.extract (a1 : Int).toNat qax.size).size = qax.size - a1.toNat := by rw [ByteArray.size_extract]; omega
 have c10b3 : (9223372036854775807 < (ji4).toNat + a2.size + (qax.size - a1.toNat)) = False := by rw [← e7_, ← e10_, ← ByteArray.size_append]; exact c10b2
 clear e7_ e10_; simp only [Option.some.injEq, Prod.mk.injEq] at H; obtain ⟨rfl, rfl⟩ := H; go_enter Tryz.func89, Tryz.ntmps89
 try go_wp2_with (first | ((with_reducible refine qas (N := 3) rfl ?_); refine bx_ 3 (cs := #[.string qax, .int .i64 qaZ]) (t := 23) qa0 ?_; intro qaR hg w11 hbox hb; have qai := ak_ (hbox); have qcB := ak_ (HB.ge hg); have qcg := ak_ (HB.ge hg); replace HB := HB.mw hb; clear hb hbox hg) | ((with_reducible refine qas (N := 6) rfl ?_); refine bx_ 6 (cs := #[.string (⟨#[]⟩ : ByteArray), .int .i64 0]) (t := 23) qa0 ?_; intro qe1 hg w12 hbox hb; have qdr := ak_ (hbox); have qiD := ak_ ((by rw [hg]; exact (qal qaM) : w.heap.size ≤ qe1)); have qgT := ak_ ((by rw [hg]; exact (qal qaM) : w.heap.size ≤ qe1)); replace HB := ak_ (qac qaM hb); have qd1 := ak_ (qai.ne hg); have qdL := ak_ (qai.ne hg).symm; replace qai := qai.mw hb; clear hb hbox hg))
 replace qai := ak_ (qae qai.out); replace qdr := ak_ (qae qdr.out); replace HB := ak_ (qap HB.out); refine qc7 (n := 14) (S := fun w' => w'.cell? ⟨qaR, 0, none⟩ = some (.string qax) ∧ w'.cell? ⟨qaR, 1, none⟩ = some (.int .i64 qaZ)) (ds := [13]) (rA_ [0, 14]) (by kernel_rfl) rfl rfl ⟨qbj qai.out, qbm qai.out⟩ (fun hHeld => ?_); refine qb1 qc5.tab1 qc5.qsS (fun HT_ HW_ => ?_)
 generalize w12.drew = w13 at qai qdr HB hHeld ⊢
 refine pu_ 0 7 [1, 13] ?_; refine pu_ 2 9 [1, 1, 1, 11] ?_; refine pu_ 3 10 [1, 1, 2, 10] ?_; refine pu_ 5 12 [1, 1, 2, 1, 1, 8] ?_; refine pu_ 7 14 [1, 1, 2, 1, 1, 1, 1, 6] ?_; refine pu_ 9 16 [1, 1, 2, 1, 1, 1, 1, 1, 1, 4] ?_; refine qip 1 8 [4, 1, 1, 1, 1, 1, 1, 4] ?_; refine pu_ 4 11 [6, 1, 1, 1, 1, 4] ?_; refine pu_ 6 13 [8, 1, 1, 4] ?_; refine qip 8 15 [10, 4] ?_; refine pu_ 10 17 [11, 3] ?_; refine pu_ 11 18 [12, 2] ?_; refine pu_ 12 19 [13, 1] ?_; refine qpf (i := 13) (N := none) (rA_ [14]) rfl rfl (qcn HT_.out (by kernel_rfl)) (by decide) (fun K hK => ?_); obtain ⟨hs14, hfs14⟩ := qo0 qai.out; have hns14_1 := qdL.out; have hms14_1 := qd1.out; refine qmF (w1 := ?_) (by rfl) rfl ?_ ?_; rotate_left
 ·go_simp; rfl
 refine hK.out _ _ ?_; clear hK K; refine qeI (qc3 HT_.out (by kernel_rfl)) ?_; have hnb15 := qd1.out; have hnc15 := qdL.out; obtain ⟨qqf, qqg, qqj, qqk⟩ := qa2 qai.out; obtain ⟨hcz17_0, hcz17_1, hfz17_0, hfz17_1⟩ := qa2 qdr.out
 try go_wp2
 refine bodyPost_ret (results_cell_row rfl _ _ qe1 23 #[.string (((qax.extract 0 ((ji4) : Int).toNat) ++ a2) ++ (qax.extract (a1 : Int).toNat qax.size)), .int .i64 qaZ] (0, 0) _ rfl (by (with_reducible repeat (first | refine qag ?_ _ | refine qae ?_ | refine qaf ?_ _)); refine qaQ (cs := #[.string (((qax.extract 0 ((ji4) : Int).toNat) ++ a2) ++ (qax.extract (a1 : Int).toNat qax.size)), .int .i64 0]) ?_ 1 _ rfl; (with_reducible repeat (first | refine qag ?_ _ | refine qae ?_ | refine qaf ?_ _)); refine qaQ (cs := #[.string (⟨#[]⟩ : ByteArray), .int .i64 0]) ?_ 0 _ rfl; (with_reducible repeat (first | refine qag ?_ _ | refine qae ?_ | refine qaf ?_ _)); refine qa4 ?_ qdL.out _; apply_rules only [qdr.out, qag, qae, qaf]) Tryz.underlying23 rfl (by kernel_rfl)) rfl ?_; exact ⟨by first | rfl | (simp [qe6, qe7] <;> rfl) | (simp only [← hji4]; first | rfl | (simp [qe6, qe7] <;> rfl)) | (simp [*, qe6, qe7] <;> rfl), k95_⟩
end
end Go.Proofs.YtbnmajedmajfoaaGreatDoor.P
