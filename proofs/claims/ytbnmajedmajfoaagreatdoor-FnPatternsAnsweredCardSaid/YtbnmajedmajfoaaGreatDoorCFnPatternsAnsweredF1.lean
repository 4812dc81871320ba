/- What functions of the program answer. Proved in this text: its theorems. Conditions: as each theorem states them. -/
import Derived.Test.YtbnmajedmajfoaaGreatDoorCFnPatternsAnsweredP
import Derived.Test.YtbnmajedmajfoaaGreatDoorCFnPatternsAnsweredF0
namespace Go.Proofs.YtbnmajedmajfoaaGreatDoor.P
open Go.RowKit Go.Proofs.YtbnmajedmajfoaaGreatDoorW.qaG Go.Proofs.YtbnmajedmajfoaaGreatDoorW.PrintLast Go.Proofs.YtbnmajedmajfoaaGreatDoorW.PrintMore
set_option linter.unusedVariables false
set_option linter.unusedSimpArgs false
set_option maxHeartbeats 8000000
set_option maxRecDepth 100000
section
attribute [local go_sem] qfb qfd qfX qfY qex qey qfc qfe
attribute [local go_sem high] qoO
def qcq.l0 : Nat → List (qaj) → Int → Int → Int → Int → Option (Int)
 | 0, _, _, _, _, _ => none
 | k + 1, x0, x7, x8, qel, qeC => if x8 < x7 then (if 0 ≤ x8 then (if x8 < (x0.length : Int) then (if (qel == ((qab x0 x8).f0) && (qeC == ((qab x0 x8).f1))) = true then (some x8) else (qcq.l0 k x0 x7 (wrap64 (x8 + 1)) qel qeC)) else (none)) else (none)) else (some (-1))
def qcq.f (k : Nat) (l0 : List (qaj)) (qc5 : Int) (qdD : Int) : Option (Int) := qcq.l0 k l0 (l0.length : Int) 0 qc5 qdD
theorem qcq.calls (k : Nat) (A0 : Option Addr) (c0 : Nat) (l0 : List (qaj)) (qc5 : Int) (qdD : Int) (r : Int) (w : World) (hr0 : Kd.C qa1 w A0 l0.length l0) (hc0 : l0.length ≤ c0) (h : qcq.f k l0 qc5 qdD = some r) :
  Calls Tryz.prog 72 #[.slice A0 l0.length c0, .agg #[.int .i64 qc5, .int .i64 qdD]] w fun e w' => e = .returned (.int .i64 r) ∧ Below w.heap.size w w' := by
 have qkB := Tryz.underlying33; have HR0 := ak_ hr0; have HC0 := ak_ hc0; clear hr0 hc0; have HB := ak_ (Below.refl w.heap.size w); have H : (qcq.l0 k l0 (l0.length : Int) 0 qc5 qdD) = some r := h; clear h; have H' := ak_ H; clear H; go_enter Tryz.func72, Tryz.ntmps72
 go_wp2_with (first | ((with_reducible refine qas (N := 3) rfl ?_); refine bx_ 3 (cs := #[.int .i64 qc5, .int .i64 qdD]) (t := 33) qa0 ?_; intro qaR hg w3 hbox hb; have qai := ak_ (hbox); have qcy := ak_ (HB.ge hg); have qcd := ak_ (HB.ge hg); replace HB := HB.mw hb; clear hb hbox hg))
 repeat (go_quiet (first | ((with_reducible refine qas (N := 3) rfl ?_); refine bx_ 3 (cs := #[.int .i64 qc5, .int .i64 qdD]) (t := 33) qa0 ?_; intro qaR hg w3 hbox hb; have qai := ak_ (hbox); have qcy := ak_ (HB.ge hg); have qcd := ak_ (HB.ge hg); replace HB := HB.mw hb; clear hb hbox hg)); try go_wp2_with (first | ((with_reducible refine qas (N := 3) rfl ?_); refine bx_ 3 (cs := #[.int .i64 qc5, .int .i64 qdD]) (t := 33) qa0 ?_; intro qaR hg w3 hbox hb; have qai := ak_ (hbox); have qcy := ak_ (HB.ge hg); have qcd := ak_ (HB.ge hg); replace HB := HB.mw hb; clear hb hbox hg)))
 go_loopg [8] k (fun kq v8 w' => ∃ (qdM : Int), v8 = .int .i64 qdM ∧ qah (qcq.l0 kq l0 (l0.length : Int) qdM qc5 qdD = some r) ∧ qah (kq ≤ k) ∧ qah (w'.heap[qaR]? = some (.cells #[.int .i64 qc5, .int .i64 qdD] 33 (0, 0))) ∧ qah (Below w.heap.size w w'))
 case atStart => exact ⟨(0), qbf, H', ⟨Nat.le_refl _⟩, ⟨qce⟩, ⟨qaM⟩⟩
 case round =>
  clear H'; obtain ⟨qdM, rfl, HA, HK1, qai, HB⟩ := hrel
  cases gk with
  | zero => exact absurd HA.out (by simp [qcq.l0])
  | succ k1 =>
   have H := HA.out; clear HA; simp only [qcq.l0] at H; by_cases c4 : qdM < (l0.length : Int); rotate_left
   ·rw [if_neg c4] at H; have qhC : decide (qdM < (l0.length : Int)) = false := decide_eq_false c4; clear c4; obtain rfl := Option.some.inj H; go_wp2
    repeat (go_quiet (fail); try go_wp2)
    go_ret
    exact ⟨qbu, qaM⟩
   rw [if_pos c4] at H; have qhC : decide (qdM < (l0.length : Int)) = true := decide_eq_true c4; clear c4; by_cases c5 : 0 ≤ qdM; rotate_left
   ·rw [if_neg c5] at H; exact absurd H (by simp)
   rw [if_pos c5] at H; have qi5 : decide (0 ≤ qdM) = true := decide_eq_true c5; clear c5; by_cases c6 : qdM < (l0.length : Int); rotate_left
   ·rw [if_neg c6] at H; exact absurd H (by simp)
   rw [if_pos c6] at H; have qkk : decide (qdM < (l0.length : Int)) = true := decide_eq_true c6; clear c6; by_cases c7 : (qc5 == ((qab l0 qdM).f0) && (qdD == ((qab l0 qdM).f1))) = true
   ·rw [if_pos c7] at H; have qiF : (qc5 == ((qab l0 qdM).f0) && (qdD == ((qab l0 qdM).f1))) = true := c7; (try (have qmO : decide (qc5 = ((qab l0 qdM).f0) && (qdD == ((qab l0 qdM).f1))) = true := by simpa using c7)); (try (have c7b2 : (qc5 == ((qab l0 qdM).f0) && (qdD == ((qab l0 qdM).f1))) = true := by simpa using c7)); clear c7; obtain rfl := Option.some.inj H; obtain ⟨qgd, qge, qgw, qgf⟩ := g2_ qai.out; have qhk : 0 ≤ (qdM : Int) := of_decide_eq_true qa7; have qhl : qdM < (l0.length : Int) := of_decide_eq_true qa7; obtain ⟨qnu, qnJ, qdt, qdF⟩ := qcn HR0.out qdM qhk qhl
    cases qnJ
    replace qdt := (HB.out.cell (World.block_lt_of_cell? w _ qdt)).trans qdt; replace qdF := (HB.out.cell (World.block_lt_of_cell? w _ qdF)).trans qdF; replace qhk := eq_true qhk; replace qhl := eq_true qhl; go_wp2
    repeat (go_quiet (fail); try go_wp2)
    go_ret
    exact ⟨qbu, qaM⟩
   rw [if_neg c7] at H
   have qiF : (qc5 == ((qab l0 qdM).f0) && (qdD == ((qab l0 qdM).f1))) = false := by simpa using c7
   (try (have qmO : decide (qc5 = ((qab l0 qdM).f0) && (qdD == ((qab l0 qdM).f1))) = false := by simpa using c7)); (try (have c7b2 : (qc5 == ((qab l0 qdM).f0) && (qdD == ((qab l0 qdM).f1))) = false := by simpa using c7)); (try (have c7b3 : ¬ (qc5 = ((qab l0 qdM).f0) && (qdD == ((qab l0 qdM).f1))) := by simpa using c7)); clear c7; have H' := ak_ H; clear H; obtain ⟨qly, qlz, qm0, qlI⟩ := g2_ qai.out; have qhk : 0 ≤ (qdM : Int) := of_decide_eq_true qa7; have qhl : qdM < (l0.length : Int) := of_decide_eq_true qa7; obtain ⟨qnu, qnJ, qdt, qdF⟩ := qcn HR0.out qdM qhk qhl
   cases qnJ
   replace qdt := (HB.out.cell (World.block_lt_of_cell? w _ qdt)).trans qdt; replace qdF := (HB.out.cell (World.block_lt_of_cell? w _ qdF)).trans qdF; replace qhk := eq_true qhk; replace qhl := eq_true qhl; go_wp2
   repeat (go_quiet (fail); try go_wp2)
   go_roundg k1
   case measure => have := HK1.out; omega
   case rel => exact ⟨(wrap64 (qdM + 1)), qbf, H', ⟨qgi⟩, ⟨qce⟩, ⟨qaM⟩⟩
end
section
attribute [local go_sem] qfb qfd qfX qfY qex qey qfc qfe
def qdd.f (k : Nat) (l0 : List (qaj)) (qc5 : Int) (qdD : Int) : Option (Bool) := (qcq.f k l0 qc5 qdD).bind fun qaF => (some (decide (qaF ≥ 0)))
theorem qdd.calls (k : Nat) (A0 : Option Addr) (c0 : Nat) (l0 : List (qaj)) (qc5 : Int) (qdD : Int) (r : Bool) (w : World) (hr0 : Kd.C qa1 w A0 l0.length l0) (hc0 : l0.length ≤ c0) (h : qdd.f k l0 qc5 qdD = some r) :
  Calls Tryz.prog 41 #[.slice A0 l0.length c0, .agg #[.int .i64 qc5, .int .i64 qdD]] w fun e w' => e = .returned (.bool r) ∧ Below w.heap.size w w' := by
 have qkB := Tryz.underlying33; have HR0 := ak_ hr0; have HC0 := ak_ hc0; clear hr0 hc0; have HB := ak_ (Below.refl w.heap.size w); have H : ((qcq.f k l0 qc5 qdD).bind fun qaF => (some (decide (qaF ≥ 0)))) = some r := h; clear h; obtain ⟨qaF, A3, H⟩ := qbg H; (try dsimp only at H); obtain rfl := Option.some.inj H; go_enter Tryz.func41, Tryz.ntmps41
 go_wp2_with (first | ((with_reducible refine qas (N := 3) rfl ?_); refine bx_ 3 (cs := #[.int .i64 qc5, .int .i64 qdD]) (t := 33) qa0 ?_; intro qaR hg w4 hbox hb; have qai := ak_ (hbox); have qcy := ak_ (HB.ge hg); have qcd := ak_ (HB.ge hg); replace HB := HB.mw hb; clear hb hbox hg; obtain ⟨qtw, qtx, hfz5_0, qtE⟩ := g2_ qai.out) | ((with_reducible refine qad (f := 72) rfl ?_); refine gl_ 7 Tryz.func72 #[.slice A0 l0.length c0, .agg #[.int .i64 qc5, .int .i64 qdD]] rfl qbH ?_; (with_reducible refine (qcq.calls k _ _ l0 qc5 qdD qaF _ ?qaB ?qaC A3.out).mono ?_); (case qaB => exact k70_); (case qaC => exact HC0.out); rintro e w6 ⟨rfl, hb⟩; refine ⟨_, rfl, ?_⟩; replace qai := qai.mw hb; replace HB := ak_ (qac qaM hb); (try clear hb)))
 go_ret
 exact ⟨qbu, qaM⟩
theorem qrI (p : List qaj → Bool) (g : Nat) (lb : Array Value) (eg : ∀ args w, (callFunc g args).run Tryz.prog w = .ok (.enter g args) w)
    (A0 : Option Addr) (c0 : Nat) (zs : List (List Value × List qaj)) (w : World) (hp : ∀ (W : World) (z : List Value × List qaj), z ∈ zs → Below w.heap.size w W → ∃ A' c', z.1 = [.slice A' z.2.length c'] ∧ Calls Tryz.prog g (#[.slice A' z.2.length c'] ++ lb) W fun e w' => e = .returned (.bool (p z.2)) ∧ Below w.heap.size w w') (hr0 : Kd.C (kRaw (List qaj)) w A0 zs.length zs) :
    Calls Tryz.prog 71 #[.slice A0 zs.length c0, .func (.func g) #[] lb] w fun e w' => e = .returned (.int .i64 (fIx (fun z : List Value × List qaj => p z.2) zs 0)) ∧ Below w.heap.size w w' := by
  have hm : zs.length ≤ 9223372036854775807 := Kd.qri hr0; have HR0 := ak_ hr0; have HP := ak_ hp; clear hr0 hp; have HB := ak_ (Below.refl w.heap.size w); have H0 := ak_ (show fIx (fun z : List Value × List qaj => p z.2) zs 0 = fIx (fun z : List Value × List qaj => p z.2) (zs.drop 0) ((0 : Nat) : Int) from rfl); go_enter Tryz.func71, Tryz.ntmps71; go_wp2
  go_loopg [5, 8] zs.length (fun gg _ s8 wr => ∃ kk : Nat, kk ≤ zs.length ∧ zs.length - kk ≤ gg ∧ s8 = .int .i64 kk ∧ qah (Below w.heap.size w wr) ∧ qah (fIx (fun z : List Value × List qaj => p z.2) zs 0 = fIx (fun z : List Value × List qaj => p z.2) (zs.drop kk) kk))
  case atStart => exact ⟨0, Nat.zero_le _, by omega, rfl, HB, H0⟩
  case round =>
    clear HB H0; obtain ⟨kk, hkk, hg, rfl, HB, HI⟩ := hrel; by_cases hlt : kk < zs.length; rotate_left
    ·have hltz : ¬ (kk : Int) < (zs.length : Int) := by omega
     have HDZ := ak_ (List.drop_eq_nil_of_le (by omega : zs.length ≤ kk)); go_wp2
     go_ret
     exact ⟨by rw [HI.out, HDZ.out]; rfl, HB.out⟩
    have hltz : (kk : Int) < (zs.length : Int) := by omega
    obtain ⟨z, hz⟩ : ∃ z, zs[kk]? = some z := ⟨zs[kk], List.getElem?_eq_getElem hlt⟩
    have hdz : zs.drop kk = z :: zs.drop (kk + 1) := by
      rw [List.drop_eq_getElem_cons hlt]; rw [List.getElem?_eq_getElem hlt] at hz
      injection hz with hz
      rw [hz]
    obtain ⟨A', c', ez, hcall⟩ := HP.out wr z (List.mem_of_getElem? hz) HB.out; obtain ⟨ad, ce, e_, hcl, hK, hcc⟩ := Kd.qrh HR0.out z (kk : Int) (by omega) hltz
    have ey : zs.getD (kk : Int).toNat z = z := by simp [List.getD, hz]
    rw [ey] at hK; obtain ⟨rfl, -, -⟩ := hK; subst e_; have hx0 : w.cell? (ad.add ((kk : Int).toNat * 1 + 0)) = some (.slice A' z.2.length c') := hcc 0 _ (by rw [ez]; rfl); simp only [Int.toNat_natCast, Nat.mul_one, Nat.add_zero] at hx0; replace hx0 := (HB.out.cell (World.block_lt_of_cell? w _ hx0)).trans hx0; have HDZ := ak_ hdz; clear hcl hcc hz ez ey hdz
    cases hq : p z.2 with
    | true =>
      rw [hq] at hcall; have HQ := ak_ hq; clear hq
      go_wp2_with (go_at_fn g; refine hcall.mono ?_; rintro e w' ⟨rfl, hb'⟩)
      go_ret
      exact ⟨by rw [HI.out, HDZ.out, fIx, if_pos HQ.out]; rfl, hb'⟩
    | false =>
      rw [hq] at hcall; have HQ := ak_ hq; clear hq
      go_wp2_with (go_at_fn g; refine hcall.mono ?_; rintro e w' ⟨rfl, hb'⟩)
      go_roundg (zs.length - (kk + 1))
      case measure => omega
      case rel => exact ⟨kk + 1, by omega, by omega, by go_num, ⟨hb'⟩, ⟨by rw [HI.out, HDZ.out, fIx, if_neg (by rw [HQ.out]; decide)]; rfl⟩⟩
def qfN (k : Nat) (x : qaj) (a : List qaj) : Bool := qdd.f k a x.f0 x.f1 == some false
def qcG.f (k : Nat) (qax : ByteArray) (qaZ : Int) : Option (List qaj × Bool) := (qbG.f k qax qaZ).bind fun b => if b.2 = true then (if b.1.length = 0 then some ([], false) else (if (qar b.1 0).length < 8796093022207 ∧ ((qar b.1 0).all fun x => b.1.all fun a => (qdd.f k a x.f0 x.f1).isSome) = true then some ((qar b.1 0).filter (fun x => !(b.1.any (qfN k x))), true) else none)) else some ([], false)
theorem qti {α : Type} (p : α → Bool) : ∀ (l : List α) (i : Int), 0 ≤ i → decide (0 ≤ fIx p l i) = l.any p
  | [], _, _ => by simp [fIx]
  | x :: l, i, hi => by
    rw [fIx, List.any_cons]
    cases hx : p x with
    | true => simp [hi]
    | false => simpa using qti p l (i + 1) (by omega)
theorem qs8 (p : List qaj → Bool) (g : Nat) (lb : Array Value) (eg : ∀ args w, (callFunc g args).run Tryz.prog w = .ok (.enter g args) w)
    (A0 : Option Addr) (c0 : Nat) (zs : List (List Value × List qaj)) (w : World) (hp : ∀ (W : World) (z : List Value × List qaj), z ∈ zs → Below w.heap.size w W → ∃ A' c', z.1 = [.slice A' z.2.length c'] ∧ Calls Tryz.prog g (#[.slice A' z.2.length c'] ++ lb) W fun e w' => e = .returned (.bool (p z.2)) ∧ Below w.heap.size w w') (hr0 : Kd.C (kRaw (List qaj)) w A0 zs.length zs) :
    Calls Tryz.prog 39 #[.slice A0 zs.length c0, .func (.func g) #[] lb] w fun e w' => e = .returned (.bool ((zs.map Prod.snd).any p)) ∧ Below w.heap.size w w' := by
  rw [List.any_map, show (p ∘ Prod.snd) = (fun z : List Value × List qaj => p z.2) from rfl, ← qti (fun z : List Value × List qaj => p z.2) zs 0 (by omega)]; have hcall := ak_ (qrI p g lb eg A0 c0 zs w hp hr0); clear hp hr0; go_enter Tryz.func39, Tryz.ntmps39
  go_wp2_with (go_at_call 71; refine hcall.out.mono ?_; rintro e w' ⟨rfl, hb'⟩)
  go_ret
  exact ⟨rfl, hb'⟩
theorem qqw (k : Nat) (a : List qaj) (A' : Option Addr) (c' : Nat) (x : qaj) (gR : Nat) (W : World) (t : Bool) (hC : Kd.C qa1 W A' a.length a) (hc' : a.length ≤ c') (hb : W.heap[gR]? = some (.cells #[.int .i64 x.f0, .int .i64 x.f1] 33 (0, 0))) (h : qdd.f k a x.f0 x.f1 = some t) :
    Calls Tryz.prog 40 #[.slice A' a.length c', .pointer (some ⟨gR, 0, none⟩)] W fun e w' => e = .returned (.bool (!t)) ∧ Below W.heap.size W w' := by
  have hu := Tryz.underlying33; have HC := ak_ hC; have HC' := ak_ hc'; have A_ := ak_ h; have hx0 : W.cell? ⟨gR, 0, none⟩ = some (.int .i64 x.f0) := (qaO hb 0).trans rfl; have hx1 : W.cell? ⟨gR, 1, none⟩ = some (.int .i64 x.f1) := (qaO hb 1).trans rfl; clear hC hc' hb h; go_enter Tryz.func40, Tryz.ntmps40
  go_wp2_with (((with_reducible refine qad (f := 41) rfl ?_); refine gl_ 6 Tryz.func41 #[.slice A' a.length c', .agg #[.int .i64 x.f0, .int .i64 x.f1]] rfl qeU ?_; (with_reducible refine (qdd.calls k _ _ a x.f0 x.f1 t _ ?qaB ?qaC A_.out).mono ?_); (case qaB => exact HC.out); (case qaC => exact HC'.out); rintro e w1 ⟨rfl, hb1⟩; refine ⟨_, rfl, ?_⟩; have HB1 := ak_ hb1; clear hb1))
  go_ret
  exact ⟨rfl, HB1.out⟩
theorem qt5 {base : Nat} {ok : Nat → Prop} {w : World} {A : Option Addr} {n c : Nat} {xs : List (List qaj)} (h : Kd.S (Kd.slice 33 qa1) 24 w base ok (.slice A n c) xs) :
    ∃ zs : List (List Value × List qaj), zs.map Prod.snd = xs ∧ Kd.C (kRaw (List qaj)) w A zs.length zs ∧ ∀ z ∈ zs, ∃ A' c', z.1 = [.slice A' z.2.length c'] ∧ Kd.C qa1 w A' z.2.length z.2 ∧ z.2.length ≤ c' := by
  obtain ⟨f, zs, h1, h2, h3⟩ := raw_of_S h rfl; have h4 := Kd.R_reads' h2; refine ⟨zs, h1, h4.1 ▸ h4.2.2, fun z hz => ?_⟩; obtain ⟨m, hm⟩ := List.getElem?_of_mem hz; obtain ⟨vr, e, hR⟩ := h3 m z hm; obtain ⟨A', c', e2⟩ := Kd.qbz hR; subst e2; have h5 := Kd.R_reads' hR; exact ⟨A', c', e, h5.2.2, h5.2.1⟩
theorem que (k : Nat) (L : List (List qaj)) (x : qaj) (gR : Nat) (w2 : World) (zs : List (List Value × List qaj)) (hz1 : zs.map Prod.snd = L) (hz3 : ∀ z ∈ zs, ∃ A' c', z.1 = [.slice A' z.2.length c'] ∧ Kd.C qa1 w2 A' z.2.length z.2 ∧ z.2.length ≤ c') (hn : ∀ a ∈ L, (qdd.f k a x.f0 x.f1).isSome = true) (hb : w2.heap[gR]? = some (.cells #[.int .i64 x.f0, .int .i64 x.f1] 33 (0, 0))) :
    ∀ (W_ : World) (z : List Value × List qaj), z ∈ zs → Below w2.heap.size w2 W_ → ∃ A' c', z.1 = [.slice A' z.2.length c'] ∧ Calls Tryz.prog 40 (#[.slice A' z.2.length c'] ++ #[.pointer (some ⟨gR, 0, none⟩)]) W_ fun e w' => e = .returned (.bool (qfN k x z.2)) ∧ Below w2.heap.size w2 w' := by
  intro W_ z hz hb_; obtain ⟨A', c', e1, hC1, hc1⟩ := hz3 z hz; obtain ⟨t, ht⟩ := Option.isSome_iff_exists.1 (hn z.2 (by rw [← hz1]; exact List.mem_map_of_mem hz))
  have hm : qfN k x z.2 = !t := by unfold qfN; rw [ht]; cases t <;> rfl
  refine ⟨A', c', e1, (qqw k z.2 A' c' x gR W_ t (Kd.qeo hC1 hb_) hc1 (qam hb hb_) ht).mono ?_⟩; rintro e w' ⟨rfl, hb2⟩; exact ⟨by rw [hm], qac hb_ hb2⟩
theorem qqv (k : Nat) (L : List (List qaj)) (x : qaj) (gL : Nat) (AL : Option Addr) (cL base : Nat) (ok : Nat → Prop) (W : World) (hS : Kd.S (Kd.slice 33 qa1) 24 W base ok (.slice AL L.length cL) L) (hc : W.cell? ⟨gL, 0, none⟩ = some (.slice AL L.length cL)) (hs : ∀ a ∈ L, (qdd.f k a x.f0 x.f1).isSome = true) :
    Calls Tryz.prog 38 #[.agg #[.int .i64 x.f0, .int .i64 x.f1], .pointer (some ⟨gL, 0, none⟩)] W fun e w' => e = .returned (.bool (L.any (qfN k x))) ∧ Below W.heap.size W w' := by
  have hu := Tryz.underlying33; have HS := ak_ hS; have HN := ak_ hs; have HC := ak_ hc; clear hS hs hc; go_enter Tryz.func38, Tryz.ntmps38
  go_wp2_with (first | ((with_reducible refine qas (N := 2) rfl ?_); (try (refine qav (by rfl) ?_; dsimp only)); refine bx_ 2 (cs := #[.int .i64 x.f0, .int .i64 x.f1]) (t := 33) qa0 ?_; intro gR hg w2 hbox hb; have BR := ak_ hbox; have HB2 := ak_ hb; have hcL : w2.cell? ⟨gL, 0, none⟩ = some (.slice AL L.length cL) := (hb.cell (World.block_lt_of_cell? W _ HC.out)).trans HC.out; have HS2 := ak_ (Kd.qdy HS.out hb); clear hbox hb hg) | ((with_reducible refine qad (f := 39) rfl ?_); obtain ⟨zs, hz1, hz2, hz3⟩ := qt5 HS2.out; have hzl : zs.length = L.length := (by rw [← hz1, List.length_map]); refine goesL_ (some 6) rfl rfl Tryz.func39 (by kernel_rfl) rfl #[.slice AL zs.length cL, .func (.func 40) #[] #[.pointer (some ⟨gR, 0, none⟩)]] rfl (by (try simp only [List.map_toArray, List.map_cons, List.map_nil]); rw [hzl]; first | done | rfl) ?_; refine (qs8 (qfN k x) 40 #[.pointer (some ⟨gR, 0, none⟩)] (enters_of Tryz.func40 (by kernel_rfl) rfl) AL cL zs _ ?sP hz2).mono ?_; (case sP => exact que k L x gR w2 zs hz1 hz3 HN.out BR.out); rintro e w6 ⟨rfl, hb6⟩; refine ⟨_, rfl, ?_⟩; rw [hz1]; have HB6 := ak_ hb6; clear hb6 hz1 hz2 hz3 hzl))
  go_ret
  exact ⟨rfl, qac HB2.out HB6.out⟩
theorem qcG.calls (k : Nat) (qax : ByteArray) (qaZ : Int) (r1 : List qaj) (r2 : Bool) (w : World) (h : qcG.f k qax qaZ = some (r1, r2)) :
    Calls Tryz.prog 11 #[.agg #[.string qax, .int .i64 qaZ]] w fun e w' => ∃ v0_ : Value, e = .returned (.tuple #[v0_, .bool r2]) ∧ Kd.R qa1 33 w' w.heap.size (fun _ => True) v0_ r1 ∧ Below w.heap.size w w' := by
  have hu := Tryz.underlying23; unfold qcG.f at h; replace h := Option.bind_eq_some_iff.mp h; obtain ⟨⟨L, t⟩, A0_, h⟩ := h; have A1 := ak_ A0_; clear A0_; replace h : (if t = true then (if L.length = 0 then some ([], false) else (if (qar L 0).length < 8796093022207 ∧ ((qar L 0).all fun x => L.all fun a => (qdd.f k a x.f0 x.f1).isSome) = true then some ((qar L 0).filter (fun x => !(L.any (qfN k x))), true) else none)) else some ([], false)) = some (r1, r2) := h
  cases t with
  | false =>
    rw [if_neg (by decide)] at h; simp only [Option.some.injEq, Prod.mk.injEq] at h; obtain ⟨rfl, rfl⟩ := h; go_enter Tryz.func11, Tryz.ntmps11
    go_wp2_with (first | ((with_reducible refine qas (N := 1) rfl ?_); (try (refine qav (by rfl) ?_; dsimp only)); refine bx_ 1 (cs := #[.string qax, .int .i64 qaZ]) (t := 23) qa0 ?_; intro gP hg w1 hbox hb; have BP1 := ak_ hbox; have HB1 := ak_ hb; have qnN : w1.cell? ⟨gP, 0, none⟩ = some (.string qax) := (qaO hbox 0).trans rfl; have qnO : w1.cell? ⟨gP, 1, none⟩ = some (.int .i64 qaZ) := (qaO hbox 1).trans rfl; clear hbox hb hg) | ((with_reducible refine qad (f := 35) rfl ?_); refine gl_ 8 Tryz.func35 #[.agg #[.string qax, .int .i64 qaZ]] rfl qeU ?_; (with_reducible refine (qbG.calls k qax qaZ L false _ A1.out).mono ?_); rintro e wA ⟨v8, rfl, ho, hb⟩; refine ⟨_, rfl, ?_⟩; have HBA := ak_ (qac HB1.out hb); obtain ⟨AL, cL, eL⟩ := Kd.qcR ho; subst eL; have HSA := ak_ (Kd.qdl (ok' := fun k_ => k_ < wA.heap.size) (Kd.qhW ho) (fun _ hk => hk.2.2.1)); clear ho hb qnN qnO BP1 HB1) | ((with_reducible refine qas (N := 4) rfl ?_); (try (refine qav (by rfl) ?_; dsimp only)); refine bx_ 4 (cs := #[.slice none 0 0]) (t := 25) qa0 ?_; intro g4 hg w4 hbox hb; have B4_ := ak_ (show (w4.setCell ⟨g4, 0, none⟩ (.slice AL L.length cL)).heap[g4]? = _ from qaQ (cs' := #[.slice AL L.length cL]) hbox 0 (.slice AL L.length cL) rfl); have HB4 := ak_ (show Below wA.heap.size wA (w4.setCell ⟨g4, 0, none⟩ (.slice AL L.length cL)) from qaw hb (Nat.le_of_eq hg.symm)); have hc4 : w4.cell? ⟨g4, 0, none⟩ = some (.slice none 0 0) := (qaO hbox 0).trans rfl; have hf4 := qaU hbox 0; clear hbox hb hg))
    go_ret2
    exact ⟨_, rfl, Kd.qki _ _ _ _ _, qac HBA.out HB4.out⟩
  | true =>
    rw [if_pos rfl] at h; by_cases c1_ : L.length = 0
    ·rw [if_pos c1_] at h; simp only [Option.some.injEq, Prod.mk.injEq] at h; obtain ⟨rfl, rfl⟩ := h; have c1b : ((L.length : Int) == 0) = true := beq_iff_eq.2 (by omega); clear c1_; go_enter Tryz.func11, Tryz.ntmps11
     go_wp2_with (first | ((with_reducible refine qas (N := 1) rfl ?_); (try (refine qav (by rfl) ?_; dsimp only)); refine bx_ 1 (cs := #[.string qax, .int .i64 qaZ]) (t := 23) qa0 ?_; intro gP hg w1 hbox hb; have BP1 := ak_ hbox; have HB1 := ak_ hb; have qnN : w1.cell? ⟨gP, 0, none⟩ = some (.string qax) := (qaO hbox 0).trans rfl; have qnO : w1.cell? ⟨gP, 1, none⟩ = some (.int .i64 qaZ) := (qaO hbox 1).trans rfl; clear hbox hb hg) | ((with_reducible refine qad (f := 35) rfl ?_); refine gl_ 8 Tryz.func35 #[.agg #[.string qax, .int .i64 qaZ]] rfl qeU ?_; (with_reducible refine (qbG.calls k qax qaZ L true _ A1.out).mono ?_); rintro e wA ⟨v8, rfl, ho, hb⟩; refine ⟨_, rfl, ?_⟩; have HBA := ak_ (qac HB1.out hb); obtain ⟨AL, cL, eL⟩ := Kd.qcR ho; subst eL; have HSA := ak_ (Kd.qdl (ok' := fun k_ => k_ < wA.heap.size) (Kd.qhW ho) (fun _ hk => hk.2.2.1)); clear ho hb qnN qnO BP1 HB1) | ((with_reducible refine qas (N := 4) rfl ?_); (try (refine qav (by rfl) ?_; dsimp only)); refine bx_ 4 (cs := #[.slice none 0 0]) (t := 25) qa0 ?_; intro g4 hg w4 hbox hb; have B4_ := ak_ (show (w4.setCell ⟨g4, 0, none⟩ (.slice AL L.length cL)).heap[g4]? = _ from qaQ (cs' := #[.slice AL L.length cL]) hbox 0 (.slice AL L.length cL) rfl); have HB4 := ak_ (show Below wA.heap.size wA (w4.setCell ⟨g4, 0, none⟩ (.slice AL L.length cL)) from qaw hb (Nat.le_of_eq hg.symm)); have hc4 : w4.cell? ⟨g4, 0, none⟩ = some (.slice none 0 0) := (qaO hbox 0).trans rfl; have hf4 := qaU hbox 0; clear hbox hb hg))
     go_ret2
     exact ⟨_, rfl, Kd.qki _ _ _ _ _, qac HBA.out HB4.out⟩
    rw [if_neg c1_] at h; have c1b : ((L.length : Int) == 0) = false := beq_eq_false_iff_ne.2 (by omega); have HL0 := ak_ (Nat.pos_of_ne_zero c1_); by_cases c2_ : (qar L 0).length < 8796093022207 ∧ ((qar L 0).all fun x => L.all fun a => (qdd.f k a x.f0 x.f1).isSome) = true; rotate_left
    ·rw [if_neg c2_] at h; exact absurd h (by simp)
    rw [if_pos c2_] at h; have HLB := ak_ c2_.1; have HSO := ak_ c2_.2
    obtain ⟨row, hrow⟩ : ∃ l_, l_ = qar L 0 := ⟨_, rfl⟩
    rw [← hrow] at h; have HROW := ak_ hrow; have HFIN := ak_ h; clear h c2_ c1_ hrow; go_enter Tryz.func11, Tryz.ntmps11
    go_wp2_with (first | ((with_reducible refine qas (N := 1) rfl ?_); (try (refine qav (by rfl) ?_; dsimp only)); refine bx_ 1 (cs := #[.string qax, .int .i64 qaZ]) (t := 23) qa0 ?_; intro gP hg w1 hbox hb; have BP1 := ak_ hbox; have HB1 := ak_ hb; have qnN : w1.cell? ⟨gP, 0, none⟩ = some (.string qax) := (qaO hbox 0).trans rfl; have qnO : w1.cell? ⟨gP, 1, none⟩ = some (.int .i64 qaZ) := (qaO hbox 1).trans rfl; clear hbox hb hg) | ((with_reducible refine qad (f := 35) rfl ?_); refine gl_ 8 Tryz.func35 #[.agg #[.string qax, .int .i64 qaZ]] rfl qeU ?_; (with_reducible refine (qbG.calls k qax qaZ L true _ A1.out).mono ?_); rintro e wA ⟨v8, rfl, ho, hb⟩; refine ⟨_, rfl, ?_⟩; have HBA := ak_ (qac HB1.out hb); obtain ⟨AL, cL, eL⟩ := Kd.qcR ho; subst eL; have HSA := ak_ (Kd.qdl (ok' := fun k_ => k_ < wA.heap.size) (Kd.qhW ho) (fun _ hk => hk.2.2.1)); clear ho hb qnN qnO BP1 HB1) | ((with_reducible refine qas (N := 4) rfl ?_); (try (refine qav (by rfl) ?_; dsimp only)); refine bx_ 4 (cs := #[.slice none 0 0]) (t := 25) qa0 ?_; intro g4 hg w4 hbox hb; have B4_ := ak_ (show (w4.setCell ⟨g4, 0, none⟩ (.slice AL L.length cL)).heap[g4]? = _ from qaQ (cs' := #[.slice AL L.length cL]) hbox 0 (.slice AL L.length cL) rfl); have HB4 := ak_ (show Below wA.heap.size wA (w4.setCell ⟨g4, 0, none⟩ (.slice AL L.length cL)) from qaw hb (Nat.le_of_eq hg.symm)); have hc4 : w4.cell? ⟨g4, 0, none⟩ = some (.slice none 0 0) := (qaO hbox 0).trans rfl; have hf4 := qaU hbox 0; clear hbox hb hg) | ((with_reducible refine qas (N := 18) rfl ?_); refine Kd.qgJ qa1 _ 33 ?hg (N := 18) ?hd (xs := ([] : List qaj)) (inner := []) (ok := fun _ => True) (okp := fun _ => True) ?hr ?hp (fun _ hk => hk) trivial (Below.refl _ _) (Nat.le_refl _) (by simp) ?_; (case hd => rfl); (case hg => rfl); (case hr => exact qa0); (case hp => exact qcg.none _ _); intro v18 w18 ho hb hg_ hnew_; clear hg_ hnew_; have HL18 := ak_ (Kd.qbv ho HB4.out.size); have HB18 := ak_ (qac HB4.out hb); have B18 := ak_ (qam B4_.out hb); have HS18 := ak_ (Kd.qdy HSA.out HB18.out); have hcL := c0_ B18.out; obtain ⟨ad, AR, cR, eR, hxR, hlR, hiR⟩ := qfI (Kd.S_reads' HS18.out).2.2 0 (by omega) (by have := HL0.out; omega); cases eR; (try rw [show ((0 : Int)).toNat = 0 from rfl] at hxR); (try rw [Addr.add_zero'] at hxR); rw [← HROW.out] at hxR hlR hiR; have HIR := ak_ hiR; have HLR := ak_ hlR; have qL_ : (0 < L.length) = True := eq_true HL0.out; have qLz_ : ((0 : Int) < (L.length : Int)) = True := eq_true (by have := HL0.out; omega); clear hiR hlR; clear ho hb hc4 hf4) | ((with_reducible refine qb7 (b := .append) (xs := #[.tmp 18, .tmp 21]) rfl ?_); at_builtin; refine Kd.qfG qa1 (w0 := wA) wA.heap.size rfl (.tmp 18) (.tmp 21) 24 33 (.agg #[(.int .i64 0), (.int .i64 0)]) 16 rfl Tryz.underlying24 qc1 rfl (by decide) (by omega) v18 ([] : List qaj) row _ _ _ (fun k_ => k_ ≠ g4) (fun _ => False) rfl rfl ?aO ?aR (fun _ _ h => h) (fun _ h => h.elim) ?aF ?aB ?aS ?aL ?_; (case aO => exact Kd.qaT (Kd.qgo HL18.out B18.out (by decide)) (fun _ hk => hk.2)); (case aF => exact (fun k_ hk => by have := qdK B18.out; omega)); (case aR => exact HIR.out); (case aB => exact HB18.out); (case aS => exact qal HB18.out); (case aL => have h_ := HLB.out; rw [← HROW.out] at h_; simp only [List.length_nil]; omega); intro v22 w22 ho hb hg_ hat_; simp only [List.nil_append] at ho; have B22 := ak_ (qev B18.out hg_ (fun e_ => by have := Kd.qsH HL18.out B18.out (by decide); exact this e_)); clear hg_ hat_; have HL22 := ak_ ho; have HB22 := ak_ hb; have HS22 := ak_ (Kd.qdy HSA.out hb); clear HL18 HB18 HS18 hcL hxR HIR HLR ho hb; obtain ⟨A22, c22, e22⟩ := Kd.qbz HL22.out; subst e22) | ((with_reducible refine qad (f := 37) rfl ?_); refine gl_ 24 Tryz.func37 #[.slice A22 row.length c22, .func (.func 38) #[] #[.pointer (some ⟨g4, 0, none⟩)]] rfl qeU ?_; refine (qjF (fun x => L.any (qfN k x)) 38 #[.pointer (some ⟨g4, 0, none⟩)] (enters_of Tryz.func38 (by kernel_rfl) rfl) A22 c22 wA.heap.size (fun k_ => k_ ≠ g4) row _ HB22.out.size HL22.out ?sP).mono ?_; (case sP => exact (fun W_ x hx hg_ => qqv k L x g4 (some ad) cL _ _ W_ (Kd.S_grown HS22.out hg_ (fun k_ hk_ e_ => by have h1_ := Kd.qcY HL22.out k_ e_.symm; omega)) ((qaO (qev B22.out hg_ (fun e_ => HL22.out.1 g4 e_.symm rfl)) 0).trans rfl) (fun a ha => by have h_ := List.all_eq_true.1 HSO.out x (by rw [← HROW.out]; exact hx); exact List.all_eq_true.1 h_ a ha))); rintro e w24 ⟨rfl, hR_, hg_⟩; refine ⟨_, rfl, ?_⟩; have HBx := ak_ (HB22.out.grown hg_ HB22.out.size (Kd.qcY HL22.out)); have HR24 := ak_ hR_; clear hR_ hg_ HL22 HB22 B22 HS22))
    have h_ := HFIN.out; simp only [Option.some.injEq, Prod.mk.injEq] at h_; obtain ⟨rfl, rfl⟩ := h_
    go_ret2
    exact ⟨_, rfl, Kd.qaT (Kd.qbv HR24.out (Nat.le_trans HBA.out.size (Nat.le_refl _))) (fun _ _ => trivial), qac HBA.out HBx.out⟩
section
attribute [local go_sem] qfb qfd qfX qfY qex qey qfc qfe
attribute [local go_sem high] qoO
def qbO.l0 : Nat → List (qaj) → Int → Int → Int → Int → Option (Bool)
 | 0, _, _, _, _, _ => none
 | k + 1, x7, x8, x9, qel, qeC => if x9 < x8 then (if 0 ≤ x9 then (if x9 < (x7.length : Int) then (if (((qab x7 x9).f0) == qel && (((qab x7 x9).f1) == qeC)) = true then (some true) else (qbO.l0 k x7 x8 (wrap64 (x9 + 1)) qel qeC)) else (none)) else (none)) else (some false)
def qbO.f (k : Nat) (l0 : List (qaj)) (qc5 : Int) (qdD : Int) : Option (Bool) := qbO.l0 k l0 (l0.length : Int) 0 qc5 qdD
theorem qbO.calls (k : Nat) (A0 : Option Addr) (c0 : Nat) (l0 : List (qaj)) (qc5 : Int) (qdD : Int) (r : Bool) (w : World) (hr0 : Kd.C qa1 w A0 l0.length l0) (hc0 : l0.length ≤ c0) (h : qbO.f k l0 qc5 qdD = some r) :
  Calls Tryz.prog 42 #[.slice A0 l0.length c0, .agg #[.int .i64 qc5, .int .i64 qdD]] w fun e w' => e = .returned (.bool r) ∧ Below w.heap.size w w' := by
 have qkB := Tryz.underlying33; have HR0 := ak_ hr0; have HC0 := ak_ hc0; clear hr0 hc0; have HB := ak_ (Below.refl w.heap.size w); have H : (qbO.l0 k l0 (l0.length : Int) 0 qc5 qdD) = some r := h; clear h; have H' := ak_ H; clear H; go_enter Tryz.func42, Tryz.ntmps42
 go_wp2_with (first | ((with_reducible refine qas (N := 3) rfl ?_); refine bx_ 3 (cs := #[.int .i64 qc5, .int .i64 qdD]) (t := 33) qa0 ?_; intro qaR hg w3 hbox hb; have qai := ak_ (hbox); have qcy := ak_ (HB.ge hg); have qcd := ak_ (HB.ge hg); replace HB := HB.mw hb; clear hb hbox hg))
 go_loopg [9] k (fun kq v9 w' => ∃ (qdg : Int), v9 = .int .i64 qdg ∧ qah (qbO.l0 kq l0 (l0.length : Int) qdg qc5 qdD = some r) ∧ qah (kq ≤ k) ∧ qah (w'.heap[qaR]? = some (.cells #[.int .i64 qc5, .int .i64 qdD] 33 (0, 0))) ∧ qah (Below w.heap.size w w'))
 case atStart => exact ⟨(0), qbf, H', ⟨Nat.le_refl _⟩, ⟨qce⟩, ⟨qaM⟩⟩
 case round =>
  clear H'; obtain ⟨qdg, rfl, HA, HK1, qai, HB⟩ := hrel
  cases gk with
  | zero => exact absurd HA.out (by simp [qbO.l0])
  | succ k1 =>
   have H := HA.out; clear HA; simp only [qbO.l0] at H; by_cases c4 : qdg < (l0.length : Int); rotate_left
   ·rw [if_neg c4] at H; have qhC : decide (qdg < (l0.length : Int)) = false := decide_eq_false c4; clear c4; obtain rfl := Option.some.inj H; go_wp2
    go_ret
    exact ⟨qbu, qaM⟩
   rw [if_pos c4] at H; have qhC : decide (qdg < (l0.length : Int)) = true := decide_eq_true c4; clear c4; by_cases c5 : 0 ≤ qdg; rotate_left
   ·rw [if_neg c5] at H; exact absurd H (by simp)
   rw [if_pos c5] at H; have qi5 : decide (0 ≤ qdg) = true := decide_eq_true c5; clear c5; by_cases c6 : qdg < (l0.length : Int); rotate_left
   ·rw [if_neg c6] at H; exact absurd H (by simp)
   rw [if_pos c6] at H; have qkk : decide (qdg < (l0.length : Int)) = true := decide_eq_true c6; clear c6; by_cases c7 : (((qab l0 qdg).f0) == qc5 && (((qab l0 qdg).f1) == qdD)) = true
   ·rw [if_pos c7] at H; have qiF : (((qab l0 qdg).f0) == qc5 && (((qab l0 qdg).f1) == qdD)) = true := c7; (try (have qmO : decide (((qab l0 qdg).f0) = qc5 && (((qab l0 qdg).f1) == qdD)) = true := by simpa using c7)); (try (have c7b2 : (((qab l0 qdg).f0) == qc5 && (((qab l0 qdg).f1) == qdD)) = true := by simpa using c7)); clear c7; obtain rfl := Option.some.inj H; have qhk : 0 ≤ (qdg : Int) := of_decide_eq_true qa7; have qhl : qdg < (l0.length : Int) := of_decide_eq_true qa7; obtain ⟨qnu, qnJ, qdt, qdF⟩ := qcn HR0.out qdg qhk qhl
    cases qnJ
    replace qdt := (HB.out.cell (World.block_lt_of_cell? w _ qdt)).trans qdt; replace qdF := (HB.out.cell (World.block_lt_of_cell? w _ qdF)).trans qdF; replace qhk := eq_true qhk; replace qhl := eq_true qhl
    go_wp2_with (first | ((with_reducible refine qas (N := 6) rfl ?_); refine bx_ 6 (cs := #[.int .i64 0, .int .i64 0]) (t := 33) qa0 ?_; intro qlp hg w8 hbox hb; have qpI := ak_ (hbox); have GW103 := ak_ ((by rw [hg]; exact (qal qaM) : w.heap.size ≤ qlp)); have qpJ := ak_ ((by rw [hg]; exact (qal qaM) : w.heap.size ≤ qlp)); replace HB := ak_ (qac qaM hb); have qfE := ak_ (qai.ne hg); have qgl := ak_ (qai.ne hg).symm; replace qai := qai.mw hb; clear hb hbox hg; have hnb9 := qgl.out; have hnc9 := qfE.out; obtain ⟨qiI, qiJ, qiQ, qiR⟩ := g2_ qpI.out; obtain ⟨qgs, qgt, qgu, qgv⟩ := g2_ qai.out))
    go_ret
    exact ⟨qbu, by apply_rules only [HB.out, qau, qao, qap, qaw, qcd.out, qpJ.out]⟩
   rw [if_neg c7] at H
   have qiF : (((qab l0 qdg).f0) == qc5 && (((qab l0 qdg).f1) == qdD)) = false := by simpa using c7
   (try (have qmO : decide (((qab l0 qdg).f0) = qc5 && (((qab l0 qdg).f1) == qdD)) = false := by simpa using c7)); (try (have c7b2 : (((qab l0 qdg).f0) == qc5 && (((qab l0 qdg).f1) == qdD)) = false := by simpa using c7)); (try (have c7b3 : ¬ (((qab l0 qdg).f0) = qc5 && (((qab l0 qdg).f1) == qdD)) := by simpa using c7)); clear c7; have H' := ak_ H; clear H; have qhk : 0 ≤ (qdg : Int) := of_decide_eq_true qa7; have qhl : qdg < (l0.length : Int) := of_decide_eq_true qa7; obtain ⟨qnu, qnJ, qdt, qdF⟩ := qcn HR0.out qdg qhk qhl
   cases qnJ
   replace qdt := (HB.out.cell (World.block_lt_of_cell? w _ qdt)).trans qdt; replace qdF := (HB.out.cell (World.block_lt_of_cell? w _ qdF)).trans qdF; replace qhk := eq_true qhk; replace qhl := eq_true qhl
   go_wp2_with (first | ((with_reducible refine qas (N := 6) rfl ?_); refine bx_ 6 (cs := #[.int .i64 0, .int .i64 0]) (t := 33) qa0 ?_; intro qlp hg w12 hbox hb; have qpI := ak_ (hbox); have GW103 := ak_ ((by rw [hg]; exact (qal qaM) : w.heap.size ≤ qlp)); have qpJ := ak_ ((by rw [hg]; exact (qal qaM) : w.heap.size ≤ qlp)); replace HB := ak_ (qac qaM hb); have qfE := ak_ (qai.ne hg); have qgl := ak_ (qai.ne hg).symm; replace qai := qai.mw hb; clear hb hbox hg; have hnb13 := qgl.out; have hnc13 := qfE.out; obtain ⟨qjI, qjJ, qjO, qjP⟩ := g2_ qpI.out; obtain ⟨qiK, qiL, qiS, qiT⟩ := g2_ qai.out))
   go_roundg k1
   case measure => have := HK1.out; omega
   case rel => exact ⟨(wrap64 (qdg + 1)), qbf, H', ⟨qgi⟩, ⟨k26_⟩, ⟨by apply_rules only [HB.out, qau, qao, qap, qaw, qcd.out, qpJ.out]⟩⟩
end
def qfs (k : Nat) (x : qaj) (a : List qaj) : Bool := qbO.f k a x.f0 x.f1 == some true
def qcH.f (k : Nat) (qax : ByteArray) (qaZ : Int) : Option (List qaj × Bool) := (qa9.f k qax qaZ).bind fun b => if b.2 = true then (if b.1.length = 0 then some ([], false) else (if (qar b.1 0).length < 8796093022207 ∧ ((qar b.1 0).all fun x => b.1.all fun a => (qbO.f k a x.f0 x.f1).isSome) = true then some ((qar b.1 0).filter (fun x => b.1.all (qfs k x)), true) else none)) else some ([], false)
theorem quf (l : List qaj) (p : qaj → Bool) (j : Nat) (h : j < l.length) : (l.take (j + 1)).filter p = (l.take j).filter p ++ (if p (qab l (j : Int)) = true then [qab l (j : Int)] else []) := by
  rw [List.take_succ_eq_append_getElem h, List.filter_append]
  congr 1
  have e_ : qab l (j : Int) = l[j] := by simp [qab, List.getD, h]
  rw [e_]; by_cases c : p l[j] = true
  ·rw [if_pos c, List.filter_cons, if_pos c, List.filter_nil]
  rw [if_neg c, List.filter_cons, if_neg c, List.filter_nil]
theorem sure_all (L : List (List qaj)) (p : List qaj → Bool) (j : Nat) (h : j < L.length) : (L.take (j + 1)).all p = ((L.take j).all p && p (qar L (j : Int))) := by
  rw [List.take_succ_eq_append_getElem h, List.all_append, show qar L (j : Int) = L[j] by simp [qar, List.getD, h]]
  simp
theorem qcH.calls (k : Nat) (qax : ByteArray) (qaZ : Int) (r1 : List qaj) (r2 : Bool) (w : World) (h : qcH.f k qax qaZ = some (r1, r2)) :
    Calls Tryz.prog 12 #[.agg #[.string qax, .int .i64 qaZ]] w fun e w' => ∃ v0_ : Value, e = .returned (.tuple #[v0_, .bool r2]) ∧ Kd.R qa1 33 w' w.heap.size (fun _ => True) v0_ r1 ∧ Below w.heap.size w w' := by
  have hu := Tryz.underlying23; have hu2 := Tryz.underlying33; unfold qcH.f at h; replace h := Option.bind_eq_some_iff.mp h; obtain ⟨⟨L, t⟩, A0_, h⟩ := h; have A1 := ak_ A0_; clear A0_; replace h : (if t = true then (if L.length = 0 then some ([], false) else (if (qar L 0).length < 8796093022207 ∧ ((qar L 0).all fun x => L.all fun a => (qbO.f k a x.f0 x.f1).isSome) = true then some ((qar L 0).filter (fun x => L.all (qfs k x)), true) else none)) else some ([], false)) = some (r1, r2) := h
  cases t with
  | false =>
    rw [if_neg (by decide)] at h; simp only [Option.some.injEq, Prod.mk.injEq] at h; obtain ⟨rfl, rfl⟩ := h; go_enter Tryz.func12, Tryz.ntmps12
    go_wp2_with (first | ((with_reducible refine qas (N := 1) rfl ?_); (try (refine qav (by rfl) ?_; dsimp only)); refine bx_ 1 (cs := #[.string qax, .int .i64 qaZ]) (t := 23) qa0 ?_; intro gP hg w1 hbox hb; have BP1 := ak_ hbox; have HB1 := ak_ hb; have qnN : w1.cell? ⟨gP, 0, none⟩ = some (.string qax) := (qaO hbox 0).trans rfl; have qnO : w1.cell? ⟨gP, 1, none⟩ = some (.int .i64 qaZ) := (qaO hbox 1).trans rfl; clear hbox hb hg) | ((with_reducible refine qad (f := 36) rfl ?_); refine gl_ 14 Tryz.func36 #[.agg #[.string qax, .int .i64 qaZ]] rfl qeU ?_; (with_reducible refine (qa9.calls k qax qaZ L false _ A1.out).mono ?_); rintro e wA ⟨v8, rfl, ho, hb⟩; refine ⟨_, rfl, ?_⟩; have HBA := ak_ (qac HB1.out hb); obtain ⟨AL, cL, eL⟩ := Kd.qcR ho; subst eL; have HSA := ak_ ho; clear ho hb qnN qnO BP1 HB1))
    go_ret2
    exact ⟨_, rfl, Kd.qki _ _ _ _ _, HBA.out⟩
  | true =>
    rw [if_pos rfl] at h; by_cases c1_ : L.length = 0
    ·rw [if_pos c1_] at h; simp only [Option.some.injEq, Prod.mk.injEq] at h; obtain ⟨rfl, rfl⟩ := h; have c1b : ((L.length : Int) == 0) = true := beq_iff_eq.2 (by omega); clear c1_; go_enter Tryz.func12, Tryz.ntmps12
     go_wp2_with (first | ((with_reducible refine qas (N := 1) rfl ?_); (try (refine qav (by rfl) ?_; dsimp only)); refine bx_ 1 (cs := #[.string qax, .int .i64 qaZ]) (t := 23) qa0 ?_; intro gP hg w1 hbox hb; have BP1 := ak_ hbox; have HB1 := ak_ hb; have qnN : w1.cell? ⟨gP, 0, none⟩ = some (.string qax) := (qaO hbox 0).trans rfl; have qnO : w1.cell? ⟨gP, 1, none⟩ = some (.int .i64 qaZ) := (qaO hbox 1).trans rfl; clear hbox hb hg) | ((with_reducible refine qad (f := 36) rfl ?_); refine gl_ 14 Tryz.func36 #[.agg #[.string qax, .int .i64 qaZ]] rfl qeU ?_; (with_reducible refine (qa9.calls k qax qaZ L true _ A1.out).mono ?_); rintro e wA ⟨v8, rfl, ho, hb⟩; refine ⟨_, rfl, ?_⟩; have HBA := ak_ (qac HB1.out hb); obtain ⟨AL, cL, eL⟩ := Kd.qcR ho; subst eL; have HSA := ak_ ho; clear ho hb qnN qnO BP1 HB1))
     go_ret2
     exact ⟨_, rfl, Kd.qki _ _ _ _ _, HBA.out⟩
    rw [if_neg c1_] at h; have c1b : ((L.length : Int) == 0) = false := beq_eq_false_iff_ne.2 (by omega); have HL0 := ak_ (Nat.pos_of_ne_zero c1_); by_cases c2_ : (qar L 0).length < 8796093022207 ∧ ((qar L 0).all fun x => L.all fun a => (qbO.f k a x.f0 x.f1).isSome) = true; rotate_left
    ·rw [if_neg c2_] at h; exact absurd h (by simp)
    rw [if_pos c2_] at h
    obtain ⟨row, hrow⟩ : ∃ l_, l_ = qar L 0 := ⟨_, rfl⟩
    rw [← hrow] at h c2_; have HLB := ak_ c2_.1; have HSO := ak_ c2_.2; have HROW := ak_ hrow; have HFIN := ak_ h; clear h c2_ c1_ hrow; go_enter Tryz.func12, Tryz.ntmps12
    go_wp2_with (first | ((with_reducible refine qas (N := 1) rfl ?_); (try (refine qav (by rfl) ?_; dsimp only)); refine bx_ 1 (cs := #[.string qax, .int .i64 qaZ]) (t := 23) qa0 ?_; intro gP hg w1 hbox hb; have BP1 := ak_ hbox; have HB1 := ak_ hb; have qnN : w1.cell? ⟨gP, 0, none⟩ = some (.string qax) := (qaO hbox 0).trans rfl; have qnO : w1.cell? ⟨gP, 1, none⟩ = some (.int .i64 qaZ) := (qaO hbox 1).trans rfl; clear hbox hb hg) | ((with_reducible refine qad (f := 36) rfl ?_); refine gl_ 14 Tryz.func36 #[.agg #[.string qax, .int .i64 qaZ]] rfl qeU ?_; (with_reducible refine (qa9.calls k qax qaZ L true _ A1.out).mono ?_); rintro e wA ⟨v8, rfl, ho, hb⟩; refine ⟨_, rfl, ?_⟩; have HBA := ak_ (qac HB1.out hb); obtain ⟨AL, cL, eL⟩ := Kd.qcR ho; subst eL; have HSA := ak_ ho; clear ho hb qnN qnO BP1 HB1; have HLL := ak_ (show L.length ≤ 9223372036854775807 from Kd.qri (Kd.S_reads' HSA.out).2.2); obtain ⟨ad, AR, cR, eR, hxR, hlR, hiR⟩ := qfI (Kd.S_reads' HSA.out).2.2 0 (by omega) (by have := HL0.out; omega); cases eR; (try rw [show ((0 : Int)).toNat = 0 from rfl] at hxR); (try rw [Addr.add_zero'] at hxR); rw [← HROW.out] at hxR hlR hiR; have HIR := ak_ hiR; have qL_ : (0 < L.length) = True := eq_true HL0.out; have qLz_ : ((0 : Int) < (L.length : Int)) = True := eq_true (by have := HL0.out; omega); clear hiR hlR))
    go_loopg [6, 28] row.length (fun gg v6 v28 wx => ∃ i : Nat, v28 = .int .i64 i ∧ i ≤ row.length ∧ row.length - i ≤ gg ∧ qah (Kd.R qa1 33 wx wA.heap.size (fun _ => True) v6 ((row.take i).filter (fun x => L.all (qfs k x)))) ∧ qah (Below wA.heap.size wA wx))
    case atStart => exact ⟨0, rfl, Nat.zero_le _, Nat.le_refl _, ⟨Kd.qki _ _ _ _ _⟩, ⟨Below.refl _ _⟩⟩
    case round =>
      clear hxR; obtain ⟨i, rfl, hi, hgg, HO, HW⟩ := hrel; have hjb : row.length < 8796093022207 := HLB.out; by_cases hlt : i < row.length; rotate_left
      ·obtain rfl : i = row.length := by omega
       have c1y : decide ((row.length : Int) < (row.length : Int)) = false := decide_eq_false (by omega); have c1c : decide (row.length < row.length) = false := decide_eq_false (by omega); have h_ := HFIN.out; simp only [Option.some.injEq, Prod.mk.injEq] at h_; obtain ⟨rfl, rfl⟩ := h_; have HR := ak_ (show Kd.R qa1 33 wr wA.heap.size (fun _ => True) u6 (row.filter (fun x => L.all (qfs k x))) by have h2_ := HO.out; rw [List.take_length] at h2_; exact h2_); go_wp2
       go_ret2
       exact ⟨_, rfl, Kd.qbv HR.out HBA.out.size, qac HBA.out HW.out⟩
      have c1z : (i : Int) < (row.length : Int) := by omega
      have c1y : decide ((i : Int) < (row.length : Int)) = true := decide_eq_true c1z; have c1c : decide (i < row.length) = true := decide_eq_true hlt; obtain ⟨ad2, e_, hx0, hx1⟩ := qcn (Kd.qeo HIR.out HW.out) (i : Int) (by omega) (by omega)
      cases e_
      simp only [Int.toNat_natCast] at hx0 hx1; have HT := ak_ (quf row (fun x => L.all (qfs k x)) i hlt); have HXM := ak_ (show ∀ a ∈ L, (qbO.f k a (qab row (i : Int)).f0 (qab row (i : Int)).f1).isSome = true from fun a ha => List.all_eq_true.1 (List.all_eq_true.1 HSO.out (qab row (i : Int)) (by rw [show qab row (i : Int) = row[i] by simp [qab, List.getD, hlt]]; exact List.getElem_mem hlt)) a ha)
      obtain ⟨x, hx_⟩ : ∃ x_, x_ = qab row (i : Int) := ⟨_, rfl⟩
      rw [← hx_] at hx0 hx1 HT HXM; clear hx_
      obtain ⟨Y, hY⟩ : ∃ l_, l_ = (row.take i).filter (fun x => L.all (qfs k x)) := ⟨_, rfl⟩
      have HYL := ak_ (show Y.length ≤ row.length by rw [hY]; exact Nat.le_trans (List.length_filter_le _ _) (by rw [List.length_take]; omega)); have HO1 := ak_ (show Kd.R qa1 33 wr wA.heap.size (fun _ => True) u6 Y by rw [hY]; exact HO.out); have HY := ak_ hY; clear hY HO
      go_wp2_with (first | ((with_reducible refine qas (N := 8) rfl ?_); (try (refine qav (by rfl) ?_; dsimp only)); refine bx_ 8 (cs := #[.int .i64 0, .int .i64 0]) (t := 33) qa0 ?_; intro g8 hg w20 hbox hb; have BK := ak_ hbox; have HB0 := ak_ hb; have G8 := ak_ hg; have qr2 : w20.cell? ⟨g8, 0, none⟩ = some (.int .i64 0) := (qaO hbox 0).trans rfl; have qr3 : w20.cell? ⟨g8, 1, none⟩ = some (.int .i64 0) := (qaO hbox 1).trans rfl; have qr4 := qaU hbox 0; have qr5 := qaU hbox 1; clear hbox hb hg))
      have BK8 := ak_ (show ((w20.setCell ⟨g8, 0, none⟩ (.int .i64 x.f0)).setCell ⟨g8, 1, none⟩ (.int .i64 x.f1)).heap[g8]? = _ from qaQ (cs' := #[.int .i64 x.f0, .int .i64 x.f1]) (qaQ (cs' := #[.int .i64 x.f0, .int .i64 0]) BK.out 0 _ rfl) 1 _ rfl); have qsg := ak_ (show Below wr.heap.size wr ((w20.setCell ⟨g8, 0, none⟩ (.int .i64 x.f0)).setCell ⟨g8, 1, none⟩ (.int .i64 x.f1)) from qaw (qaw HB0.out (Nat.le_of_eq G8.out.symm)) (Nat.le_of_eq G8.out.symm)); clear qr2 qr3 qr4 qr5 BK HB0
      generalize ((w20.setCell ⟨g8, 0, none⟩ (.int .i64 x.f0)).setCell ⟨g8, 1, none⟩ (.int .i64 x.f1)) = w8 at BK8 qsg ⊢
      have hcA := c0_ BK8.out; have hcB := c1_ BK8.out; have HO8 := ak_ (Kd.qbk (Kd.qcN HO1.out g8 (Nat.le_of_eq G8.out.symm)) qsg.out); have HB8 := ak_ (qac HW.out qsg.out); clear HO1
      go_loopg [9, 34] L.length (fun gb v9 v34 wx => ∃ j : Nat, v34 = .int .i64 j ∧ v9 = .bool ((L.take j).all (qfs k x)) ∧ j ≤ L.length ∧ L.length - j ≤ gb ∧ qah (Below w8.heap.size w8 wx))
      case atStart => exact ⟨0, rfl, rfl, Nat.zero_le _, Nat.le_refl _, ⟨Below.refl _ _⟩⟩
      case round =>
        clear hcA hcB; obtain ⟨j, rfl, rfl, hj, hgb, HW2⟩ := hrel; have BKr := ak_ (qam BK8.out HW2.out); have hcA := c0_ BKr.out; have hcB := c1_ BKr.out; have hLb : L.length ≤ 9223372036854775807 := HLL.out; by_cases hlt2 : j < L.length; rotate_left
        ·obtain rfl : j = L.length := by omega
         have c2y : decide ((L.length : Int) < (L.length : Int)) = false := decide_eq_false (by omega); have c2c : decide (L.length < L.length) = false := decide_eq_false (by omega); rw [List.take_length]; have HO9 := ak_ (Kd.qbk HO8.out HW2.out); have HB9 := ak_ (qac HB8.out HW2.out)
         cases hsure : L.all (qfs k x) with
         | true =>
           have HSU := ak_ hsure; clear hsure
           go_wp2_with (first | ((with_reducible refine qb7 (b := .append) (xs := #[.tmp 46, .tmp 48]) rfl ?_); at_builtin; refine Kd.qe9 qa1 (w0 := wA) wA.heap.size rfl (.tmp 46) (.tmp 48) 24 33 (.agg #[(.int .i64 0), (.int .i64 0)]) 16 rfl Tryz.underlying24 qc1 rfl (by decide) (by omega) u6 Y x [.int .i64 x.f0, .int .i64 x.f1] (fun k_ => k_ ≠ g8) (fun _ => False) rfl rfl ?aP (fun _ hk => hk.elim) ?aF ?aO ?aB ?aS ?aL ?_; (case aP => exact qdm _ _ _ x); (case aB => exact (by repeat (first | (with_reducible first | exact HB9.out | apply qau | apply qao | apply qap) | exact HB9.out))); (case aF => exact (fun k_ hk => Kd.qoT (g := g8) (by (with_reducible repeat (first | refine qag ?_ _ | refine qae ?_ | refine qaf ?_ _)); exact BKr.out) k_ hk)); (case aO => exact (by (with_reducible repeat (first | apply Kd.qaA | apply Kd.qaz | apply Kd.qaL)); exact Kd.qaT HO9.out (fun _ hk => hk.2))); (case aS => exact (qal (by repeat (first | (with_reducible first | exact HB9.out | apply qau | apply qao | apply qap) | exact HB9.out)))); (case aL => have h_ := HLB.out; have h2_ := HYL.out; omega); intro v45 w11 ho hb hg hat; have HOB := ak_ ho; have HBN := ak_ hb; clear ho hb hg hat))
           go_roundg (row.length - (i + 1))
           case measure => omega
           case rel => exact ⟨i + 1, by go_num, by omega, Nat.le_refl _, ⟨by rw [HT.out, if_pos HSU.out, ← HY.out]; exact Kd.qaT HOB.out (fun _ _ => trivial)⟩, HBN⟩
         | false =>
           have HSU := ak_ hsure; clear hsure; go_wp2
           go_roundg (row.length - (i + 1))
           case measure => omega
           case rel => exact ⟨i + 1, by go_num, by omega, Nat.le_refl _, ⟨by rw [HT.out, if_neg (by rw [HSU.out]; decide), List.append_nil, ← HY.out]; exact Kd.qaT HO9.out (fun _ _ => trivial)⟩, HB9⟩
        have c2z : (j : Int) < (L.length : Int) := by omega
        have c2y : decide ((j : Int) < (L.length : Int)) = true := decide_eq_true c2z; have c2c : decide (j < L.length) = true := decide_eq_true hlt2; obtain ⟨ad3, A3, c3, e3_, hx3, hl3, hi3⟩ := qfI (Kd.S_reads' (Kd.qdy HSA.out (qac HB8.out HW2.out))).2.2 (j : Int) (by omega) (by omega)
        cases e3_
        simp only [Int.toNat_natCast] at hx3; have HC3 := ak_ hi3; have HL3 := ak_ hl3; obtain ⟨b, hb_⟩ : ∃ b, qbO.f k (qar L (j : Int)) x.f0 x.f1 = some b := Option.isSome_iff_exists.1 (HXM.out _ (by rw [show qar L (j : Int) = L[j] by simp [qar, List.getD, hlt2]]; exact List.getElem_mem hlt2)); have HA3 := ak_ hb_; have HS3 := ak_ (sure_all L (qfs k x) j hlt2); have HP3 := ak_ (show qfs k x (qar L (j : Int)) = b by unfold qfs; rw [hb_]; cases b <;> rfl); clear hi3 hl3 hb_
        obtain ⟨row3, hrow3⟩ : ∃ l_, l_ = qar L (j : Int) := ⟨_, rfl⟩
        rw [← hrow3] at HC3 HL3 HA3 HS3 HP3 hx3; clear hrow3
        cases hsure : (L.take j).all (qfs k x) with
        | true =>
          have HSU := ak_ hsure; clear hsure
          go_wp2_with (first | ((with_reducible refine qad (f := 42) rfl ?_); (try (refine qav (by rfl) ?_; dsimp only)); refine gl_ 42 Tryz.func42 #[.slice A3 row3.length c3, .agg #[.int .i64 x.f0, .int .i64 x.f1]] rfl qeU ?_; (with_reducible refine (qbO.calls k _ _ row3 x.f0 x.f1 b _ ?qaB ?qaC HA3.out).mono ?_); (case qaB => exact HC3.out); (case qaC => exact HL3.out); rintro e wH ⟨rfl, hbH⟩; refine ⟨_, rfl, ?_⟩; have HBH := ak_ hbH; clear hbH))
          go_roundg (L.length - (j + 1))
          case measure => omega
          case rel => exact ⟨j + 1, by go_num, by rw [HS3.out, HSU.out, HP3.out]; rfl, by omega, Nat.le_refl _, ⟨qac HW2.out HBH.out⟩⟩
        | false =>
          have HSU := ak_ hsure; clear hsure; go_wp2
          go_roundg (L.length - (j + 1))
          case measure => omega
          case rel => exact ⟨j + 1, by go_num, by rw [HS3.out, HSU.out]; rfl, by omega, Nat.le_refl _, HW2⟩
def qco.f (k : Nat) (qax : ByteArray) (qaZ : Int) : Option ((List (qaj)) × Bool) := (qa6.f qax qaZ).bind fun qaF => (if qaF = true then ((qaW.f k qax).bind fun qaX => (some (qaX, true))) else (some (([] : List (qaj)), false)))
theorem qco.calls (k : Nat) (qax : ByteArray) (qaZ : Int) (r1 : List (qaj)) (r2 : Bool) (w : World) (h : qco.f k qax qaZ = some (r1, r2)) :
  Calls Tryz.prog 13 #[.agg #[.string qax, .int .i64 qaZ]] w fun e w' => ∃ v0_ : Value, e = .returned (.tuple #[v0_, .bool r2]) ∧ Kd.R qa1 33 w' w.heap.size (fun _ => True) v0_ r1 ∧ Below w.heap.size w w' := by
 have qis := Tryz.underlying23; have HB := ak_ (Below.refl w.heap.size w); have H : ((qa6.f qax qaZ).bind fun qaF => (if qaF = true then ((qaW.f k qax).bind fun qaX => (some (qaX, true))) else (some (([] : List (qaj)), false)))) = some (r1, r2) := h; clear h; obtain ⟨qaF, A2, H⟩ := qbg H; (try dsimp only at H); by_cases c3 : qaF = true
 ·subst c3; rw [if_pos rfl] at H; obtain ⟨qaX, A4, H⟩ := qbg H; (try dsimp only at H); simp only [Option.some.injEq, Prod.mk.injEq] at H; obtain ⟨rfl, rfl⟩ := H; go_enter Tryz.func13, Tryz.ntmps13
  go_wp2_with (first | ((with_reducible refine qas (N := 1) rfl ?_); refine bx_ 1 (cs := #[.string qax, .int .i64 qaZ]) (t := 23) qa0 ?_; intro qaR hg w5 hbox hb; have qai := ak_ (hbox); have qcy := ak_ (HB.ge hg); have qcd := ak_ (HB.ge hg); replace HB := HB.mw hb; clear hb hbox hg; obtain ⟨qjk, qjl, qka, qjn⟩ := g2_ qai.out) | ((with_reducible refine qad (f := 43) rfl ?_); refine gl_ 5 Tryz.func43 #[.agg #[.string qax, .int .i64 qaZ]] rfl qbH ?_; (with_reducible refine (qa6.calls qax qaZ true _ A2.out).mono ?_); rintro e w7 ⟨rfl, hb⟩; refine ⟨_, rfl, ?_⟩; replace qai := qai.mw hb; replace HB := ak_ (qac qaM hb); (try clear hb); obtain ⟨qgd, qge, qgw, qgf⟩ := g2_ qai.out) | ((with_reducible refine qad (f := 44) rfl ?_); refine gl_ 9 Tryz.func44 #[.string qax] rfl qbH ?_; (with_reducible refine (qaW.calls k qax qaX _ A4.out).mono ?_); rintro e w9 ⟨v104, rfl, ho0, hb⟩; refine ⟨_, rfl, ?_⟩; have qfC := ak_ (Kd.qbv ho0 (qal qaM)); replace qai := qai.mw hb; replace HB := ak_ (qac qaM hb); (try clear hb ho0)))
  go_ret2
  exact ⟨_, qbu, by (with_reducible repeat (first | apply Kd.qaA | apply Kd.qaz | apply Kd.qaL)); exact qfC.out, qaM⟩
 replace c3 := Bool.eq_false_iff.mpr c3; subst c3; rw [if_neg (show ¬ (false = true) by decide)] at H; simp only [Option.some.injEq, Prod.mk.injEq] at H; obtain ⟨rfl, rfl⟩ := H; go_enter Tryz.func13, Tryz.ntmps13
 go_wp2_with (first | ((with_reducible refine qas (N := 1) rfl ?_); refine bx_ 1 (cs := #[.string qax, .int .i64 qaZ]) (t := 23) qa0 ?_; intro qaR hg w10 hbox hb; have qai := ak_ (hbox); have qcy := ak_ (HB.ge hg); have qcd := ak_ (HB.ge hg); replace HB := HB.mw hb; clear hb hbox hg; obtain ⟨qgs, qgt, qgu, qgv⟩ := g2_ qai.out) | ((with_reducible refine qad (f := 43) rfl ?_); refine gl_ 5 Tryz.func43 #[.agg #[.string qax, .int .i64 qaZ]] rfl qbH ?_; (with_reducible refine (qa6.calls qax qaZ false _ A2.out).mono ?_); rintro e w12 ⟨rfl, hb⟩; refine ⟨_, rfl, ?_⟩; replace qai := qai.mw hb; replace HB := ak_ (qac qaM hb); (try clear hb)))
 go_ret2
 exact ⟨_, qbu, qr7, qaM⟩
def qb3.f (k : Nat) (qax : ByteArray) (qaZ : Int) : Option ((List (qaj)) × Bool) := (qbj.f k qax qaZ).bind fun qaF => (if qaF = true then ((qbx.f k qax).bind fun qaX => (some (qaX, true))) else (some (([] : List (qaj)), false)))
theorem qb3.calls (k : Nat) (qax : ByteArray) (qaZ : Int) (r1 : List (qaj)) (r2 : Bool) (w : World) (h : qb3.f k qax qaZ = some (r1, r2)) :
  Calls Tryz.prog 14 #[.agg #[.string qax, .int .i64 qaZ]] w fun e w' => ∃ v0_ : Value, e = .returned (.tuple #[v0_, .bool r2]) ∧ Kd.R qa1 33 w' w.heap.size (fun _ => True) v0_ r1 ∧ Below w.heap.size w w' := by
 have qis := Tryz.underlying23; have HB := ak_ (Below.refl w.heap.size w); have H : ((qbj.f k qax qaZ).bind fun qaF => (if qaF = true then ((qbx.f k qax).bind fun qaX => (some (qaX, true))) else (some (([] : List (qaj)), false)))) = some (r1, r2) := h; clear h; obtain ⟨qaF, A2, H⟩ := qbg H; (try dsimp only at H); by_cases c3 : qaF = true
 ·subst c3; rw [if_pos rfl] at H; obtain ⟨qaX, A4, H⟩ := qbg H; (try dsimp only at H); simp only [Option.some.injEq, Prod.mk.injEq] at H; obtain ⟨rfl, rfl⟩ := H; go_enter Tryz.func14, Tryz.ntmps14
  go_wp2_with (first | ((with_reducible refine qas (N := 1) rfl ?_); refine bx_ 1 (cs := #[.string qax, .int .i64 qaZ]) (t := 23) qa0 ?_; intro qaR hg w5 hbox hb; have qai := ak_ (hbox); have qcy := ak_ (HB.ge hg); have qcd := ak_ (HB.ge hg); replace HB := HB.mw hb; clear hb hbox hg; obtain ⟨qjk, qjl, qka, qjn⟩ := g2_ qai.out) | ((with_reducible refine qad (f := 45) rfl ?_); refine gl_ 5 Tryz.func45 #[.agg #[.string qax, .int .i64 qaZ]] rfl qbH ?_; (with_reducible refine (qbj.calls k qax qaZ true _ A2.out).mono ?_); rintro e w7 ⟨rfl, hb⟩; refine ⟨_, rfl, ?_⟩; replace qai := qai.mw hb; replace HB := ak_ (qac qaM hb); (try clear hb); obtain ⟨qgd, qge, qgw, qgf⟩ := g2_ qai.out) | ((with_reducible refine qad (f := 46) rfl ?_); refine gl_ 9 Tryz.func46 #[.string qax] rfl qbH ?_; (with_reducible refine (qbx.calls k qax qaX _ A4.out).mono ?_); rintro e w9 ⟨v104, rfl, ho0, hb⟩; refine ⟨_, rfl, ?_⟩; have qfC := ak_ (Kd.qbv ho0 (qal qaM)); replace qai := qai.mw hb; replace HB := ak_ (qac qaM hb); (try clear hb ho0)))
  go_ret2
  exact ⟨_, qbu, by (with_reducible repeat (first | apply Kd.qaA | apply Kd.qaz | apply Kd.qaL)); exact qfC.out, qaM⟩
 replace c3 := Bool.eq_false_iff.mpr c3; subst c3; rw [if_neg (show ¬ (false = true) by decide)] at H; simp only [Option.some.injEq, Prod.mk.injEq] at H; obtain ⟨rfl, rfl⟩ := H; go_enter Tryz.func14, Tryz.ntmps14
 go_wp2_with (first | ((with_reducible refine qas (N := 1) rfl ?_); refine bx_ 1 (cs := #[.string qax, .int .i64 qaZ]) (t := 23) qa0 ?_; intro qaR hg w10 hbox hb; have qai := ak_ (hbox); have qcy := ak_ (HB.ge hg); have qcd := ak_ (HB.ge hg); replace HB := HB.mw hb; clear hb hbox hg; obtain ⟨qgs, qgt, qgu, qgv⟩ := g2_ qai.out) | ((with_reducible refine qad (f := 45) rfl ?_); refine gl_ 5 Tryz.func45 #[.agg #[.string qax, .int .i64 qaZ]] rfl qbH ?_; (with_reducible refine (qbj.calls k qax qaZ false _ A2.out).mono ?_); rintro e w12 ⟨rfl, hb⟩; refine ⟨_, rfl, ?_⟩; replace qai := qai.mw hb; replace HB := ak_ (qac qaM hb); (try clear hb)))
 go_ret2
 exact ⟨_, qbu, qr7, qaM⟩
def qf9 (i : Nat) (x : qaj) : Bool := Int.tmod (wrap64 ((i : Int) + 1)) x.f0 != x.f1
def qca.l0 : Nat → ByteArray → List qaj → Nat → Option (Int × Int × Int × Bool)
  | 0, _, _, _ => none
  | k + 1, s, rules, i => if i < s.size then (if i < 1000000 then (if bt s i = 120 then (if rules.length < 8796093022207 ∧ rules.all (fun x => x.f0 != 0) = true then (if (rules.filter (fun x => !qf9 i x)).length = 1 then some (wrap64 ((i : Int) + 1), (qab (rules.filter (fun x => !qf9 i x)) 0).f0, (qab (rules.filter (fun x => !qf9 i x)) 0).f1, true) else qca.l0 k s rules (i + 1)) else none) else qca.l0 k s rules (i + 1)) else none) else some (0, 0, 0, false)
def qca.f (k : Nat) (qax : ByteArray) (qaZ : Int) : Option (Int × Int × Int × Bool) := (qa6.f qax qaZ).bind fun t => if t = true then ((qaW.f k qax).bind fun rules => qca.l0 k qax rules 0) else some (0, 0, 0, false)
theorem qlM (i : Nat) (B : Nat) (x : qaj) (W : World) (hx : x.f0 ≠ 0) (hn : W.cell? ⟨B, 0, none⟩ = some (.int .i64 (i : Int))) :
    Calls Tryz.prog 47 #[.agg #[.int .i64 x.f0, .int .i64 x.f1], .pointer (some ⟨B, 0, none⟩)] W fun e w' => e = .returned (.bool (qf9 i x)) ∧ Below W.heap.size W w' := by
  have hu := Tryz.underlying33; have h1 : (x.f0 == 0) = false := beq_eq_false_iff_ne.2 hx; have h2 : (x.f0 != 0) = true := bne_iff_ne.2 hx; have hB : B < W.heap.size := World.block_lt_of_cell? W _ hn; unfold qf9; go_enter Tryz.func47, Tryz.ntmps47; go_wp2
  go_quiet (fail)
  go_wp2
  go_ret
  exact ⟨rfl, qao (qau (Below.refl _ _) _) _⟩
theorem qca.calls (k : Nat) (qax : ByteArray) (qaZ : Int) (r1 r2 r3 : Int) (r4 : Bool) (w : World) (h : qca.f k qax qaZ = some (r1, r2, r3, r4)) :
    Calls Tryz.prog 15 #[.agg #[.string qax, .int .i64 qaZ]] w fun e w' => e = .returned (.tuple #[.int .i64 r1, .agg #[.int .i64 r2, .int .i64 r3], .bool r4]) ∧ Below w.heap.size w w' := by
  have hu := Tryz.underlying23; have hu2 := Tryz.underlying33; unfold qca.f at h; replace h := Option.bind_eq_some_iff.mp h; obtain ⟨t, A0_, h⟩ := h; have A1 := ak_ A0_; clear A0_
  cases t with
  | false =>
    rw [if_neg (by decide)] at h; simp only [Option.some.injEq, Prod.mk.injEq] at h; obtain ⟨rfl, rfl, rfl, rfl⟩ := h; go_enter Tryz.func15, Tryz.ntmps15
    go_wp2_with (first | ((with_reducible refine qas (N := 1) rfl ?_); (try (refine qav (by rfl) ?_; dsimp only)); refine bx_ 1 (cs := #[.string qax, .int .i64 qaZ]) (t := 23) qa0 ?_; intro gP hg w1 hbox hb; have BP1 := ak_ hbox; have HB1 := ak_ hb; have GP := ak_ (show w.heap.size ≤ gP by rw [hg]; exact Nat.le_refl _); have qnN : w1.cell? ⟨gP, 0, none⟩ = some (.string qax) := (qaO hbox 0).trans rfl; have qnO : w1.cell? ⟨gP, 1, none⟩ = some (.int .i64 qaZ) := (qaO hbox 1).trans rfl; clear hbox hb hg) | ((with_reducible refine qas (N := 3) rfl ?_); (try (refine qav (by rfl) ?_; dsimp only)); refine bx_ 3 (cs := #[.int .i64 0, .int .i64 0]) (t := 33) qa0 ?_; intro gQ hg w2 hbox hb; have BQ2 := ak_ hbox; have BP2 := ak_ (qam BP1.out hb); have HB2 := ak_ (qac HB1.out hb); have GQ := ak_ (show gP < gQ by rw [hg]; exact qdK BP1.out); have hcq0 := c0_ BP2.out; have hcq1 := c1_ BP2.out; clear qnN qnO BP1 HB1; clear hbox hb hg) | ((with_reducible refine qad (f := 43) rfl ?_); refine gl_ 9 Tryz.func43 #[.agg #[.string qax, .int .i64 qaZ]] rfl qeU ?_; (with_reducible refine (qa6.calls qax qaZ false _ A1.out).mono ?_); rintro e w3 ⟨rfl, hb⟩; refine ⟨_, rfl, ?_⟩; have BP3 := ak_ (qam BP2.out hb); have BQ3 := ak_ (qam BQ2.out hb); have HB3 := ak_ (qac HB2.out hb); have hcr0 := c0_ BP3.out; obtain ⟨qmw, qmx, qmu, qmv⟩ := g2_ BQ3.out; clear BP2 BQ2 HB2 hcq0 hcq1; clear hb))
    refine bodyPost_ret (qdU (rs := [.tmp 2, .cell 3 33, .tmp 4]) rfl (by simp) (.tmp (.cell gQ 33 #[.int .i64 0, .int .i64 0] (0, 0) _ rfl (by first | exact BQ3.out | exact qaQ (cs' := #[.int .i64 0, .int .i64 0]) (qaQ (cs' := #[.int .i64 0, .int .i64 0]) BQ3.out 0 _ rfl) 1 _ rfl) Tryz.underlying33 rfl (by kernel_rfl) (.tmp .nil)))) rfl ?_; exact ⟨rfl, by first | exact HB3.out | exact qaw (qaw HB3.out qks) qks⟩
  | true =>
    rw [if_pos rfl] at h; replace h := Option.bind_eq_some_iff.mp h; obtain ⟨rules, A0_, h⟩ := h; have A2 := ak_ A0_; have H' := ak_ h; clear A0_ h; go_enter Tryz.func15, Tryz.ntmps15
    go_wp2_with (first | ((with_reducible refine qas (N := 1) rfl ?_); (try (refine qav (by rfl) ?_; dsimp only)); refine bx_ 1 (cs := #[.string qax, .int .i64 qaZ]) (t := 23) qa0 ?_; intro gP hg w1 hbox hb; have BP1 := ak_ hbox; have HB1 := ak_ hb; have GP := ak_ (show w.heap.size ≤ gP by rw [hg]; exact Nat.le_refl _); have qnN : w1.cell? ⟨gP, 0, none⟩ = some (.string qax) := (qaO hbox 0).trans rfl; have qnO : w1.cell? ⟨gP, 1, none⟩ = some (.int .i64 qaZ) := (qaO hbox 1).trans rfl; clear hbox hb hg) | ((with_reducible refine qas (N := 3) rfl ?_); (try (refine qav (by rfl) ?_; dsimp only)); refine bx_ 3 (cs := #[.int .i64 0, .int .i64 0]) (t := 33) qa0 ?_; intro gQ hg w2 hbox hb; have BQ2 := ak_ hbox; have BP2 := ak_ (qam BP1.out hb); have HB2 := ak_ (qac HB1.out hb); have GQ := ak_ (show gP < gQ by rw [hg]; exact qdK BP1.out); have hcq0 := c0_ BP2.out; have hcq1 := c1_ BP2.out; clear qnN qnO BP1 HB1; clear hbox hb hg) | ((with_reducible refine qad (f := 43) rfl ?_); refine gl_ 9 Tryz.func43 #[.agg #[.string qax, .int .i64 qaZ]] rfl qeU ?_; (with_reducible refine (qa6.calls qax qaZ true _ A1.out).mono ?_); rintro e w3 ⟨rfl, hb⟩; refine ⟨_, rfl, ?_⟩; have BP3 := ak_ (qam BP2.out hb); have BQ3 := ak_ (qam BQ2.out hb); have HB3 := ak_ (qac HB2.out hb); have hcr0 := c0_ BP3.out; obtain ⟨qmw, qmx, qmu, qmv⟩ := g2_ BQ3.out; clear BP2 BQ2 HB2 hcq0 hcq1; clear hb) | ((with_reducible refine qad (f := 44) rfl ?_); refine gl_ 14 Tryz.func44 #[.string qax] rfl qeU ?_; (with_reducible refine (qaW.calls k qax rules _ A2.out).mono ?_); rintro e w4 ⟨v14, rfl, ho, hb⟩; refine ⟨_, rfl, ?_⟩; have BP4 := ak_ (qam BP3.out hb); have BQ4 := ak_ (qam BQ3.out hb); have HB4 := ak_ (qac HB3.out hb); obtain ⟨A5, c5, e5⟩ := Kd.qbz ho; subst e5; have HL4 := ak_ (Kd.qbv ho HB3.out.size); have hcs0 := c0_ BP4.out; clear BP3 BQ3 HB3 hcr0 qmw qmx qmu qmv; clear ho hb))
    go_loopg [18] k (fun kq v18 wx => ∃ i : Nat, v18 = .int .i64 i ∧ qah (qca.l0 kq qax rules i = some (r1, r2, r3, r4)) ∧ qah (kq ≤ k) ∧ qah (wx.heap[gP]? = some (.cells #[.string qax, .int .i64 qaZ] 23 (0, 0))) ∧ qah (wx.heap[gQ]? = some (.cells #[.int .i64 0, .int .i64 0] 33 (0, 0))) ∧ qah (Kd.R qa1 33 wx w.heap.size (fun _ => True) (.slice A5 rules.length c5) rules) ∧ qah (Below w.heap.size w wx))
    case atStart => exact ⟨0, rfl, H', ⟨Nat.le_refl _⟩, BP4, BQ4, HL4, HB4⟩
    case round =>
      clear H' BP4 BQ4 HL4 HB4 hcs0; obtain ⟨i, rfl, HA_, HK, BP, BQ, HL, HB⟩ := hrel; have hcP0 := c0_ BP.out
      cases gk with
      | zero => exact absurd HA_.out (by simp [qca.l0])
      | succ k1 =>
        have H := HA_.out; clear HA_; simp only [qca.l0] at H; by_cases c1_ : i < qax.size; rotate_left
        ·rw [if_neg c1_] at H; have c1b : decide ((i : Int) < (qax.size : Int)) = false := decide_eq_false (by omega); have c1c : decide (i < qax.size) = false := decide_eq_false c1_; clear c1_; simp only [Option.some.injEq, Prod.mk.injEq] at H; obtain ⟨rfl, rfl, rfl, rfl⟩ := H; obtain ⟨qmw, qmx, qmu, qmv⟩ := g2_ BQ.out; go_wp2; refine bodyPost_ret (qdU (rs := [.tmp 2, .cell 3 33, .tmp 4]) rfl (by simp) (.tmp (.cell gQ 33 #[.int .i64 0, .int .i64 0] (0, 0) _ rfl (qaQ (cs' := #[.int .i64 0, .int .i64 0]) (qaQ (cs' := #[.int .i64 0, .int .i64 0]) BQ.out 0 _ rfl) 1 _ rfl) Tryz.underlying33 rfl (by kernel_rfl) (.tmp .nil)))) rfl ?_; exact ⟨rfl, qaw (qaw HB.out qks) qks⟩
        rw [if_pos c1_] at H
        have c1z : (i : Int) < (qax.size : Int) := by omega
        have c1b : decide ((i : Int) < (qax.size : Int)) = true := decide_eq_true c1z; have c1c : decide (i < qax.size) = true := decide_eq_true c1_; have hbt : ∀ h : i < qax.size, ((qax[i]'h).toNat : Int) = bt qax i := qd7 qax (i : Int); by_cases c0_ : i < 1000000; rotate_left
        ·rw [if_neg c0_] at H; exact absurd H (by simp)
        rw [if_pos c0_] at H
        have c0z : (i : Int) < 1000000 := by omega
        by_cases c2_ : bt qax i = 120; rotate_left
        ·rw [if_neg c2_] at H; have c2b : (bt qax i != 120) = true := bne_iff_ne.2 c2_; have c2c : (bt qax i == 120) = false := beq_eq_false_iff_ne.2 c2_; clear c2_; have H' := ak_ H; clear H
         go_wp2_with (first | ((with_reducible refine qas (N := 6) rfl ?_); (try (refine qav (by rfl) ?_; dsimp only)); refine bx_ 6 (cs := #[.int .i64 0]) (t := 3) qa0 ?_; intro g6 hg w6 hbox hb; have B6_ := ak_ (show (w6.setCell ⟨g6, 0, none⟩ (.int .i64 (i : Int))).heap[g6]? = _ from qaQ (cs' := #[.int .i64 (i : Int)]) hbox 0 (.int .i64 (i : Int)) rfl); have qrY := ak_ (show Below wr.heap.size wr (w6.setCell ⟨g6, 0, none⟩ (.int .i64 (i : Int))) from qaw hb (Nat.le_of_eq hg.symm)); have hc6 : w6.cell? ⟨g6, 0, none⟩ = some (.int .i64 0) := (qaO hbox 0).trans rfl; have hf6 := qaU hbox 0; have hcP6 : w6.cell? ⟨gP, 0, none⟩ = some (.string qax) := (qaO (qam BP.out hb) 0).trans rfl; have hne6 : gP ≠ g6 := (by rw [hg]; exact Nat.ne_of_lt (qdK BP.out)); have hne6' : ¬ g6 = gP := fun e_ => hne6 e_.symm; clear hbox hb hg))
         go_roundg k1
         case measure => have := HK.out; omega
         case rel => exact ⟨i + 1, by go_num, H', ⟨by have := HK.out; omega⟩, ⟨qam BP.out qrY.out⟩, ⟨qam BQ.out qrY.out⟩, ⟨Kd.qbk HL.out qrY.out⟩, ⟨qac HB.out qrY.out⟩⟩
        rw [if_pos c2_] at H; have c2b : (bt qax i != 120) = false := bne_eq_false_iff_eq.2 c2_; have c2c : (bt qax i == 120) = true := beq_iff_eq.2 c2_; clear c2_; by_cases c3_ : rules.length < 8796093022207 ∧ rules.all (fun x => x.f0 != 0) = true; rotate_left
        ·rw [if_neg c3_] at H; exact absurd H (by simp)
        rw [if_pos c3_] at H; have HLB := ak_ c3_.1; have HNZ := ak_ c3_.2; clear c3_; by_cases c4_ : (rules.filter (fun x => !qf9 i x)).length = 1; rotate_left
        ·rw [if_neg c4_] at H; have H' := ak_ H; clear H
         obtain ⟨cr, hcr⟩ : ∃ l_, l_ = rules.filter (fun x => !qf9 i x) := ⟨_, rfl⟩
         rw [← hcr] at c4_; have HCR := ak_ hcr; have c4b : ((cr.length : Int) == 1) = false := beq_eq_false_iff_ne.2 (by omega); clear hcr c4_
         go_wp2_with (first | ((with_reducible refine qas (N := 6) rfl ?_); (try (refine qav (by rfl) ?_; dsimp only)); refine bx_ 6 (cs := #[.int .i64 0]) (t := 3) qa0 ?_; intro g6 hg w6 hbox hb; have B6_ := ak_ (show (w6.setCell ⟨g6, 0, none⟩ (.int .i64 (i : Int))).heap[g6]? = _ from qaQ (cs' := #[.int .i64 (i : Int)]) hbox 0 (.int .i64 (i : Int)) rfl); have qrY := ak_ (show Below wr.heap.size wr (w6.setCell ⟨g6, 0, none⟩ (.int .i64 (i : Int))) from qaw hb (Nat.le_of_eq hg.symm)); have hc6 : w6.cell? ⟨g6, 0, none⟩ = some (.int .i64 0) := (qaO hbox 0).trans rfl; have hf6 := qaU hbox 0; have hcP6 : w6.cell? ⟨gP, 0, none⟩ = some (.string qax) := (qaO (qam BP.out hb) 0).trans rfl; have hne6 : gP ≠ g6 := (by rw [hg]; exact Nat.ne_of_lt (qdK BP.out)); have hne6' : ¬ g6 = gP := fun e_ => hne6 e_.symm; clear hbox hb hg) | ((with_reducible refine qas (N := 26) rfl ?_); refine Kd.qgJ qa1 _ 33 ?hg (N := 26) ?hd (xs := ([] : List qaj)) (inner := []) (ok := fun _ => True) (okp := fun _ => True) ?hr ?hp (fun _ hk => hk) trivial (Below.refl _ _) (Nat.le_refl _) (by simp) ?_; (case hd => rfl); (case hg => rfl); (case hr => exact qa0); (case hp => exact qcg.none _ _); intro v26 w26 ho hb hg_ hnew_; clear hg_ hnew_; have HL0 := ak_ (Kd.qbv ho qrY.out.size); have HB26 := ak_ (qac qrY.out hb); have B26 := ak_ (qam B6_.out hb); clear ho hb hc6 hf6 hcP6) | ((with_reducible refine qb7 (b := .append) (xs := #[.tmp 26, .tmp 27]) rfl ?_); at_builtin; refine Kd.qfG qa1 (w0 := wr) wr.heap.size rfl (.tmp 26) (.tmp 27) 24 33 (.agg #[(.int .i64 0), (.int .i64 0)]) 16 rfl Tryz.underlying24 qc1 rfl (by decide) (by omega) v26 ([] : List qaj) rules _ _ _ (fun k_ => k_ ≠ g6) (fun _ => False) rfl rfl ?aO ?aR (fun _ _ h => h) (fun _ h => h.elim) ?aF ?aB ?aS ?aL ?_; (case aO => exact Kd.qaT (Kd.qgo HL0.out B26.out (by decide)) (fun _ hk => hk.2)); (case aF => exact (fun k_ hk => by have := qdK B26.out; omega)); (case aR => exact (Kd.R_reads' (Kd.qbk HL.out HB26.out)).2.2); (case aB => exact HB26.out); (case aS => exact qal HB26.out); (case aL => have h_ := HLB.out; simp only [List.length_nil]; omega); intro v28 w28 ho hb hg_ hat_; simp only [List.nil_append] at ho; have B28 := ak_ (qev B26.out hg_ (fun e_ => by have := Kd.qsH HL0.out B26.out (by decide); exact this e_)); clear hg_ hat_; have qrn := ak_ ho; have HB28 := ak_ hb; clear HL0 HB26 ho hb; obtain ⟨A28, c28, e28⟩ := Kd.qbz qrn.out; subst e28) | ((with_reducible refine qad (f := 37) rfl ?_); refine gl_ 30 Tryz.func37 #[.slice A28 rules.length c28, .func (.func 47) #[] #[.pointer (some ⟨g6, 0, none⟩)]] rfl qeU ?_; refine (qjF (qf9 i) 47 #[.pointer (some ⟨g6, 0, none⟩)] (enters_of Tryz.func47 (by kernel_rfl) rfl) A28 c28 wr.heap.size (fun k_ => k_ ≠ g6) rules _ HB28.out.size qrn.out ?sP).mono ?_; (case sP => exact (fun W_ x hx hg_ => qlM i g6 x W_ (by have h_ := List.all_eq_true.1 HNZ.out x hx; simpa using h_) ((qaO (qev B28.out hg_ (fun e_ => qrn.out.1 g6 e_.symm rfl)) 0).trans rfl))); rintro e w30 ⟨rfl, hR_, hg_⟩; refine ⟨_, rfl, ?_⟩; have HBx := ak_ (HB28.out.grown hg_ HB28.out.size (Kd.qcY qrn.out)); have B30 := ak_ (qev B28.out hg_ (fun e_ => qrn.out.1 g6 e_.symm rfl)); rw [← HCR.out] at hR_ ⊢; have HR30 := ak_ hR_; have hcG30 := c0_ B30.out; clear hR_ hg_ qrn HB28 B28 B26 B6_ qrY))
         go_roundg k1
         case measure => have := HK.out; omega
         case rel => exact ⟨i + 1, by go_num, H', ⟨by have := HK.out; omega⟩, ⟨qam BP.out HBx.out⟩, ⟨qam BQ.out HBx.out⟩, ⟨Kd.qbk HL.out HBx.out⟩, ⟨qac HB.out HBx.out⟩⟩
        rw [if_pos c4_] at H
        obtain ⟨cr, hcr⟩ : ∃ l_, l_ = rules.filter (fun x => !qf9 i x) := ⟨_, rfl⟩
        rw [← hcr] at c4_ H; have HFIN := ak_ H; clear H; have HCR := ak_ hcr; have c4b : ((cr.length : Int) == 1) = true := beq_iff_eq.2 (by omega); have HC4 := ak_ c4_; clear hcr c4_
        go_wp2_with (first | ((with_reducible refine qas (N := 6) rfl ?_); (try (refine qav (by rfl) ?_; dsimp only)); refine bx_ 6 (cs := #[.int .i64 0]) (t := 3) qa0 ?_; intro g6 hg w6 hbox hb; have B6_ := ak_ (show (w6.setCell ⟨g6, 0, none⟩ (.int .i64 (i : Int))).heap[g6]? = _ from qaQ (cs' := #[.int .i64 (i : Int)]) hbox 0 (.int .i64 (i : Int)) rfl); have qrY := ak_ (show Below wr.heap.size wr (w6.setCell ⟨g6, 0, none⟩ (.int .i64 (i : Int))) from qaw hb (Nat.le_of_eq hg.symm)); have hc6 : w6.cell? ⟨g6, 0, none⟩ = some (.int .i64 0) := (qaO hbox 0).trans rfl; have hf6 := qaU hbox 0; have hcP6 : w6.cell? ⟨gP, 0, none⟩ = some (.string qax) := (qaO (qam BP.out hb) 0).trans rfl; have hne6 : gP ≠ g6 := (by rw [hg]; exact Nat.ne_of_lt (qdK BP.out)); have hne6' : ¬ g6 = gP := fun e_ => hne6 e_.symm; clear hbox hb hg) | ((with_reducible refine qas (N := 26) rfl ?_); refine Kd.qgJ qa1 _ 33 ?hg (N := 26) ?hd (xs := ([] : List qaj)) (inner := []) (ok := fun _ => True) (okp := fun _ => True) ?hr ?hp (fun _ hk => hk) trivial (Below.refl _ _) (Nat.le_refl _) (by simp) ?_; (case hd => rfl); (case hg => rfl); (case hr => exact qa0); (case hp => exact qcg.none _ _); intro v26 w26 ho hb hg_ hnew_; clear hg_ hnew_; have HL0 := ak_ (Kd.qbv ho qrY.out.size); have HB26 := ak_ (qac qrY.out hb); have B26 := ak_ (qam B6_.out hb); clear ho hb hc6 hf6 hcP6) | ((with_reducible refine qb7 (b := .append) (xs := #[.tmp 26, .tmp 27]) rfl ?_); at_builtin; refine Kd.qfG qa1 (w0 := wr) wr.heap.size rfl (.tmp 26) (.tmp 27) 24 33 (.agg #[(.int .i64 0), (.int .i64 0)]) 16 rfl Tryz.underlying24 qc1 rfl (by decide) (by omega) v26 ([] : List qaj) rules _ _ _ (fun k_ => k_ ≠ g6) (fun _ => False) rfl rfl ?aO ?aR (fun _ _ h => h) (fun _ h => h.elim) ?aF ?aB ?aS ?aL ?_; (case aO => exact Kd.qaT (Kd.qgo HL0.out B26.out (by decide)) (fun _ hk => hk.2)); (case aF => exact (fun k_ hk => by have := qdK B26.out; omega)); (case aR => exact (Kd.R_reads' (Kd.qbk HL.out HB26.out)).2.2); (case aB => exact HB26.out); (case aS => exact qal HB26.out); (case aL => have h_ := HLB.out; simp only [List.length_nil]; omega); intro v28 w28 ho hb hg_ hat_; simp only [List.nil_append] at ho; have B28 := ak_ (qev B26.out hg_ (fun e_ => by have := Kd.qsH HL0.out B26.out (by decide); exact this e_)); clear hg_ hat_; have qrn := ak_ ho; have HB28 := ak_ hb; clear HL0 HB26 ho hb; obtain ⟨A28, c28, e28⟩ := Kd.qbz qrn.out; subst e28) | ((with_reducible refine qad (f := 37) rfl ?_); refine gl_ 30 Tryz.func37 #[.slice A28 rules.length c28, .func (.func 47) #[] #[.pointer (some ⟨g6, 0, none⟩)]] rfl qeU ?_; refine (qjF (qf9 i) 47 #[.pointer (some ⟨g6, 0, none⟩)] (enters_of Tryz.func47 (by kernel_rfl) rfl) A28 c28 wr.heap.size (fun k_ => k_ ≠ g6) rules _ HB28.out.size qrn.out ?sP).mono ?_; (case sP => exact (fun W_ x hx hg_ => qlM i g6 x W_ (by have h_ := List.all_eq_true.1 HNZ.out x hx; simpa using h_) ((qaO (qev B28.out hg_ (fun e_ => qrn.out.1 g6 e_.symm rfl)) 0).trans rfl))); rintro e w30 ⟨rfl, hR_, hg_⟩; refine ⟨_, rfl, ?_⟩; have HBx := ak_ (HB28.out.grown hg_ HB28.out.size (Kd.qcY qrn.out)); have B30 := ak_ (qev B28.out hg_ (fun e_ => qrn.out.1 g6 e_.symm rfl)); rw [← HCR.out] at hR_ ⊢; have HR30 := ak_ hR_; have hcG30 := c0_ B30.out; clear hR_ hg_ qrn HB28 B28 B26 B6_ qrY))
        obtain ⟨ad, e_, hx0, hx1⟩ := qcn (Kd.R_reads' HR30.out).2.2 (0 : Int) (by omega) (by have := HC4.out; omega); subst e_; have HXi := ak_ (show w30.drew.cell? ⟨g6, 0, none⟩ = _ from hcG30); have HX0 := ak_ (show w30.drew.cell? ad = _ from hx0); have HX1 := ak_ (show w30.drew.cell? ⟨ad.block, ad.off + 1, none⟩ = _ from hx1); have HBS := ak_ (qap HBx.out); have BQ := ak_ (qae (qam BQ.out HBx.out))
        have hln_ : 0 < cr.length := (by have := HC4.out; omega)
        clear hx0 hx1 hcG30; refine qc4 (n := 8) (S := fun w' => w'.cell? ⟨g6, 0, none⟩ = some (.int .i64 (i : Int)) ∧ w'.cell? ad = some (.int .i64 (qab cr 0).f0) ∧ w'.cell? ⟨ad.block, ad.off + 1, none⟩ = some (.int .i64 (qab cr 0).f1)) (ds := [6]) #[false, false, false, false, false, false, false, false] (by kernel_rfl) rfl rfl ⟨HXi.out, HX0.out, HX1.out⟩ (fun hHeld => ?_)
        generalize w30.drew = wS at HXi HX0 HX1 HBS BQ hHeld ⊢
        refine qec (i := 2) (N := some 36) (v := ?_) (a' := ?_) #[false, false, true, false, false, false, false, false] rfl rfl (by kernel_rfl) (fun _ _ _ h => h) (Or.inl ⟨by rfl, ?_⟩) ?_ ?_; rotate_left
        · intro w'
          go_simp
          with_reducible rfl
        rotate_left
        · simp only [Act.put, List.setIfInBounds_toArray, List.set_cons_zero, List.set_cons_succ, qbI, qbN]
          rfl
        refine qec (i := 3) (N := some 37) (v := ?_) (a' := ?_) #[false, false, true, true, false, false, false, false] rfl rfl (by kernel_rfl) (fun _ _ _ h => h) (Or.inl ⟨by rfl, ?_⟩) ?_ ?_; rotate_left
        · intro w'
          go_simp
          with_reducible rfl
        rotate_left
        · simp only [Act.put, List.setIfInBounds_toArray, List.set_cons_zero, List.set_cons_succ, qbI, qbN]
          rfl
        refine qg6 (i := 0) (N := some 34) (v := ?_) (a' := ?_) #[true, false, true, true, false, false, false, false] rfl rfl (by kernel_rfl) (fun _ _ _ h => h) (Or.inl ⟨by rfl, ?_⟩) hHeld ?_ ?_; rotate_left
        · rintro w' ⟨s0, s1, s2⟩
          go_simp
          with_reducible rfl
        rotate_left
        · simp only [Act.put, List.setIfInBounds_toArray, List.set_cons_zero, List.set_cons_succ, qbI, qbN]
          rfl
        refine qec (i := 1) (N := some 35) (v := ?_) (a' := ?_) #[true, true, true, true, false, false, false, false] rfl rfl (by kernel_rfl) (fun _ _ _ h => h) (Or.inl ⟨by rfl, ?_⟩) ?_ ?_; rotate_left
        · intro w'
          go_simp
          with_reducible rfl
        rotate_left
        · simp only [Act.put, List.setIfInBounds_toArray, List.set_cons_zero, List.set_cons_succ, qbI, qbN]
          rfl
        refine qec (i := 5) (N := some 2) (v := ?_) (a' := ?_) #[true, true, true, true, false, true, false, false] rfl rfl (by kernel_rfl) (fun _ _ _ h => h) (Or.inl ⟨by rfl, ?_⟩) ?_ ?_; rotate_left
        · intro w'
          go_simp
          with_reducible rfl
        rotate_left
        · simp only [Act.put, List.setIfInBounds_toArray, List.set_cons_zero, List.set_cons_succ, qbI, qbN]
          rfl
        refine qg6 (i := 4) (N := some 38) (v := ?_) (a' := ?_) #[true, true, true, true, true, true, false, false] rfl rfl (by kernel_rfl) (fun _ _ _ h => h) (Or.inl ⟨by rfl, ?_⟩) hHeld ?_ ?_; rotate_left
        · rintro w' ⟨s0, s1, s2⟩
          go_simp
          with_reducible rfl
        rotate_left
        · simp only [Act.put, List.setIfInBounds_toArray, List.set_cons_zero, List.set_cons_succ, qbI, qbN]
          rfl
        refine qpc (i := 6) (N := none) #[true, true, true, true, true, true, true, false] rfl rfl (by kernel_rfl) (by decide) (fun K hK => ?_); obtain ⟨hr0_, hr1_, hrf0_, hrf1_⟩ := g2_ BQ.out; refine qmC (w1 := ?_) (by rfl) rfl ?_ ?_; rotate_left
        · go_simp
          rfl
        refine hK.out _ _ ?_; clear hK K; refine qec (i := 7) (N := some 4) (v := ?_) (a' := ?_) #[true, true, true, true, true, true, true, true] rfl rfl (by kernel_rfl) (fun _ _ _ h => h) (Or.inl ⟨by rfl, ?_⟩) ?_ ?_; rotate_left
        · intro w'
          go_simp
          with_reducible rfl
        rotate_left
        · simp only [Act.put, List.setIfInBounds_toArray, List.set_cons_zero, List.set_cons_succ, qbI, qbN]
          rfl
        refine qeF (by kernel_rfl) ?_; go_wp2; refine bodyPost_ret (qdU (rs := [.tmp 2, .cell 3 33, .tmp 4]) rfl (by simp) (.tmp (.cell gQ 33 #[.int .i64 (qab cr 0).f0, .int .i64 (qab cr 0).f1] (0, 0) _ rfl (qaQ (cs' := #[.int .i64 (qab cr 0).f0, .int .i64 (qab cr 0).f1]) (qaQ (cs' := #[.int .i64 (qab cr 0).f0, .int .i64 0]) BQ.out 0 _ rfl) 1 _ rfl) Tryz.underlying33 rfl (by kernel_rfl) (.tmp .nil)))) rfl ?_; have h_ := HFIN.out; simp only [Option.some.injEq, Prod.mk.injEq] at h_; obtain ⟨rfl, rfl, rfl, rfl⟩ := h_; exact ⟨rfl, qaw (qaw (qac HB.out HBS.out) qks) qks⟩
def qgx (i : Nat) (x : qaj) : Bool := qcm.f (wrap64 ((i : Int) + 1)) x.f0 == some x.f1
def qcb.l0 : Nat → ByteArray → List qaj → Nat → Option (Int × Int × Int × Bool)
  | 0, _, _, _ => none
  | k + 1, s, fit, pos => if pos < s.size then (if bt s pos < 128 then (if bt s pos = 120 then (if fit.length < 8796093022207 ∧ fit.all (fun x => (qcm.f (wrap64 ((pos : Int) + 1)) x.f0).isSome) = true then (if (fit.filter (qgx pos)).length = 1 then some (wrap64 ((pos : Int) + 1), (qab (fit.filter (qgx pos)) 0).f0, (qab (fit.filter (qgx pos)) 0).f1, true) else qcb.l0 k s fit (pos + 1)) else none) else qcb.l0 k s fit (pos + 1)) else none) else some (0, 0, 0, false)
def qcb.f (k : Nat) (qax : ByteArray) (qaZ : Int) : Option (Int × Int × Int × Bool) := (qbj.f k qax qaZ).bind fun t => if t = true then ((qbx.f k qax).bind fun fit => qcb.l0 k qax fit 0) else some (0, 0, 0, false)
theorem qtH (fit : List qaj) (p : qaj → Bool) (j : Nat) (h : j < fit.length) : (fit.take (j + 1)).filter p = (fit.take j).filter p ++ (if p (qab fit (j : Int)) = true then [qab fit (j : Int)] else []) := by
  rw [List.take_succ_eq_append_getElem h, List.filter_append]
  congr 1
  have e_ : qab fit (j : Int) = fit[j] := by simp [qab, List.getD, h]
  rw [e_]; by_cases c : p fit[j] = true
  ·rw [if_pos c, List.filter_cons, if_pos c, List.filter_nil]
  rw [if_neg c, List.filter_cons, if_neg c, List.filter_nil]
theorem qcb.calls (k : Nat) (qax : ByteArray) (qaZ : Int) (r1 r2 r3 : Int) (r4 : Bool) (w : World) (h : qcb.f k qax qaZ = some (r1, r2, r3, r4)) :
    Calls Tryz.prog 16 #[.agg #[.string qax, .int .i64 qaZ]] w fun e w' => e = .returned (.tuple #[.int .i64 r1, .agg #[.int .i64 r2, .int .i64 r3], .bool r4]) ∧ Below w.heap.size w w' := by
  have hu := Tryz.underlying23; have hu2 := Tryz.underlying33; unfold qcb.f at h; replace h := Option.bind_eq_some_iff.mp h; obtain ⟨t, A0_, h⟩ := h; have A1 := ak_ A0_; clear A0_
  cases t with
  | false =>
    rw [if_neg (by decide)] at h; simp only [Option.some.injEq, Prod.mk.injEq] at h; obtain ⟨rfl, rfl, rfl, rfl⟩ := h; go_enter Tryz.func16, Tryz.ntmps16
    go_wp2_with (first | ((with_reducible refine qas (N := 1) rfl ?_); (try (refine qav (by rfl) ?_; dsimp only)); refine bx_ 1 (cs := #[.string qax, .int .i64 qaZ]) (t := 23) qa0 ?_; intro gP hg w1 hbox hb; have BP1 := ak_ hbox; have HB1 := ak_ hb; have GP := ak_ (show w.heap.size ≤ gP by rw [hg]; exact Nat.le_refl _); have qnN : w1.cell? ⟨gP, 0, none⟩ = some (.string qax) := (qaO hbox 0).trans rfl; have qnO : w1.cell? ⟨gP, 1, none⟩ = some (.int .i64 qaZ) := (qaO hbox 1).trans rfl; clear hbox hb hg) | ((with_reducible refine qas (N := 3) rfl ?_); (try (refine qav (by rfl) ?_; dsimp only)); refine bx_ 3 (cs := #[.int .i64 0, .int .i64 0]) (t := 33) qa0 ?_; intro gQ hg w2 hbox hb; have BQ2 := ak_ hbox; have BP2 := ak_ (qam BP1.out hb); have HB2 := ak_ (qac HB1.out hb); have GQ := ak_ (show gP < gQ by rw [hg]; exact qdK BP1.out); have hcq0 := c0_ BP2.out; have hcq1 := c1_ BP2.out; clear qnN qnO BP1 HB1; clear hbox hb hg) | ((with_reducible refine qad (f := 45) rfl ?_); refine gl_ 11 Tryz.func45 #[.agg #[.string qax, .int .i64 qaZ]] rfl qeU ?_; (with_reducible refine (qbj.calls k qax qaZ false _ A1.out).mono ?_); rintro e w3 ⟨rfl, hb⟩; refine ⟨_, rfl, ?_⟩; have BP3 := ak_ (qam BP2.out hb); have BQ3 := ak_ (qam BQ2.out hb); have HB3 := ak_ (qac HB2.out hb); have hcr0 := c0_ BP3.out; obtain ⟨qmw, qmx, qmu, qmv⟩ := g2_ BQ3.out; clear BP2 BQ2 HB2 hcq0 hcq1; clear hb))
    refine bodyPost_ret (qdU (rs := [.tmp 2, .cell 3 33, .tmp 4]) rfl (by simp) (.tmp (.cell gQ 33 #[.int .i64 0, .int .i64 0] (0, 0) _ rfl (by first | exact BQ3.out | exact qaQ (cs' := #[.int .i64 0, .int .i64 0]) (qaQ (cs' := #[.int .i64 0, .int .i64 0]) BQ3.out 0 _ rfl) 1 _ rfl) Tryz.underlying33 rfl (by kernel_rfl) (.tmp .nil)))) rfl ?_; exact ⟨rfl, by first | exact HB3.out | exact qaw (qaw HB3.out qks) qks⟩
  | true =>
    rw [if_pos rfl] at h; replace h := Option.bind_eq_some_iff.mp h; obtain ⟨fit, A0_, h⟩ := h; have A2 := ak_ A0_; have H' := ak_ h; clear A0_ h; go_enter Tryz.func16, Tryz.ntmps16
    go_wp2_with (first | ((with_reducible refine qas (N := 1) rfl ?_); (try (refine qav (by rfl) ?_; dsimp only)); refine bx_ 1 (cs := #[.string qax, .int .i64 qaZ]) (t := 23) qa0 ?_; intro gP hg w1 hbox hb; have BP1 := ak_ hbox; have HB1 := ak_ hb; have GP := ak_ (show w.heap.size ≤ gP by rw [hg]; exact Nat.le_refl _); have qnN : w1.cell? ⟨gP, 0, none⟩ = some (.string qax) := (qaO hbox 0).trans rfl; have qnO : w1.cell? ⟨gP, 1, none⟩ = some (.int .i64 qaZ) := (qaO hbox 1).trans rfl; clear hbox hb hg) | ((with_reducible refine qas (N := 3) rfl ?_); (try (refine qav (by rfl) ?_; dsimp only)); refine bx_ 3 (cs := #[.int .i64 0, .int .i64 0]) (t := 33) qa0 ?_; intro gQ hg w2 hbox hb; have BQ2 := ak_ hbox; have BP2 := ak_ (qam BP1.out hb); have HB2 := ak_ (qac HB1.out hb); have GQ := ak_ (show gP < gQ by rw [hg]; exact qdK BP1.out); have hcq0 := c0_ BP2.out; have hcq1 := c1_ BP2.out; clear qnN qnO BP1 HB1; clear hbox hb hg) | ((with_reducible refine qad (f := 45) rfl ?_); refine gl_ 11 Tryz.func45 #[.agg #[.string qax, .int .i64 qaZ]] rfl qeU ?_; (with_reducible refine (qbj.calls k qax qaZ true _ A1.out).mono ?_); rintro e w3 ⟨rfl, hb⟩; refine ⟨_, rfl, ?_⟩; have BP3 := ak_ (qam BP2.out hb); have BQ3 := ak_ (qam BQ2.out hb); have HB3 := ak_ (qac HB2.out hb); have hcr0 := c0_ BP3.out; obtain ⟨qmw, qmx, qmu, qmv⟩ := g2_ BQ3.out; clear BP2 BQ2 HB2 hcq0 hcq1; clear hb) | ((with_reducible refine qad (f := 46) rfl ?_); refine gl_ 16 Tryz.func46 #[.string qax] rfl qeU ?_; (with_reducible refine (qbx.calls k qax fit _ A2.out).mono ?_); rintro e w4 ⟨v16, rfl, ho, hb⟩; refine ⟨_, rfl, ?_⟩; have BP4 := ak_ (qam BP3.out hb); have BQ4 := ak_ (qam BQ3.out hb); have HB4 := ak_ (qac HB3.out hb); obtain ⟨A5, c5, e5⟩ := Kd.qbz ho; subst e5; have HL4 := ak_ (Kd.qbv ho HB3.out.size); have hcs0 := c0_ BP4.out; clear BP3 BQ3 HB3 hcr0 qmw qmx qmu qmv; clear ho hb))
    have GI := ak_ (show w.heap.size ≤ w4.heap.size from HB4.out.size); have GPI := ak_ (qdK BP4.out)
    go_loopg [] k (fun kq wx => ∃ pos : Nat, wx.heap[w4.heap.size]? = some (.stringIter qax pos) ∧ qah (Below w4.heap.size w4 wx) ∧ qah (qcb.l0 kq qax fit pos = some (r1, r2, r3, r4)) ∧ qah (kq ≤ k))
    case atStart => exact ⟨0, by have h_ := World.iter_heap w4 qax 0; simpa using h_, ⟨(Below.refl _ w4).alloc (Nat.le_refl _) _⟩, H', ⟨Nat.le_refl _⟩⟩
    case round =>
      clear H' hcs0; obtain ⟨pos, hit, HBI, HA_, HK⟩ := hrel
      cases gk with
      | zero => exact absurd HA_.out (by simp [qcb.l0])
      | succ k1 =>
        have H := HA_.out; clear HA_; simp only [qcb.l0] at H; by_cases hps : pos < qax.size; rotate_left
        ·rw [if_neg hps] at H
         have hnx : ∀ ty, (Instr.next (.pointer (some ⟨w4.heap.size, 0, none⟩)) true ty).run Tryz.prog wr = _ := fun ty => Lib.run_next_end_at wr w4.heap.size qax pos ty hit hps
         simp only [Option.some.injEq, Prod.mk.injEq] at H; obtain ⟨rfl, rfl, rfl, rfl⟩ := H; have BQ := ak_ (qam BQ4.out HBI.out); have HB := ak_ (qac HB4.out HBI.out); obtain ⟨qmw, qmx, qmu, qmv⟩ := g2_ BQ.out; go_wp2; refine bodyPost_ret (qdU (rs := [.tmp 2, .cell 3 33, .tmp 4]) rfl (by simp) (.tmp (.cell gQ 33 #[.int .i64 0, .int .i64 0] (0, 0) _ rfl (qaQ (cs' := #[.int .i64 0, .int .i64 0]) (qaQ (cs' := #[.int .i64 0, .int .i64 0]) BQ.out 0 _ rfl) 1 _ rfl) Tryz.underlying33 rfl (by kernel_rfl) (.tmp .nil)))) rfl ?_; exact ⟨rfl, qaw (qaw HB.out qks) qks⟩
        rw [if_pos hps] at H; by_cases ha : bt qax pos < 128; rotate_left
        ·rw [if_neg ha] at H; exact absurd H (by simp)
        rw [if_pos ha] at H
        have hnx : ∀ ty, (Instr.next (.pointer (some ⟨w4.heap.size, 0, none⟩)) true ty).run Tryz.prog wr = _ := fun ty => Lib.run_next_ascii_at wr w4.heap.size qax pos ty hit hps (by have := qlf qax pos hps; omega)
        have qr6 := Lib.iterAt_heap wr w4.heap.size qax pos (pos + 1) hit; have qto := Lib.below_iterAt HBI.out (k := w4.heap.size) (Nat.le_refl _) qax (pos + 1)
        obtain ⟨W, hWd⟩ : ∃ W, wr.iterAt w4.heap.size qax (pos + 1) = W := ⟨_, rfl⟩
        rw [hWd] at hnx qr6 qto; clear hit hWd HBI ha; have HBW := ak_ qto; have HI := ak_ qr6; clear qto qr6; have hcP : W.cell? ⟨gP, 0, none⟩ = some (.string qax) := (qaO (qam BP4.out HBW.out) 0).trans rfl; have hx6 := qlf qax pos; have p6 := eq_true (show 0 ≤ ((pos : Nat) : Int) by omega); have q6 := eq_true (show ((pos : Nat) : Int) < (qax.size : Int) by omega); by_cases c2_ : bt qax pos = 120; rotate_left
        ·rw [if_neg c2_] at H; have c2b : (bt qax pos != 120) = true := bne_iff_ne.2 c2_; have c2c : (bt qax pos == 120) = false := beq_eq_false_iff_ne.2 c2_; clear c2_; have H' := ak_ H; clear H; go_wp2
         go_roundg k1
         case measure => have := HK.out; omega
         case rel => exact ⟨pos + 1, HI.out, HBW, H', ⟨by have := HK.out; omega⟩⟩
        rw [if_pos c2_] at H; have c2b : (bt qax pos != 120) = false := bne_eq_false_iff_eq.2 c2_; have c2c : (bt qax pos == 120) = true := beq_iff_eq.2 c2_; clear c2_; by_cases c3_ : fit.length < 8796093022207 ∧ fit.all (fun x => (qcm.f (wrap64 ((pos : Int) + 1)) x.f0).isSome) = true; rotate_left
        ·rw [if_neg c3_] at H; exact absurd H (by simp)
        rw [if_pos c3_] at H; have HLB := ak_ c3_.1; have HSO := ak_ c3_.2; have H' := ak_ H; clear c3_ H; go_wp2
        go_loopg [7, 30] fit.length (fun gg v7 v30 wx => ∃ j : Nat, v30 = .int .i64 j ∧ j ≤ fit.length ∧ fit.length - j ≤ gg ∧ qah (Kd.R qa1 33 wx W.heap.size (fun _ => True) v7 ((fit.take j).filter (qgx pos))) ∧ qah (Below W.heap.size W wx))
        case atStart => exact ⟨0, rfl, Nat.zero_le _, Nat.le_refl _, ⟨Kd.qki _ _ _ _ _⟩, ⟨Below.refl _ _⟩⟩
        case round =>
          clear hcP hnx; obtain ⟨j, rfl, hj, hgg, HO, HW2⟩ := hrel; have HC := ak_ (Kd.R_reads' (Kd.qbk HL4.out (qac HBW.out HW2.out))).2.2; have hjb : fit.length < 8796093022207 := HLB.out; by_cases hlt : j < fit.length
          ·have c1z : (j : Int) < (fit.length : Int) := by omega
           have c1b : decide ((j : Int) < (fit.length : Int)) = true := decide_eq_true c1z; have c1c : decide (j < fit.length) = true := decide_eq_true hlt; obtain ⟨ad, e_, hx0, hx1⟩ := qcn HC.out (j : Int) (by omega) (by omega)
           cases e_
           simp only [Int.toNat_natCast] at hx0 hx1
           obtain ⟨q, hq⟩ : ∃ q, qcm.f (wrap64 ((pos : Int) + 1)) (qab fit (j : Int)).f0 = some q := by
             have h_ := List.all_eq_true.1 HSO.out (qab fit (j : Int)) (by rw [show qab fit (j : Int) = fit[j] by simp [qab, List.getD, hlt]]; exact List.getElem_mem hlt); exact Option.isSome_iff_exists.1 h_
           have HM := ak_ (fun W => qcm.calls (wrap64 ((pos : Int) + 1)) (qab fit (j : Int)).f0 q W hq); have HT := ak_ (qtH fit (qgx pos) j hlt); have HH := ak_ (show qgx pos (qab fit (j : Int)) = (q == (qab fit (j : Int)).f1) by unfold qgx; rw [hq]; rfl); clear hq
           obtain ⟨Y, hY⟩ : ∃ l_, l_ = (fit.take j).filter (qgx pos) := ⟨_, rfl⟩
           have HY := ak_ hY; have HYL := ak_ (show Y.length ≤ fit.length by rw [hY]; exact Nat.le_trans (List.length_filter_le _ _) (by rw [List.length_take]; omega)); have HO1 := ak_ (show Kd.R qa1 33 wr W.heap.size (fun _ => True) u7 Y by rw [hY]; exact HO.out); clear hY HO; by_cases hqr : q = (qab fit (j : Int)).f1
           ·have cqb : (q == (qab fit (j : Int)).f1) = true := beq_iff_eq.2 hqr; clear hqr; have HH2 := ak_ (HH.out.trans cqb)
            go_wp2_with (first | ((with_reducible refine qas (N := 9) rfl ?_); (try (refine qav (by rfl) ?_; dsimp only)); refine bx_ 9 (cs := #[.int .i64 0, .int .i64 0]) (t := 33) qa0 ?_; intro g9 hg w20 hbox hb; have BK := ak_ hbox; have HB0 := ak_ hb; have G9 := ak_ hg; have qr2 : w20.cell? ⟨g9, 0, none⟩ = some (.int .i64 0) := (qaO hbox 0).trans rfl; have qr3 : w20.cell? ⟨g9, 1, none⟩ = some (.int .i64 0) := (qaO hbox 1).trans rfl; have qr4 := qaU hbox 0; have qr5 := qaU hbox 1; clear hbox hb hg))
            have BK8 := ak_ (show ((w20.setCell ⟨g9, 0, none⟩ (.int .i64 (qab fit (j : Int)).f0)).setCell ⟨g9, 1, none⟩ (.int .i64 (qab fit (j : Int)).f1)).heap[g9]? = _ from qaQ (cs' := #[.int .i64 (qab fit (j : Int)).f0, .int .i64 (qab fit (j : Int)).f1]) (qaQ (cs' := #[.int .i64 (qab fit (j : Int)).f0, .int .i64 0]) BK.out 0 _ rfl) 1 _ rfl); have qsg := ak_ (show Below wr.heap.size wr ((w20.setCell ⟨g9, 0, none⟩ (.int .i64 (qab fit (j : Int)).f0)).setCell ⟨g9, 1, none⟩ (.int .i64 (qab fit (j : Int)).f1)) from qaw (qaw HB0.out (Nat.le_of_eq G9.out.symm)) (Nat.le_of_eq G9.out.symm)); clear qr2 qr3 qr4 qr5 BK HB0
            generalize ((w20.setCell ⟨g9, 0, none⟩ (.int .i64 (qab fit (j : Int)).f0)).setCell ⟨g9, 1, none⟩ (.int .i64 (qab fit (j : Int)).f1)) = w8 at BK8 qsg ⊢
            have hcA := c0_ BK8.out; have hcB := c1_ BK8.out; have HO8 := ak_ (Kd.qbk (Kd.qcN HO1.out g9 (Nat.le_of_eq G9.out.symm)) qsg.out); have HB8 := ak_ (qac HW2.out qsg.out); clear HO1; go_wp2
            go_quiet ((go_at_call 48; exact Calls.quiet_of ((HM.out _).mono (fun e w' h => ⟨h.1, h.2.out⟩))))
            go_wp2_with (first | ((with_reducible refine qb7 (b := .append) (xs := #[.tmp 42, .tmp 44]) rfl ?_); at_builtin; refine Kd.qe9 qa1 (w0 := W) W.heap.size rfl (.tmp 42) (.tmp 44) 24 33 (.agg #[(.int .i64 0), (.int .i64 0)]) 16 rfl Tryz.underlying24 qc1 rfl (by decide) (by omega) u7 Y (qab fit (j : Int)) [.int .i64 (qab fit (j : Int)).f0, .int .i64 (qab fit (j : Int)).f1] (fun k_ => k_ ≠ g9) (fun _ => False) rfl rfl ?aP (fun _ hk => hk.elim) ?aF ?aO ?aB ?aS ?aL ?_; (case aP => exact qdm _ _ _ (qab fit (j : Int))); (case aB => exact (by repeat (first | (with_reducible first | exact HB8.out | apply qau | apply qao | apply qap) | exact HB8.out))); (case aF => exact (fun k_ hk => Kd.qoT (g := g9) (by (with_reducible repeat (first | refine qag ?_ _ | refine qae ?_ | refine qaf ?_ _)); exact BK8.out) k_ hk)); (case aO => exact (by (with_reducible repeat (first | apply Kd.qaA | apply Kd.qaz | apply Kd.qaL)); exact Kd.qaT HO8.out (fun _ hk => hk.2))); (case aS => exact (qal (by repeat (first | (with_reducible first | exact HB8.out | apply qau | apply qao | apply qap) | exact HB8.out)))); (case aL => have h_ := HLB.out; have h2_ := HYL.out; omega); intro v45 w11 ho hb hg hat; have HOB := ak_ ho; have HBN := ak_ hb; clear ho hb hg hat))
            go_roundg (fit.length - (j + 1))
            case measure => omega
            case rel => exact ⟨j + 1, by go_num, by omega, Nat.le_refl _, ⟨by rw [HT.out, if_pos HH2.out, ← HY.out]; exact Kd.qaT HOB.out (fun _ _ => trivial)⟩, HBN⟩
           have cqb : (q == (qab fit (j : Int)).f1) = false := beq_eq_false_iff_ne.2 hqr; clear hqr; have HH2 := ak_ (HH.out.trans cqb)
           go_wp2_with (first | ((with_reducible refine qas (N := 9) rfl ?_); (try (refine qav (by rfl) ?_; dsimp only)); refine bx_ 9 (cs := #[.int .i64 0, .int .i64 0]) (t := 33) qa0 ?_; intro g9 hg w20 hbox hb; have BK := ak_ hbox; have HB0 := ak_ hb; have G9 := ak_ hg; have qr2 : w20.cell? ⟨g9, 0, none⟩ = some (.int .i64 0) := (qaO hbox 0).trans rfl; have qr3 : w20.cell? ⟨g9, 1, none⟩ = some (.int .i64 0) := (qaO hbox 1).trans rfl; have qr4 := qaU hbox 0; have qr5 := qaU hbox 1; clear hbox hb hg))
           have BK8 := ak_ (show ((w20.setCell ⟨g9, 0, none⟩ (.int .i64 (qab fit (j : Int)).f0)).setCell ⟨g9, 1, none⟩ (.int .i64 (qab fit (j : Int)).f1)).heap[g9]? = _ from qaQ (cs' := #[.int .i64 (qab fit (j : Int)).f0, .int .i64 (qab fit (j : Int)).f1]) (qaQ (cs' := #[.int .i64 (qab fit (j : Int)).f0, .int .i64 0]) BK.out 0 _ rfl) 1 _ rfl); have qsg := ak_ (show Below wr.heap.size wr ((w20.setCell ⟨g9, 0, none⟩ (.int .i64 (qab fit (j : Int)).f0)).setCell ⟨g9, 1, none⟩ (.int .i64 (qab fit (j : Int)).f1)) from qaw (qaw HB0.out (Nat.le_of_eq G9.out.symm)) (Nat.le_of_eq G9.out.symm)); clear qr2 qr3 qr4 qr5 BK HB0
           generalize ((w20.setCell ⟨g9, 0, none⟩ (.int .i64 (qab fit (j : Int)).f0)).setCell ⟨g9, 1, none⟩ (.int .i64 (qab fit (j : Int)).f1)) = w8 at BK8 qsg ⊢
           have hcA := c0_ BK8.out; have hcB := c1_ BK8.out; have HO8 := ak_ (Kd.qbk (Kd.qcN HO1.out g9 (Nat.le_of_eq G9.out.symm)) qsg.out); have HB8 := ak_ (qac HW2.out qsg.out); clear HO1; go_wp2
           go_quiet ((go_at_call 48; exact Calls.quiet_of ((HM.out _).mono (fun e w' h => ⟨h.1, h.2.out⟩))))
           go_wp2
           go_roundg (fit.length - (j + 1))
           case measure => omega
           case rel => exact ⟨j + 1, by go_num, by omega, Nat.le_refl _, ⟨by rw [HT.out, if_neg (by rw [HH2.out]; decide), List.append_nil, ← HY.out]; exact Kd.qaz (Kd.qaT HO8.out (fun _ _ => trivial)) _⟩, ⟨qao HB8.out _⟩⟩
          obtain rfl : j = fit.length := by omega
          have c1b : decide ((fit.length : Int) < (fit.length : Int)) = false := decide_eq_false (by omega); have c1c : decide (fit.length < fit.length) = false := decide_eq_false (by omega)
          obtain ⟨cr, hcr⟩ : ∃ l_, l_ = fit.filter (qgx pos) := ⟨_, rfl⟩
          have HR := ak_ (show Kd.R qa1 33 wr W.heap.size (fun _ => True) u7 cr by rw [hcr]; have h_ := HO.out; rw [List.take_length] at h_; exact h_); have H := H'.out; rw [← hcr] at H; clear hcr HO H'; obtain ⟨A7, c7, e7⟩ := Kd.qbz HR.out; subst e7; by_cases c4_ : cr.length = 1; rotate_left
          ·rw [if_neg c4_] at H; have H' := ak_ H; have c4b : ((cr.length : Int) == 1) = false := beq_eq_false_iff_ne.2 (by omega); clear H c4_; go_wp2
           go_roundg k1
           case measure => have := HK.out; omega
           case rel => exact ⟨pos + 1, qam HI.out HW2.out, ⟨qac HBW.out HW2.out⟩, H', ⟨by have := HK.out; omega⟩⟩
          rw [if_pos c4_] at H; have HFIN := ak_ H; have HC4 := ak_ c4_; have c4b : ((cr.length : Int) == 1) = true := beq_iff_eq.2 (by omega); clear H c4_; go_wp2; obtain ⟨ad, e_, hx0, hx1⟩ := qcn (Kd.R_reads' HR.out).2.2 (0 : Int) (by omega) (by have := HC4.out; omega); subst e_; have HX0 := ak_ (show wr.drew.cell? ad = _ from hx0); have HX1 := ak_ (show wr.drew.cell? ⟨ad.block, ad.off + 1, none⟩ = _ from hx1); have HBS := ak_ (qap (Below.refl wr.heap.size wr)); have BQ := ak_ (qae (qam BQ4.out (qac HBW.out HW2.out)))
          have hln_ : 0 < cr.length := (by have := HC4.out; omega)
          clear hx0 hx1; refine qc4 (n := 8) (S := fun w' => w'.cell? ad = some (.int .i64 (qab cr 0).f0) ∧ w'.cell? ⟨ad.block, ad.off + 1, none⟩ = some (.int .i64 (qab cr 0).f1)) (ds := [6]) #[false, false, false, false, false, false, false, false] (by kernel_rfl) rfl rfl ⟨HX0.out, HX1.out⟩ (fun hHeld => ?_)
          generalize wr.drew = wS at HX0 HX1 HBS BQ hHeld ⊢
          refine qec (i := 0) (N := some 50) (v := ?_) (a' := ?_) #[true, false, false, false, false, false, false, false] rfl rfl (by kernel_rfl) (fun _ _ _ h => h) (Or.inl ⟨by rfl, ?_⟩) ?_ ?_; rotate_left
          · intro w'
            go_simp
            with_reducible rfl
          rotate_left
          · simp only [Act.put, List.setIfInBounds_toArray, List.set_cons_zero, List.set_cons_succ, qbI, qbN]
            rfl
          refine qec (i := 1) (N := some 51) (v := ?_) (a' := ?_) #[true, true, false, false, false, false, false, false] rfl rfl (by kernel_rfl) (fun _ _ _ h => h) (Or.inl ⟨by rfl, ?_⟩) ?_ ?_; rotate_left
          · intro w'
            go_simp
            with_reducible rfl
          rotate_left
          · simp only [Act.put, List.setIfInBounds_toArray, List.set_cons_zero, List.set_cons_succ, qbI, qbN]
            rfl
          refine qec (i := 2) (N := some 52) (v := ?_) (a' := ?_) #[true, true, true, false, false, false, false, false] rfl rfl (by kernel_rfl) (fun _ _ _ h => h) (Or.inl ⟨by rfl, ?_⟩) ?_ ?_; rotate_left
          · intro w'
            go_simp
            with_reducible rfl
          rotate_left
          · simp only [Act.put, List.setIfInBounds_toArray, List.set_cons_zero, List.set_cons_succ, qbI, qbN]
            rfl
          refine qec (i := 3) (N := some 53) (v := ?_) (a' := ?_) #[true, true, true, true, false, false, false, false] rfl rfl (by kernel_rfl) (fun _ _ _ h => h) (Or.inl ⟨by rfl, ?_⟩) ?_ ?_; rotate_left
          · intro w'
            go_simp
            with_reducible rfl
          rotate_left
          · simp only [Act.put, List.setIfInBounds_toArray, List.set_cons_zero, List.set_cons_succ, qbI, qbN]
            rfl
          refine qec (i := 5) (N := some 2) (v := ?_) (a' := ?_) #[true, true, true, true, false, true, false, false] rfl rfl (by kernel_rfl) (fun _ _ _ h => h) (Or.inl ⟨by rfl, ?_⟩) ?_ ?_; rotate_left
          · intro w'
            go_simp
            with_reducible rfl
          rotate_left
          · simp only [Act.put, List.setIfInBounds_toArray, List.set_cons_zero, List.set_cons_succ, qbI, qbN]
            rfl
          refine qg6 (i := 4) (N := some 54) (v := ?_) (a' := ?_) #[true, true, true, true, true, true, false, false] rfl rfl (by kernel_rfl) (fun _ _ _ h => h) (Or.inl ⟨by rfl, ?_⟩) hHeld ?_ ?_; rotate_left
          · rintro w' ⟨s0, s1⟩
            go_simp
            with_reducible rfl
          rotate_left
          · simp only [Act.put, List.setIfInBounds_toArray, List.set_cons_zero, List.set_cons_succ, qbI, qbN]
            rfl
          refine qpc (i := 6) (N := none) #[true, true, true, true, true, true, true, false] rfl rfl (by kernel_rfl) (by decide) (fun K hK => ?_); obtain ⟨hr0_, hr1_, hrf0_, hrf1_⟩ := g2_ BQ.out; refine qmC (w1 := ?_) (by rfl) rfl ?_ ?_; rotate_left
          · go_simp
            rfl
          refine hK.out _ _ ?_; clear hK K; refine qec (i := 7) (N := some 4) (v := ?_) (a' := ?_) #[true, true, true, true, true, true, true, true] rfl rfl (by kernel_rfl) (fun _ _ _ h => h) (Or.inl ⟨by rfl, ?_⟩) ?_ ?_; rotate_left
          · intro w'
            go_simp
            with_reducible rfl
          rotate_left
          · simp only [Act.put, List.setIfInBounds_toArray, List.set_cons_zero, List.set_cons_succ, qbI, qbN]
            rfl
          refine qeF (by kernel_rfl) ?_; go_wp2; refine bodyPost_ret (qdU (rs := [.tmp 2, .cell 3 33, .tmp 4]) rfl (by simp) (.tmp (.cell gQ 33 #[.int .i64 (qab cr 0).f0, .int .i64 (qab cr 0).f1] (0, 0) _ rfl (qaQ (cs' := #[.int .i64 (qab cr 0).f0, .int .i64 (qab cr 0).f1]) (qaQ (cs' := #[.int .i64 (qab cr 0).f0, .int .i64 0]) BQ.out 0 _ rfl) 1 _ rfl) Tryz.underlying33 rfl (by kernel_rfl) (.tmp .nil)))) rfl ?_; have h_ := HFIN.out; simp only [Option.some.injEq, Prod.mk.injEq] at h_; obtain ⟨rfl, rfl, rfl, rfl⟩ := h_; exact ⟨rfl, qaw (qaw (qac (qac (qac HB4.out HBW.out) HW2.out) HBS.out) qks) qks⟩
def qqp : Go.Shelf.Ren := ⟨fun | 171 => 76 | 243 => 101 | 246 => 114 | 283 => 127 | 284 => 128 | 285 => 129 | 286 => 130 | 129 => 142 | 317 => 141 | 318 => 143 | 319 => 144 | 320 => 145 | 337 => 150 | 338 => 151 | n => n, fun | 3 => 3 | 9 => 9 | 2 => 2 | 4 => 4 | 171 => 128 | 0 => 0 | 53 => 73 | 37 => 50 | 5 => 5 | 173 => 131 | 212 => 146 | 51 => 147 | 20 => 20 | 213 => 148 | 46 => 113 | 232 => 158 | 233 => 159 | n => n, fun | 17 => 5 | 18 => 6 | 19 => 7 | n => n⟩
theorem lays171 : Go.Proofs.Lays.n171 Tryz.prog qqp := {
  mixed := by kernel_rfl
  f129 := Tryz.func142.trans (congrArg some (by kernel_rfl))
  f171 := Tryz.func76.trans (congrArg some (by kernel_rfl))
  f243 := Tryz.func101.trans (congrArg some (by kernel_rfl))
  f246 := Tryz.func114.trans (congrArg some (by kernel_rfl))
  f283 := Tryz.func127.trans (congrArg some (by kernel_rfl))
  f284 := Tryz.func128.trans (congrArg some (by kernel_rfl))
  f285 := Tryz.func129.trans (congrArg some (by kernel_rfl))
  f286 := Tryz.func130.trans (congrArg some (by kernel_rfl))
  f317 := Tryz.func141.trans (congrArg some (by kernel_rfl))
  f318 := Tryz.func143.trans (congrArg some (by kernel_rfl))
  f319 := Tryz.func144.trans (congrArg some (by kernel_rfl))
  f320 := Tryz.func145.trans (congrArg some (by kernel_rfl))
  f337 := Tryz.func150.trans (congrArg some (by kernel_rfl))
  f338 := Tryz.func151.trans (congrArg some (by kernel_rfl))
  t0 := Tryz.underlying0
  a0 := Tryz.isAgg0
  z0 := Tryz.sizeOf0
  v0 := Tryz.zeroValue0
  t2 := Tryz.underlying2
  a2 := Tryz.isAgg2
  z2 := Tryz.sizeOf2
  v2 := Tryz.zeroValue2
  t3 := Tryz.underlying3
  a3 := Tryz.isAgg3
  z3 := Tryz.sizeOf3
  v3 := Tryz.zeroValue3
  t4 := Tryz.underlying4
  a4 := Tryz.isAgg4
  z4 := Tryz.sizeOf4
  v4 := Tryz.zeroValue4
  t5 := Tryz.underlying5
  a5 := Tryz.isAgg5
  z5 := Tryz.sizeOf5
  v5 := Tryz.zeroValue5
  t9 := Tryz.underlying9
  a9 := Tryz.isAgg9
  z9 := Tryz.sizeOf9
  v9 := Tryz.zeroValue9
  t20 := Tryz.underlying20
  a20 := Tryz.isAgg20
  z20 := Tryz.sizeOf20
  v20 := Tryz.zeroValue20
  t37 := Tryz.underlying50
  a37 := Tryz.isAgg50
  z37 := Tryz.sizeOf50
  v37 := Tryz.zeroValue50
  t46 := Tryz.underlying113
  a46 := Tryz.isAgg113
  z46 := Tryz.sizeOf113
  v46 := Tryz.zeroValue113
  t51 := Tryz.underlying147
  a51 := Tryz.isAgg147
  z51 := Tryz.sizeOf147
  v51 := Tryz.zeroValue147
  t53 := Tryz.underlying73
  a53 := Tryz.isAgg73
  z53 := Tryz.sizeOf73
  v53 := Tryz.zeroValue73
  t171 := Tryz.underlying128
  a171 := Tryz.isAgg128
  z171 := Tryz.sizeOf128
  v171 := Tryz.zeroValue128
  t173 := Tryz.underlying131
  a173 := Tryz.isAgg131
  z173 := Tryz.sizeOf131
  v173 := Tryz.zeroValue131
  t212 := Tryz.underlying146
  a212 := Tryz.isAgg146
  z212 := Tryz.sizeOf146
  v212 := Tryz.zeroValue146
  t213 := Tryz.underlying148
  a213 := Tryz.isAgg148
  z213 := Tryz.sizeOf148
  t232 := Tryz.underlying158
  a232 := Tryz.isAgg158
  z232 := Tryz.sizeOf158
  v232 := Tryz.zeroValue158
  t233 := Tryz.underlying159
  a233 := Tryz.isAgg159
  z233 := Tryz.sizeOf159
  v233 := Tryz.zeroValue159
  g17 := by kernel_rfl
  g18 := by kernel_rfl
  g19 := by kernel_rfl }
def strconv_Itoa.f (a0 : Int) : Option ByteArray := if 0 ≤ a0 ∧ a0 < 100 then some ⟨(Lib.decDigits a0.toNat).toArray⟩ else none
theorem strconv_Itoa.calls (a0 : Int) (r : ByteArray) (w : World) (h : strconv_Itoa.f a0 = some r) :
    Calls Tryz.prog 76 #[.int .i64 a0] w fun e w' => e = .returned (.string r) ∧ Below w.heap.size w w' := by
  unfold strconv_Itoa.f at h; by_cases hc : 0 ≤ a0 ∧ a0 < 100; rotate_left
  ·rw [if_neg hc] at h; exact absurd h (by simp)
  rw [if_pos hc] at h; obtain rfl := Option.some.inj h
  obtain ⟨n, rfl⟩ : ∃ n : Nat, a0 = (n : Int) := ⟨a0.toNat, by omega⟩
  rw [Int.toNat_natCast]
  exact (Any.strconv_Itoa_small lays171 n (by omega) w).mono fun e w' ⟨he, hw⟩ => ⟨he, hw ▸ Below.refl _ _⟩
def qbr.f (qax : ByteArray) (qaZ : Int) : Option (ByteArray) := if qax.size + 1 ≤ 9223372036854775807 then ((strconv_Itoa.f qaZ).bind fun qaF => (if (qax ++ (⟨#[58]⟩ : ByteArray)).size + qaF.size ≤ 9223372036854775807 then (some ((qax ++ (⟨#[58]⟩ : ByteArray)) ++ qaF)) else (none))) else (none)
def qbr.T1 : Bool × List (List Nat × List Nat) := (true, [([], []), ([0], [0]), ([1], [1]), ([], []), ([3], [3]), ([4], [4]), ([2, 5], [2, 5]), ([6, 5, 0, 1, 2, 3, 4, 5, 6], [6])])
def qbr.B1 : List Nat := [0, 1, 3, 0, 8, 24, 63, 127]
theorem qbr.tab1 : qhA .any (opsOf Tryz.f49 1) = qbr.T1 := by kernel_rfl
theorem qbr.qsP : qeB qbr.T1.2 qbr.B1 = true := by kernel_rfl
theorem qbr.calls (qax : ByteArray) (qaZ : Int) (r : ByteArray) (w : World) (h : qbr.f qax qaZ = some r) :
  Calls Tryz.prog 49 #[.agg #[.string qax, .int .i64 qaZ]] w fun e w' => e = .returned (.string r) ∧ Below w.heap.size w w' := by
 have qis := Tryz.underlying23; have HB := ak_ (Below.refl w.heap.size w); have H : (if qax.size + 1 ≤ 9223372036854775807 then ((strconv_Itoa.f qaZ).bind fun qaF => (if (qax ++ (⟨#[58]⟩ : ByteArray)).size + qaF.size ≤ 9223372036854775807 then (some ((qax ++ (⟨#[58]⟩ : ByteArray)) ++ qaF)) else (none))) else (none)) = some r := h; clear h; by_cases c2 : qax.size + 1 ≤ 9223372036854775807; rotate_left
 ·rw [if_neg c2] at H; exact absurd H (by simp)
 rw [if_pos c2] at H; have qkz := eq_true c2; have c2b1 : decide (qax.size + 1 ≤ 9223372036854775807) = true := decide_eq_true c2
 try have c2b2 : (9223372036854775807 < qax.size + 1) = False := eq_false (Nat.not_lt.2 c2)
 obtain ⟨qaF, A3, H⟩ := qbg H; (try dsimp only at H); by_cases c4 : (qax ++ (⟨#[58]⟩ : ByteArray)).size + qaF.size ≤ 9223372036854775807; rotate_left
 ·rw [if_neg c4] at H; exact absurd H (by simp)
 rw [if_pos c4] at H; have qhC := eq_true c4; have c4b1 : decide ((qax ++ (⟨#[58]⟩ : ByteArray)).size + qaF.size ≤ 9223372036854775807) = true := decide_eq_true c4
 try have c4b2 : (9223372036854775807 < (qax ++ (⟨#[58]⟩ : ByteArray)).size + qaF.size) = False := eq_false (Nat.not_lt.2 c4)
 have c4b3 : (9223372036854775807 < qax.size + 1 + qaF.size) = False := by have e_ : (qax ++ (⟨#[58]⟩ : ByteArray)).size = qax.size + 1 := (ByteArray.size_append).trans rfl; rw [← e_]; exact c4b2
 obtain rfl := Option.some.inj H; go_enter Tryz.func49, Tryz.ntmps49
 try go_wp2_with (first | ((with_reducible refine qas (N := 1) rfl ?_); refine bx_ 1 (cs := #[.string qax, .int .i64 qaZ]) (t := 23) qa0 ?_; intro qaR hg w5 hbox hb; have qai := ak_ (hbox); have qcy := ak_ (HB.ge hg); have qcd := ak_ (HB.ge hg); replace HB := HB.mw hb; clear hb hbox hg))
 replace qai := ak_ (qae qai.out); replace HB := ak_ (qap HB.out); refine qc4 (n := 8) (S := fun w' => w'.cell? ⟨qaR, 0, none⟩ = some (.string qax) ∧ w'.cell? ⟨qaR, 1, none⟩ = some (.int .i64 qaZ)) (ds := []) (rA_ [0, 8]) (by kernel_rfl) rfl rfl ⟨c0_ qai.out, c1_ qai.out⟩ (fun hHeld => ?_); refine qbY qbr.tab1 qbr.qsP (fun HT_ HW_ => ?_)
 generalize w5.drew = w6 at qai HB hHeld ⊢
 refine pu_ 0 3 [1, 7] ?_; refine pu_ 3 6 [1, 2, 1, 4] ?_; refine qim 1 4 [2, 1, 1, 4] ?_; refine pu_ 2 5 [4, 4] ?_; refine qim 4 7 [5, 3] ?_; refine qeZ (i := 5) (N := some 8) (rA_ [6, 2]) rfl rfl (qck HT_.out (by kernel_rfl)) (by decide) (fun K hK => ?_); refine qdw Tryz.func76 (by kernel_rfl) rfl #[.int .i64 qaZ] (by rfl) rfl rfl qbH ?_
 with_reducible refine (strconv_Itoa.calls qaZ qaF _ A3.out).mono ?_
 rintro e w7 ⟨rfl, hb⟩; refine ⟨_, rfl, ?_⟩; replace qai := qai.mw hb; replace HB := ak_ (qac qaM hb); (try clear hb); (try clear hb2); (try clear hk); (try clear hi); refine hK.out _ _ ⟨c0_ qai.out, c1_ qai.out⟩ (fun hHeld => ?_); clear hK K; refine nm_ 8 ?_; refine pu_ 6 9 [7, 1] ?_; refine pu_ 7 2 [8] ?_; refine qeF (qc0 HT_.out (by kernel_rfl)) ?_
 try go_wp2
 go_ret
 exact ⟨qbu, qaM⟩
def qbX.f (qax : ByteArray) (qaZ : Int) : Option (ByteArray × Bool) := (qa6.f qax qaZ).bind fun qaF => (if qaF = true then ((qbr.f qax qaZ).bind fun qaX => (some (qaX, true))) else (some ((⟨#[]⟩ : ByteArray), false)))
theorem qbX.calls (qax : ByteArray) (qaZ : Int) (r1 : ByteArray) (r2 : Bool) (w : World) (h : qbX.f qax qaZ = some (r1, r2)) :
  Calls Tryz.prog 17 #[.agg #[.string qax, .int .i64 qaZ]] w fun e w' => e = .returned (.tuple #[.string r1, .bool r2]) ∧ Below w.heap.size w w' := by
 have qis := Tryz.underlying23; have HB := ak_ (Below.refl w.heap.size w); have H : ((qa6.f qax qaZ).bind fun qaF => (if qaF = true then ((qbr.f qax qaZ).bind fun qaX => (some (qaX, true))) else (some ((⟨#[]⟩ : ByteArray), false)))) = some (r1, r2) := h; clear h; obtain ⟨qaF, A2, H⟩ := qbg H; (try dsimp only at H); by_cases c3 : qaF = true
 ·subst c3; rw [if_pos rfl] at H; obtain ⟨qaX, A4, H⟩ := qbg H; (try dsimp only at H); simp only [Option.some.injEq, Prod.mk.injEq] at H; obtain ⟨rfl, rfl⟩ := H; go_enter Tryz.func17, Tryz.ntmps17
  go_wp2_with (first | ((with_reducible refine qas (N := 1) rfl ?_); refine bx_ 1 (cs := #[.string qax, .int .i64 qaZ]) (t := 23) qa0 ?_; intro qaR hg w5 hbox hb; have qai := ak_ (hbox); have qcy := ak_ (HB.ge hg); have qcd := ak_ (HB.ge hg); replace HB := HB.mw hb; clear hb hbox hg; obtain ⟨qjk, qjl, qka, qjn⟩ := g2_ qai.out) | ((with_reducible refine qad (f := 43) rfl ?_); refine gl_ 5 Tryz.func43 #[.agg #[.string qax, .int .i64 qaZ]] rfl qbH ?_; (with_reducible refine (qa6.calls qax qaZ true _ A2.out).mono ?_); rintro e w7 ⟨rfl, hb⟩; refine ⟨_, rfl, ?_⟩; replace qai := qai.mw hb; replace HB := ak_ (qac qaM hb); (try clear hb); obtain ⟨qgd, qge, qgw, qgf⟩ := g2_ qai.out) | ((with_reducible refine qad (f := 49) rfl ?_); refine gl_ 8 Tryz.func49 #[.agg #[.string qax, .int .i64 qaZ]] rfl qbH ?_; (with_reducible refine (qbr.calls qax qaZ qaX _ A4.out).mono ?_); rintro e w9 ⟨rfl, hb⟩; refine ⟨_, rfl, ?_⟩; replace qai := qai.mw hb; replace HB := ak_ (qac qaM hb); (try clear hb)))
  go_ret2
  exact ⟨qbu, qaM⟩
 replace c3 := Bool.eq_false_iff.mpr c3; subst c3; rw [if_neg (show ¬ (false = true) by decide)] at H; simp only [Option.some.injEq, Prod.mk.injEq] at H; obtain ⟨rfl, rfl⟩ := H; go_enter Tryz.func17, Tryz.ntmps17
 go_wp2_with (first | ((with_reducible refine qas (N := 1) rfl ?_); refine bx_ 1 (cs := #[.string qax, .int .i64 qaZ]) (t := 23) qa0 ?_; intro qaR hg w10 hbox hb; have qai := ak_ (hbox); have qcy := ak_ (HB.ge hg); have qcd := ak_ (HB.ge hg); replace HB := HB.mw hb; clear hb hbox hg; obtain ⟨qgs, qgt, qgu, qgv⟩ := g2_ qai.out) | ((with_reducible refine qad (f := 43) rfl ?_); refine gl_ 5 Tryz.func43 #[.agg #[.string qax, .int .i64 qaZ]] rfl qbH ?_; (with_reducible refine (qa6.calls qax qaZ false _ A2.out).mono ?_); rintro e w12 ⟨rfl, hb⟩; refine ⟨_, rfl, ?_⟩; replace qai := qai.mw hb; replace HB := ak_ (qac qaM hb); (try clear hb)))
 go_ret2
 exact ⟨qbu, qaM⟩
def qcc.f : Nat → Int → Option (ByteArray)
 | 0, _ => none
 | k + 1, a0 => if a0 < 10 then (some (strOfNums (([(wrap64 (48 + a0)) % 256] : List Int)))) else ((qcc.f k (wrap64 (Int.tdiv a0 10))).bind fun qcz => ((some (([(wrap64 (48 + (Int.tmod a0 10))) % 256] : List Int) : List Int)).bind fun qmI => (if qcz.size + (strOfNums qmI).size ≤ 9223372036854775807 then (some (qcz ++ (strOfNums qmI))) else (none))))
def qcc.T3 : Bool × List (List Nat × List Nat) := (true, [([], []), ([0], [0]), ([1], [1]), ([], []), ([3], [3]), ([4], [4]), ([5], [5]), ([6], [6]), ([7], [7]), ([2, 8], [2, 8]), ([9, 2, 0, 1, 2, 3, 4, 5, 6, 7, 8, 9], [9])])
def qcc.B3 : List Nat := [0, 1, 3, 0, 8, 24, 56, 120, 248, 511, 1023]
theorem qcc.tab3 : qhA .any (opsOf Tryz.f50 3) = qcc.T3 := by kernel_rfl
theorem qcc.qrv : qeB qcc.T3.2 qcc.B3 = true := by kernel_rfl
theorem qcc.calls (k : Nat) : ∀ (a0 : Int) (r : ByteArray) (w : World) (h : qcc.f k a0 = some r),
  Calls Tryz.prog 50 #[.int .i64 a0] w fun e w' => e = .returned (.string r) ∧ Below w.heap.size w w' := by
 induction k using Nat.strongRecOn with
 | _ k ih =>
 intro a0 r w h
 cases k with
 | zero => exact absurd h (by simp [qcc.f])
 | succ k =>
 simp only [qcc.f] at h; have HB := ak_ (Below.refl w.heap.size w); have H : (if a0 < 10 then (some (strOfNums (([(wrap64 (48 + a0)) % 256] : List Int)))) else ((qcc.f k (wrap64 (Int.tdiv a0 10))).bind fun qcz => ((some (([(wrap64 (48 + (Int.tmod a0 10))) % 256] : List Int) : List Int)).bind fun qmI => (if qcz.size + (strOfNums qmI).size ≤ 9223372036854775807 then (some (qcz ++ (strOfNums qmI))) else (none))))) = some r := h; clear h; by_cases c2 : a0 < 10
 ·rw [if_pos c2] at H; have qkz : decide (a0 < 10) = true := decide_eq_true c2; clear c2
  obtain ⟨y101, hy_⟩ : ∃ y_ : List Int, y_ = (([(wrap64 (48 + a0)) % 256] : List Int)) := ⟨_, rfl⟩
  replace H : (some (strOfNums y101)) = some r := qkD; have qpQ := ak_ hy_; clear hy_; obtain rfl := Option.some.inj H; go_enter Tryz.func50, Tryz.ntmps50
  go_wp2_with (first | ((with_reducible refine qas (N := 8) rfl ?_); refine Kd.qgJ (Kd.int .u8) _ 5 ?hg (N := 8) ?hd (xs := ([(wrap64 (48 + a0)) % 256] : List Int)) (inner := [.int .u8 ((wrap64 (48 + a0)) % 256)]) (ok := fun _ => True) (okp := fun _ => True) ?hr ?hp (fun _ hk => hk) trivial (Below.refl _ _) (Nat.le_refl _) (by simp) ?_; (case hd => rfl); (case hg => rfl); (case hr => exact qa0); (case hp => exact (qcg.one (show Kd.M (Kd.int .u8) _ _ _ ((wrap64 (48 + a0)) % 256) [.int .u8 ((wrap64 (48 + a0)) % 256)] from rfl) (qcg.none _ _))); intro v102 w3 ho4 hb hg_ hnew_; clear hg_ hnew_; (first | rw [← qpQ.out] at ho4 | (simp only [Int.reduceToNat] at ho4; rw [← qpQ.out] at ho4)); have qoG := ak_ (Kd.qbv ho4 (qal qct)); replace HB := HB.mw hb; clear hb ho4; have hcv5 := qdW (P := Tryz.prog) Tryz.underlying50 Tryz.underlying5 Tryz.underlying9 (Kd.qff qoG.out)))
  go_ret
  exact ⟨qbu, qct⟩
 rw [if_neg c2] at H; have qkz : decide (a0 < 10) = false := decide_eq_false c2; clear c2; obtain ⟨qcz, A6, H⟩ := qbg H; (try dsimp only at H)
 obtain ⟨qmI, hy_⟩ : ∃ y_ : List Int, y_ = (([(wrap64 (48 + (Int.tmod a0 10))) % 256] : List Int)) := ⟨_, rfl⟩
 replace H : (if qcz.size + (strOfNums qmI).size ≤ 9223372036854775807 then (some (qcz ++ (strOfNums qmI))) else (none)) = some r := qkD; have qnp := ak_ hy_; clear hy_; by_cases c7 : qcz.size + (strOfNums qmI).size ≤ 9223372036854775807; rotate_left
 ·rw [if_neg c7] at H; exact absurd H (by simp)
 rw [if_pos c7] at H; have qiF := eq_true c7; have qmO : decide (qcz.size + (strOfNums qmI).size ≤ 9223372036854775807) = true := decide_eq_true c7
 try have c7b2 : (9223372036854775807 < qcz.size + (strOfNums qmI).size) = False := eq_false (Nat.not_lt.2 c7)
 obtain rfl := Option.some.inj H; go_enter Tryz.func50, Tryz.ntmps50
 try go_wp2
 replace HB := ak_ (qap HB.out); refine qc4 (n := 11) (S := fun w' => True) (ds := []) (rA_ [0, 11]) (by kernel_rfl) rfl rfl trivial (fun hHeld => ?_); refine qbY qcc.tab3 qcc.qrv (fun HT_ HW_ => ?_)
 generalize w.drew = w8 at HB hHeld ⊢
 refine pu_ 0 10 [1, 10] ?_; refine pu_ 1 11 [2, 9] ?_; refine pu_ 3 13 [2, 1, 1, 7] ?_; refine pu_ 4 14 [2, 1, 2, 6] ?_; refine pu_ 5 15 [2, 1, 3, 5] ?_; refine pu_ 6 16 [2, 1, 4, 4] ?_; refine qtQ (σ := Value) 2 (rA_ [9, 2]) (fun s_ => [(12, .string qcz), (17, s_), (18, .string (strOfNums qmI))]) (fun s_ w' => (Kd.R (Kd.int .u8) 5 w' w.heap.size (fun _ => True) s_ qmI) ∧ (Below w.heap.size w w')) ?_ ?_; rotate_left
 ·intro hCont; refine two_ (i := 2) (j := 7) (Ni := some 12) (Nj := some 17) (rA_ [7, 4]) (rA_ [2, 1, 5, 3]) rfl rfl rfl rfl (qq9 HT_.out (by kernel_rfl)) (by decide) (by decide) (fun K hK => ?_) (fun K hK => ?_)
  ·skip
   refine qdw Tryz.func50 (by kernel_rfl) rfl #[.int .i64 (wrap64 (Int.tdiv a0 10))] (by rfl) rfl rfl qbH ?_
   with_reducible refine (ih k (by omega) (wrap64 (Int.tdiv a0 10)) qcz _ A6.out).mono ?_
   rintro e w9 ⟨rfl, hb⟩; refine ⟨_, rfl, ?_⟩; replace HB := HB.mw hb; (try clear hb); (try clear hb2); (try clear hk); (try clear hi); refine hK.out _ _ trivial (fun hHeld => ?_); clear hK K; refine nm_ 12 ?_; refine qeZ (i := 7) (N := some 17) (rA_ [8, 3]) rfl rfl (qck HT_.out (by kernel_rfl)) (by decide) (fun K hK => ?_); refine Kd.qdb (Kd.int .u8) _ 5 ?hg (N := 17) ?hd (xs := ([(wrap64 (48 + (Int.tmod a0 10))) % 256] : List Int)) (inner := [.int .u8 ((wrap64 (48 + (Int.tmod a0 10))) % 256)]) (ok := fun _ => True) (okp := fun _ => True) ?hr ?hp (fun _ hk => hk) trivial (Below.refl _ _) (Nat.le_refl _) (by simp) ?_; (case hd => rfl); (case hg => rfl); (case hr => exact qa0); (case hp => exact (qcg.one (show Kd.M (Kd.int .u8) _ _ _ ((wrap64 (48 + (Int.tmod a0 10))) % 256) [.int .u8 ((wrap64 (48 + (Int.tmod a0 10))) % 256)] from rfl) (qcg.none _ _))); intro qjB w10 ho11 hb hg_ hnew_; clear hg_ hnew_; (first | rw [← qnp.out] at ho11 | (simp only [Int.reduceToNat] at ho11; rw [← qnp.out] at ho11)); have qcB := ak_ (Kd.qbv ho11 (qal qct)); replace HB := HB.mw hb; clear hb ho11; refine hK.out _ _ trivial (fun hHeld => ?_); clear hK K; refine nm_ 17 ?_; refine qeZ (i := 8) (N := some 18) (rA_ [9, 2]) rfl rfl (qck HT_.out (by kernel_rfl)) (by decide) (fun K hK => ?_); have hcv12 := qdW (P := Tryz.prog) Tryz.underlying50 Tryz.underlying5 Tryz.underlying9 (Kd.qff qcB.out); refine quk (w1 := ?_) (v := ?_) (by rfl) rfl ?_ ?_; rotate_left 2
   ·go_simp; constructor
    ·rfl
    rfl
   clear hcv12; refine hK.out _ _ trivial (fun hHeld => ?_); clear hK K; refine nm_ 18 ?_; exact qeK qrO (hCont (qjB) _ ⟨(by apply_rules only [qcB.out, Kd.qaA, Kd.qaz, Kd.qaL]), qct⟩)
  skip
  refine Kd.qdb (Kd.int .u8) _ 5 ?hg (N := 17) ?hd (xs := ([(wrap64 (48 + (Int.tmod a0 10))) % 256] : List Int)) (inner := [.int .u8 ((wrap64 (48 + (Int.tmod a0 10))) % 256)]) (ok := fun _ => True) (okp := fun _ => True) ?hr ?hp (fun _ hk => hk) trivial (Below.refl _ _) (Nat.le_refl _) (by simp) ?_; (case hd => rfl); (case hg => rfl); (case hr => exact qa0); (case hp => exact (qcg.one (show Kd.M (Kd.int .u8) _ _ _ ((wrap64 (48 + (Int.tmod a0 10))) % 256) [.int .u8 ((wrap64 (48 + (Int.tmod a0 10))) % 256)] from rfl) (qcg.none _ _))); intro qjB w9 qtN hb hg_ hnew_; clear hg_ hnew_; (first | rw [← qnp.out] at qtN | (simp only [Int.reduceToNat] at qtN; rw [← qnp.out] at qtN)); have qcB := ak_ (Kd.qbv qtN (qal qct)); replace HB := HB.mw hb; clear hb qtN; refine hK.out _ _ trivial (fun hHeld => ?_); clear hK K; refine nm_ 17 ?_; refine two_ (i := 2) (j := 8) (Ni := some 12) (Nj := some 18) (rA_ [8, 3]) (rA_ [2, 1, 6, 2]) rfl rfl rfl rfl (qq9 HT_.out (by kernel_rfl)) (by decide) (by decide) (fun K hK => ?_) (fun K hK => ?_)
  ·skip
   refine qdw Tryz.func50 (by kernel_rfl) rfl #[.int .i64 (wrap64 (Int.tdiv a0 10))] (by rfl) rfl rfl qbH ?_
   with_reducible refine (ih k (by omega) (wrap64 (Int.tdiv a0 10)) qcz _ A6.out).mono ?_
   rintro e w11 ⟨rfl, hb⟩; refine ⟨_, rfl, ?_⟩; replace qcB := qcB.mw hb; replace HB := HB.mw hb; (try clear hb); (try clear hb2); (try clear hk); (try clear hi); refine hK.out _ _ trivial (fun hHeld => ?_); clear hK K; refine nm_ 12 ?_; refine qeZ (i := 8) (N := some 18) (rA_ [9, 2]) rfl rfl (qck HT_.out (by kernel_rfl)) (by decide) (fun K hK => ?_); have hcv12 := qdW (P := Tryz.prog) Tryz.underlying50 Tryz.underlying5 Tryz.underlying9 (Kd.qff qcB.out); refine quk (w1 := ?_) (v := ?_) (by rfl) rfl ?_ ?_; rotate_left 2
   ·go_simp; constructor
    ·rfl
    rfl
   clear hcv12; refine hK.out _ _ trivial (fun hHeld => ?_); clear hK K; refine nm_ 18 ?_; exact qeK qrO (hCont (qjB) _ ⟨(by apply_rules only [qcB.out, Kd.qaA, Kd.qaz, Kd.qaL]), qct⟩)
  skip
  have hcv11 := qdW (P := Tryz.prog) Tryz.underlying50 Tryz.underlying5 Tryz.underlying9 (Kd.qff qcB.out); refine quk (w1 := ?_) (v := ?_) (by rfl) rfl ?_ ?_; rotate_left 2
  ·go_simp; constructor
   ·rfl
   rfl
  clear hcv11; refine hK.out _ _ trivial (fun hHeld => ?_); clear hK K; refine nm_ 18 ?_; refine qeZ (i := 2) (N := some 12) (rA_ [9, 2]) rfl rfl (qck HT_.out (by kernel_rfl)) (by decide) (fun K hK => ?_); refine qdw Tryz.func50 (by kernel_rfl) rfl #[.int .i64 (wrap64 (Int.tdiv a0 10))] (by rfl) rfl rfl qbH ?_
  with_reducible refine (ih k (by omega) (wrap64 (Int.tdiv a0 10)) qcz _ A6.out).mono ?_
  rintro e w12 ⟨rfl, hb⟩; refine ⟨_, rfl, ?_⟩; replace qcB := qcB.mw hb; replace HB := HB.mw hb; (try clear hb); (try clear hb2); (try clear hk); (try clear hi); refine hK.out _ _ trivial (fun hHeld => ?_); clear hK K; refine nm_ 12 ?_; exact qeK qrO (hCont (qjB) _ ⟨(by apply_rules only [qcB.out, Kd.qaA, Kd.qaz, Kd.qaL]), qct⟩)
 rintro qjB w13 ⟨h0_, h1_⟩
 have n0_ : qah (Kd.R (Kd.int .u8) 5 w13 w.heap.size (fun _ => True) qjB qmI) := ⟨h0_⟩
 have n1_ : qah (Below w.heap.size w w13) := ⟨h1_⟩
 clear HB; clear h0_ h1_; have qcB := n0_; have HB := n1_; clear n0_ n1_; have hHeld := trivial; refine qeK (a' := ?_) ?_ ?_; rotate_left
 ·simp only [qjt, Act.put, List.setIfInBounds_toArray, List.set_cons_zero, List.set_cons_succ]; rfl
 refine pu_ 9 19 [10, 1] ?_; refine pu_ 10 2 [11] ?_; refine qeF (qc0 HT_.out (by kernel_rfl)) ?_
 try go_wp2
 go_ret
 exact ⟨qbu, qct⟩
def qbs.f (k : Nat) (qax : ByteArray) (qaZ : Int) : Option (ByteArray × Bool) := (qbj.f k qax qaZ).bind fun qaF => (if qaF = true then (if qax.size + 1 ≤ 9223372036854775807 then ((qcc.f k qaZ).bind fun qaX => (if (qax ++ (⟨#[58]⟩ : ByteArray)).size + qaX.size ≤ 9223372036854775807 then (some ((qax ++ (⟨#[58]⟩ : ByteArray)) ++ qaX, true)) else (none))) else (none)) else (some ((⟨#[]⟩ : ByteArray), false)))
def qbs.T3 : Bool × List (List Nat × List Nat) := (true, [([], []), ([0], [0]), ([1], [1]), ([], []), ([3], [3]), ([4], [4]), ([2, 5], [2, 5]), ([6, 5, 0, 1, 2, 3, 4, 5, 6], [6]), ([7, 0, 1, 2, 3, 4, 5, 6, 7], [])])
def qbs.B3 : List Nat := [0, 1, 3, 0, 8, 24, 63, 127, 255]
theorem qbs.tab3 : qhA .any (opsOf Tryz.f18 3) = qbs.T3 := by kernel_rfl
theorem qbs.qrv : qeB qbs.T3.2 qbs.B3 = true := by kernel_rfl
theorem qbs.calls (k : Nat) (qax : ByteArray) (qaZ : Int) (r1 : ByteArray) (r2 : Bool) (w : World) (h : qbs.f k qax qaZ = some (r1, r2)) :
  Calls Tryz.prog 18 #[.agg #[.string qax, .int .i64 qaZ]] w fun e w' => e = .returned (.tuple #[.string r1, .bool r2]) ∧ Below w.heap.size w w' := by
 have qis := Tryz.underlying23; have HB := ak_ (Below.refl w.heap.size w); have H : ((qbj.f k qax qaZ).bind fun qaF => (if qaF = true then (if qax.size + 1 ≤ 9223372036854775807 then ((qcc.f k qaZ).bind fun qaX => (if (qax ++ (⟨#[58]⟩ : ByteArray)).size + qaX.size ≤ 9223372036854775807 then (some ((qax ++ (⟨#[58]⟩ : ByteArray)) ++ qaX, true)) else (none))) else (none)) else (some ((⟨#[]⟩ : ByteArray), false)))) = some (r1, r2) := h; clear h; obtain ⟨qaF, A2, H⟩ := qbg H; (try dsimp only at H); by_cases c3 : qaF = true; rotate_left
 ·replace c3 := Bool.eq_false_iff.mpr c3; subst c3; rw [if_neg (show ¬ (false = true) by decide)] at H; simp only [Option.some.injEq, Prod.mk.injEq] at H; obtain ⟨rfl, rfl⟩ := H; go_enter Tryz.func18, Tryz.ntmps18
  go_wp2_with (first | ((with_reducible refine qas (N := 1) rfl ?_); refine bx_ 1 (cs := #[.string qax, .int .i64 qaZ]) (t := 23) qa0 ?_; intro qaR hg w12 hbox hb; have qai := ak_ (hbox); have qcy := ak_ (HB.ge hg); have qcd := ak_ (HB.ge hg); replace HB := HB.mw hb; clear hb hbox hg; obtain ⟨qnP, qnQ, qn7, qn8⟩ := g2_ qai.out) | ((with_reducible refine qad (f := 45) rfl ?_); refine gl_ 5 Tryz.func45 #[.agg #[.string qax, .int .i64 qaZ]] rfl qbH ?_; (with_reducible refine (qbj.calls k qax qaZ false _ A2.out).mono ?_); rintro e w14 ⟨rfl, hb⟩; refine ⟨_, rfl, ?_⟩; replace qai := qai.mw hb; replace HB := ak_ (qac qaM hb); (try clear hb)))
  go_ret2
  exact ⟨qbu, qaM⟩
 subst c3; rw [if_pos rfl] at H; by_cases c4 : qax.size + 1 ≤ 9223372036854775807; rotate_left
 ·rw [if_neg c4] at H; exact absurd H (by simp)
 rw [if_pos c4] at H; have qhC := eq_true c4; have c4b1 : decide (qax.size + 1 ≤ 9223372036854775807) = true := decide_eq_true c4
 try have c4b2 : (9223372036854775807 < qax.size + 1) = False := eq_false (Nat.not_lt.2 c4)
 obtain ⟨qaX, A5, H⟩ := qbg H; (try dsimp only at H); by_cases c6 : (qax ++ (⟨#[58]⟩ : ByteArray)).size + qaX.size ≤ 9223372036854775807; rotate_left
 ·rw [if_neg c6] at H; exact absurd H (by simp)
 rw [if_pos c6] at H; have qkk := eq_true c6; have qr1 : decide ((qax ++ (⟨#[58]⟩ : ByteArray)).size + qaX.size ≤ 9223372036854775807) = true := decide_eq_true c6
 try have c6b2 : (9223372036854775807 < (qax ++ (⟨#[58]⟩ : ByteArray)).size + qaX.size) = False := eq_false (Nat.not_lt.2 c6)
 have c6b3 : (9223372036854775807 < qax.size + 1 + qaX.size) = False := by have e_ : (qax ++ (⟨#[58]⟩ : ByteArray)).size = qax.size + 1 := (ByteArray.size_append).trans rfl; rw [← e_]; exact c6b2
 simp only [Option.some.injEq, Prod.mk.injEq] at H; obtain ⟨rfl, rfl⟩ := H; go_enter Tryz.func18, Tryz.ntmps18
 try go_wp2_with (first | ((with_reducible refine qas (N := 1) rfl ?_); refine bx_ 1 (cs := #[.string qax, .int .i64 qaZ]) (t := 23) qa0 ?_; intro qaR hg w7 hbox hb; have qai := ak_ (hbox); have qcy := ak_ (HB.ge hg); have qcd := ak_ (HB.ge hg); replace HB := HB.mw hb; clear hb hbox hg; obtain ⟨qgd, qge, qgw, qgf⟩ := g2_ qai.out) | ((with_reducible refine qad (f := 45) rfl ?_); refine gl_ 5 Tryz.func45 #[.agg #[.string qax, .int .i64 qaZ]] rfl qbH ?_; (with_reducible refine (qbj.calls k qax qaZ true _ A2.out).mono ?_); rintro e w9 ⟨rfl, hb⟩; refine ⟨_, rfl, ?_⟩; replace qai := qai.mw hb; replace HB := ak_ (qac qaM hb); (try clear hb)))
 replace qai := ak_ (qae qai.out); replace HB := ak_ (qap HB.out); refine qc4 (n := 9) (S := fun w' => w'.cell? ⟨qaR, 0, none⟩ = some (.string qax) ∧ w'.cell? ⟨qaR, 1, none⟩ = some (.int .i64 qaZ)) (ds := []) (rA_ [0, 9]) (by kernel_rfl) rfl rfl ⟨c0_ qai.out, c1_ qai.out⟩ (fun hHeld => ?_); refine qbY qbs.tab3 qbs.qrv (fun HT_ HW_ => ?_)
 generalize w9.drew = w10 at qai HB hHeld ⊢
 refine pu_ 0 7 [1, 8] ?_; refine pu_ 3 10 [1, 2, 1, 5] ?_; refine qim 1 8 [2, 1, 1, 5] ?_; refine pu_ 2 9 [4, 5] ?_; refine qim 4 11 [5, 4] ?_; refine qeZ (i := 5) (N := some 12) (rA_ [6, 3]) rfl rfl (qck HT_.out (by kernel_rfl)) (by decide) (fun K hK => ?_); refine qdw Tryz.func50 (by kernel_rfl) rfl #[.int .i64 qaZ] (by rfl) rfl rfl qbH ?_
 with_reducible refine (qcc.calls k qaZ qaX _ A5.out).mono ?_
 rintro e w11 ⟨rfl, hb⟩; refine ⟨_, rfl, ?_⟩; replace qai := qai.mw hb; replace HB := ak_ (qac qaM hb); (try clear hb); (try clear hb2); (try clear hk); (try clear hi); refine hK.out _ _ ⟨c0_ qai.out, c1_ qai.out⟩ (fun hHeld => ?_); clear hK K; refine nm_ 12 ?_; refine pu_ 6 13 [7, 2] ?_; refine pu_ 7 2 [8, 1] ?_; refine pu_ 8 3 [9] ?_; refine qeF (qc0 HT_.out (by kernel_rfl)) ?_
 try go_wp2
 go_ret2
 exact ⟨qbu, qaM⟩
section
attribute [local go_sem] qfb qfd qfX qfY qex qey qfc qfe
attribute [local go_sem high] qoO
def qbc.l0 : Nat → List (qaj) → List (qaj) → Int → Int → Option (Bool)
 | 0, _, _, _, _ => none
 | k + 1, x0, x1, x12, x13 => if x13 < x12 then (if 0 ≤ x13 then (if x13 < (x0.length : Int) then (if x13 < (x1.length : Int) then (if (!(((qab x0 x13).f0) == ((qab x1 x13).f0)) || (!(((qab x0 x13).f1) == ((qab x1 x13).f1)))) = true then (some false) else (qbc.l0 k x0 x1 x12 (wrap64 (x13 + 1)))) else (none)) else (none)) else (none)) else (some true)
def qbc.f (k : Nat) (l0 : List (qaj)) (l1 : List (qaj)) : Option (Bool) := if (l0.length : Int) = (l1.length : Int) then (qbc.l0 k l0 l1 (l0.length : Int) 0) else (some false)
theorem qbc.calls (k : Nat) (A0 : Option Addr) (c0 : Nat) (l0 : List (qaj)) (A1 : Option Addr) (c1 : Nat) (l1 : List (qaj)) (r : Bool) (w : World) (hr0 : Kd.C qa1 w A0 l0.length l0) (hc0 : l0.length ≤ c0) (hr1 : Kd.C qa1 w A1 l1.length l1) (hc1 : l1.length ≤ c1) (h : qbc.f k l0 l1 = some r) :
  Calls Tryz.prog 20 #[.slice A0 l0.length c0, .slice A1 l1.length c1] w fun e w' => e = .returned (.bool r) ∧ qdX w w' := by
 have qkB := Tryz.underlying33; have HR0 := ak_ hr0; have HC0 := ak_ hc0; clear hr0 hc0; have HR1 := ak_ hr1; have HC1 := ak_ hc1; clear hr1 hc1; have H : (if (l0.length : Int) = (l1.length : Int) then (qbc.l0 k l0 l1 (l0.length : Int) 0) else (some false)) = some r := h; clear h; by_cases c3 : (l0.length : Int) = (l1.length : Int); rotate_left
 ·rw [if_neg c3] at H; have qii : ((l0.length : Int) == (l1.length : Int)) = false := beq_eq_false_iff_ne.mpr c3; have qr0 : ((l0.length : Int) != (l1.length : Int)) = true := bne_iff_ne.mpr c3
  have c3b2 : (l0.length == l1.length) = false := by first | simpa using c3 | (simp at c3 ⊢; omega)
  obtain rfl := Option.some.inj H; go_enter Tryz.func20, Tryz.ntmps20; go_wp2
  repeat (go_quiet (fail); try go_wp2)
  go_ret
  exact ⟨qbf, qdQ⟩
 rw [if_pos c3] at H; have qii : ((l0.length : Int) == (l1.length : Int)) = true := beq_iff_eq.mpr c3; have qr0 : ((l0.length : Int) != (l1.length : Int)) = false := bne_eq_false_iff_eq.mpr c3
 have c3b2 : (l0.length == l1.length) = true := by first | simpa using c3 | (simp at c3 ⊢; omega)
 clear c3; have H' := ak_ H; clear H; go_enter Tryz.func20, Tryz.ntmps20; go_wp2
 repeat (go_quiet (fail); try go_wp2)
 go_loopg [13] k (fun kq v13 w' => ∃ (qcu : Int), v13 = .int .i64 qcu ∧ qah (qbc.l0 kq l0 l1 (l0.length : Int) qcu = some r) ∧ qah (kq ≤ k) ∧ qdX w w')
 case atStart => exact ⟨(0), qbf, H', ⟨Nat.le_refl _⟩, qdQ⟩
 case round =>
  clear H'; (try clear c3); (try clear qii); (try clear qr0); (try clear c3b2); obtain ⟨qcu, rfl, HA, HK1, ⟨m1, rfl⟩⟩ := hrel
  cases gk with
  | zero => exact absurd HA.out (by simp [qbc.l0])
  | succ k1 =>
   have H := HA.out; clear HA; simp only [qbc.l0] at H; by_cases c4 : qcu < (l0.length : Int); rotate_left
   ·rw [if_neg c4] at H; have qhC : decide (qcu < (l0.length : Int)) = false := decide_eq_false c4; clear c4; obtain rfl := Option.some.inj H; go_wp2
    repeat (go_quiet (fail); try go_wp2)
    go_ret
    exact ⟨qbf, qdQ⟩
   rw [if_pos c4] at H; have qhC : decide (qcu < (l0.length : Int)) = true := decide_eq_true c4; clear c4; by_cases c5 : 0 ≤ qcu; rotate_left
   ·rw [if_neg c5] at H; exact absurd H (by simp)
   rw [if_pos c5] at H; have qi5 : decide (0 ≤ qcu) = true := decide_eq_true c5; clear c5; by_cases c6 : qcu < (l0.length : Int); rotate_left
   ·rw [if_neg c6] at H; exact absurd H (by simp)
   rw [if_pos c6] at H; have qkk : decide (qcu < (l0.length : Int)) = true := decide_eq_true c6; clear c6; by_cases c7 : qcu < (l1.length : Int); rotate_left
   ·rw [if_neg c7] at H; exact absurd H (by simp)
   rw [if_pos c7] at H; have qiF : decide (qcu < (l1.length : Int)) = true := decide_eq_true c7; clear c7; by_cases c8 : (!(((qab l0 qcu).f0) == ((qab l1 qcu).f0)) || (!(((qab l0 qcu).f1) == ((qab l1 qcu).f1)))) = true
   ·rw [if_pos c8] at H; have c8b0 : (!(((qab l0 qcu).f0) == ((qab l1 qcu).f0)) || (!(((qab l0 qcu).f1) == ((qab l1 qcu).f1)))) = true := c8; clear c8; obtain rfl := Option.some.inj H; have qgC : 0 ≤ (qcu : Int) := of_decide_eq_true qa7; have qgD : qcu < (l0.length : Int) := of_decide_eq_true qa7; obtain ⟨qk9, qll, qds, qe6⟩ := qcn HR0.out qcu qgC qgD
    cases qll
    replace qgC := eq_true qgC; replace qgD := eq_true qgD; have qhk : 0 ≤ (qcu : Int) := of_decide_eq_true qa7; have qhl : qcu < (l1.length : Int) := of_decide_eq_true qa7; obtain ⟨qnu, qnJ, qdt, qdF⟩ := qcn HR1.out qcu qhk qhl
    cases qnJ
    replace qhk := eq_true qhk; replace qhl := eq_true qhl; go_wp2
    repeat (go_quiet (fail); try go_wp2)
    go_ret
    exact ⟨qbf, qdQ⟩
   rw [if_neg c8] at H
   have c8b0 : (!(((qab l0 qcu).f0) == ((qab l1 qcu).f0)) || (!(((qab l0 qcu).f1) == ((qab l1 qcu).f1)))) = false := by simpa using c8
   clear c8; have H' := ak_ H; clear H; have qgC : 0 ≤ (qcu : Int) := of_decide_eq_true qa7; have qgD : qcu < (l0.length : Int) := of_decide_eq_true qa7; obtain ⟨qk9, qll, qds, qe6⟩ := qcn HR0.out qcu qgC qgD
   cases qll
   replace qgC := eq_true qgC; replace qgD := eq_true qgD; have qhk : 0 ≤ (qcu : Int) := of_decide_eq_true qa7; have qhl : qcu < (l1.length : Int) := of_decide_eq_true qa7; obtain ⟨qnu, qnJ, qdt, qdF⟩ := qcn HR1.out qcu qhk qhl
   cases qnJ
   replace qhk := eq_true qhk; replace qhl := eq_true qhl; go_wp2
   repeat (go_quiet (fail); try go_wp2)
   go_roundg k1
   case measure => have := HK1.out; omega
   case rel => exact ⟨(wrap64 (qcu + 1)), qbf, H', ⟨qgi⟩, qdQ⟩
end
def qbK.l0 : Nat → List (List (qaj)) → List (List (qaj)) → Int → Int → Option (Bool)
 | 0, _, _, _, _ => none
 | k + 1, x0, x1, x12, x13 => if x13 < x12 then (if 0 ≤ x13 then (if x13 < (x0.length : Int) then (if x13 < (x1.length : Int) then ((qbc.f k (qar x0 x13) (qar x1 x13)).bind fun qaX => (if qaX = true then (qbK.l0 k x0 x1 x12 (wrap64 (x13 + 1))) else (some false))) else (none)) else (none)) else (none)) else (some true)
def qbK.f (k : Nat) (l0 : List (List (qaj))) (l1 : List (List (qaj))) : Option (Bool) := if (l0.length : Int) = (l1.length : Int) then (qbK.l0 k l0 l1 (l0.length : Int) 0) else (some false)
theorem qbK.calls (k : Nat) (A0 : Option Addr) (c0 : Nat) (l0 : List (List (qaj))) (A1 : Option Addr) (c1 : Nat) (l1 : List (List (qaj))) (r : Bool) (w : World) (hr0 : Kd.C (Kd.slice 33 qa1) w A0 l0.length l0) (hc0 : l0.length ≤ c0) (hr1 : Kd.C (Kd.slice 33 qa1) w A1 l1.length l1) (hc1 : l1.length ≤ c1) (h : qbK.f k l0 l1 = some r) :
  Calls Tryz.prog 19 #[.slice A0 l0.length c0, .slice A1 l1.length c1] w fun e w' => e = .returned (.bool r) ∧ qdX w w' := by
 have HR0 := ak_ hr0; have HC0 := ak_ hc0; clear hr0 hc0; have HR1 := ak_ hr1; have HC1 := ak_ hc1; clear hr1 hc1; have H : (if (l0.length : Int) = (l1.length : Int) then (qbK.l0 k l0 l1 (l0.length : Int) 0) else (some false)) = some r := h; clear h; by_cases c3 : (l0.length : Int) = (l1.length : Int); rotate_left
 ·rw [if_neg c3] at H; have qii : ((l0.length : Int) == (l1.length : Int)) = false := beq_eq_false_iff_ne.mpr c3; have qr0 : ((l0.length : Int) != (l1.length : Int)) = true := bne_iff_ne.mpr c3
  have c3b2 : (l0.length == l1.length) = false := by first | simpa using c3 | (simp at c3 ⊢; omega)
  obtain rfl := Option.some.inj H; go_enter Tryz.func19, Tryz.ntmps19; go_wp2
  repeat (go_quiet (fail); try go_wp2)
  go_ret
  exact ⟨qbf, qdQ⟩
 rw [if_pos c3] at H; have qii : ((l0.length : Int) == (l1.length : Int)) = true := beq_iff_eq.mpr c3; have qr0 : ((l0.length : Int) != (l1.length : Int)) = false := bne_eq_false_iff_eq.mpr c3
 have c3b2 : (l0.length == l1.length) = true := by first | simpa using c3 | (simp at c3 ⊢; omega)
 clear c3; have H' := ak_ H; clear H; go_enter Tryz.func19, Tryz.ntmps19; go_wp2
 repeat (go_quiet (fail); try go_wp2)
 go_loopg [13] k (fun kq v13 w' => ∃ (qcu : Int), v13 = .int .i64 qcu ∧ qah (qbK.l0 kq l0 l1 (l0.length : Int) qcu = some r) ∧ qah (kq ≤ k) ∧ qdX w w')
 case atStart => exact ⟨(0), qbf, H', ⟨Nat.le_refl _⟩, qdQ⟩
 case round =>
  clear H'; (try clear c3); (try clear qii); (try clear qr0); (try clear c3b2); obtain ⟨qcu, rfl, HA, HK1, ⟨m1, rfl⟩⟩ := hrel
  cases gk with
  | zero => exact absurd HA.out (by simp [qbK.l0])
  | succ k1 =>
   have H := HA.out; clear HA; simp only [qbK.l0] at H; by_cases c4 : qcu < (l0.length : Int); rotate_left
   ·rw [if_neg c4] at H; have qhC : decide (qcu < (l0.length : Int)) = false := decide_eq_false c4; clear c4; obtain rfl := Option.some.inj H; go_wp2
    repeat (go_quiet (fail); try go_wp2)
    go_ret
    exact ⟨qbf, qdQ⟩
   rw [if_pos c4] at H; have qhC : decide (qcu < (l0.length : Int)) = true := decide_eq_true c4; clear c4; by_cases c5 : 0 ≤ qcu; rotate_left
   ·rw [if_neg c5] at H; exact absurd H (by simp)
   rw [if_pos c5] at H; have qi5 : decide (0 ≤ qcu) = true := decide_eq_true c5; clear c5; by_cases c6 : qcu < (l0.length : Int); rotate_left
   ·rw [if_neg c6] at H; exact absurd H (by simp)
   rw [if_pos c6] at H; have qkk : decide (qcu < (l0.length : Int)) = true := decide_eq_true c6; clear c6; by_cases c7 : qcu < (l1.length : Int); rotate_left
   ·rw [if_neg c7] at H; exact absurd H (by simp)
   rw [if_pos c7] at H; have qiF : decide (qcu < (l1.length : Int)) = true := decide_eq_true c7; clear c7; obtain ⟨qaX, A8, H⟩ := qbg H; (try dsimp only at H); by_cases c9 : qaX = true
   ·subst c9; rw [if_pos rfl] at H; have H' := ak_ H; clear H; have qgC : 0 ≤ (qcu : Int) := of_decide_eq_true qa7; have qgD : qcu < (l0.length : Int) := of_decide_eq_true qa7; obtain ⟨qk9, A101_0, c101_0, qll, qds, qlN, qlJ⟩ := qfI HR0.out qcu qgC qgD
    cases qll
    have qsk := ak_ qlJ; have qiB := ak_ qlN; clear qlJ qlN; replace qgC := eq_true qgC; replace qgD := eq_true qgD; have qhk : 0 ≤ (qcu : Int) := of_decide_eq_true qa7; have qhl : qcu < (l1.length : Int) := of_decide_eq_true qa7; obtain ⟨qnu, A102_0, c102_0, qnJ, qdt, qlO, qlK⟩ := qfI HR1.out qcu qhk qhl
    cases qnJ
    have qsl := ak_ qlK; have qiC := ak_ qlO; clear qlK qlO; replace qhk := eq_true qhk; replace qhl := eq_true qhl
    go_wp2_with (first | (go_at_call 20; (with_reducible refine (qbc.calls k1 _ _ (qar l0 qcu) _ _ (qar l1 qcu) true _ ?qaB ?qaC ?qdz ?qdA A8.out).mono ?_); (case qaB => exact k78_); (case qaC => exact qiB.out); (case qdz => exact k79_); (case qdA => exact qiC.out); rintro e w' ⟨rfl, ⟨nd, rfl⟩⟩; (try first | exact ⟨rfl, _, World.drewN_drewN _ _ _⟩ | exact ⟨rfl, _, Eq.trans (World.drewN_drewN _ _ _) (congrArg (World.drewN _) (Nat.add_assoc _ _ _))⟩)))
    repeat (go_quiet (first | (go_at_call 20; (with_reducible refine (qbc.calls k1 _ _ (qar l0 qcu) _ _ (qar l1 qcu) true _ ?qaB ?qaC ?qdz ?qdA A8.out).mono ?_); (case qaB => exact k78_); (case qaC => exact qiB.out); (case qdz => exact k79_); (case qdA => exact qiC.out); rintro e w' ⟨rfl, ⟨nd, rfl⟩⟩; (try first | exact ⟨rfl, _, World.drewN_drewN _ _ _⟩ | exact ⟨rfl, _, Eq.trans (World.drewN_drewN _ _ _) (congrArg (World.drewN _) (Nat.add_assoc _ _ _))⟩))); try go_wp2_with (first | (go_at_call 20; (with_reducible refine (qbc.calls k1 _ _ (qar l0 qcu) _ _ (qar l1 qcu) true _ ?qaB ?qaC ?qdz ?qdA A8.out).mono ?_); (case qaB => exact k78_); (case qaC => exact qiB.out); (case qdz => exact k79_); (case qdA => exact qiC.out); rintro e w' ⟨rfl, ⟨nd, rfl⟩⟩; (try first | exact ⟨rfl, _, World.drewN_drewN _ _ _⟩ | exact ⟨rfl, _, Eq.trans (World.drewN_drewN _ _ _) (congrArg (World.drewN _) (Nat.add_assoc _ _ _))⟩))))
    go_roundg k1
    case measure => have := HK1.out; omega
    case rel => exact ⟨(wrap64 (qcu + 1)), qbf, H', ⟨qgi⟩, qdQ⟩
   replace c9 := Bool.eq_false_iff.mpr c9; subst c9; rw [if_neg (show ¬ (false = true) by decide)] at H; obtain rfl := Option.some.inj H; have qgC : 0 ≤ (qcu : Int) := of_decide_eq_true qa7; have qgD : qcu < (l0.length : Int) := of_decide_eq_true qa7; obtain ⟨qk9, A101_0, c101_0, qll, qds, qlN, qlJ⟩ := qfI HR0.out qcu qgC qgD
   cases qll
   have qsk := ak_ qlJ; have qiB := ak_ qlN; clear qlJ qlN; replace qgC := eq_true qgC; replace qgD := eq_true qgD; have qhk : 0 ≤ (qcu : Int) := of_decide_eq_true qa7; have qhl : qcu < (l1.length : Int) := of_decide_eq_true qa7; obtain ⟨qnu, A102_0, c102_0, qnJ, qdt, qlO, qlK⟩ := qfI HR1.out qcu qhk qhl
   cases qnJ
   have qsl := ak_ qlK; have qiC := ak_ qlO; clear qlK qlO; replace qhk := eq_true qhk; replace qhl := eq_true qhl
   go_wp2_with (first | (go_at_call 20; (with_reducible refine (qbc.calls k1 _ _ (qar l0 qcu) _ _ (qar l1 qcu) false _ ?qaB ?qaC ?qdz ?qdA A8.out).mono ?_); (case qaB => exact k78_); (case qaC => exact qiB.out); (case qdz => exact k79_); (case qdA => exact qiC.out); rintro e w' ⟨rfl, ⟨nd, rfl⟩⟩; (try first | exact ⟨rfl, _, World.drewN_drewN _ _ _⟩ | exact ⟨rfl, _, Eq.trans (World.drewN_drewN _ _ _) (congrArg (World.drewN _) (Nat.add_assoc _ _ _))⟩)))
   repeat (go_quiet (first | (go_at_call 20; (with_reducible refine (qbc.calls k1 _ _ (qar l0 qcu) _ _ (qar l1 qcu) false _ ?qaB ?qaC ?qdz ?qdA A8.out).mono ?_); (case qaB => exact k78_); (case qaC => exact qiB.out); (case qdz => exact k79_); (case qdA => exact qiC.out); rintro e w' ⟨rfl, ⟨nd, rfl⟩⟩; (try first | exact ⟨rfl, _, World.drewN_drewN _ _ _⟩ | exact ⟨rfl, _, Eq.trans (World.drewN_drewN _ _ _) (congrArg (World.drewN _) (Nat.add_assoc _ _ _))⟩))); try go_wp2_with (first | (go_at_call 20; (with_reducible refine (qbc.calls k1 _ _ (qar l0 qcu) _ _ (qar l1 qcu) false _ ?qaB ?qaC ?qdz ?qdA A8.out).mono ?_); (case qaB => exact k78_); (case qaC => exact qiB.out); (case qdz => exact k79_); (case qdA => exact qiC.out); rintro e w' ⟨rfl, ⟨nd, rfl⟩⟩; (try first | exact ⟨rfl, _, World.drewN_drewN _ _ _⟩ | exact ⟨rfl, _, Eq.trans (World.drewN_drewN _ _ _) (congrArg (World.drewN _) (Nat.add_assoc _ _ _))⟩))))
   go_ret
   exact ⟨qbf, qdQ⟩
def qby.f (qax : ByteArray) (qaZ : Int) : Option (Bool) := (qa6.f qax qaZ).bind fun qaF => (some qaF)
theorem qby.calls (qax : ByteArray) (qaZ : Int) (r : Bool) (w : World) (h : qby.f qax qaZ = some r) :
  Calls Tryz.prog 21 #[.agg #[.string qax, .int .i64 qaZ]] w fun e w' => e = .returned (.bool r) ∧ Below w.heap.size w w' := by
 have qis := Tryz.underlying23; have HB := ak_ (Below.refl w.heap.size w); have H : ((qa6.f qax qaZ).bind fun qaF => (some qaF)) = some r := h; clear h; obtain ⟨qaF, A2, H⟩ := qbg H; (try dsimp only at H); obtain rfl := Option.some.inj H; go_enter Tryz.func21, Tryz.ntmps21
 go_wp2_with (first | ((with_reducible refine qas (N := 1) rfl ?_); refine bx_ 1 (cs := #[.string qax, .int .i64 qaZ]) (t := 23) qa0 ?_; intro qaR hg w3 hbox hb; have qai := ak_ (hbox); have qcy := ak_ (HB.ge hg); have qcd := ak_ (HB.ge hg); replace HB := HB.mw hb; clear hb hbox hg; obtain ⟨qmW, qmX, qmY, qmZ⟩ := g2_ qai.out) | ((with_reducible refine qad (f := 43) rfl ?_); refine gl_ 4 Tryz.func43 #[.agg #[.string qax, .int .i64 qaZ]] rfl qbH ?_; (with_reducible refine (qa6.calls qax qaZ qaF _ A2.out).mono ?_); rintro e w5 ⟨rfl, hb⟩; refine ⟨_, rfl, ?_⟩; replace qai := qai.mw hb; replace HB := ak_ (qac qaM hb); (try clear hb)))
 go_ret
 exact ⟨qbu, qaM⟩
def qcw.f (k : Nat) (qax : ByteArray) (qaZ : Int) : Option (Bool) := (qbj.f k qax qaZ).bind fun qaF => (some qaF)
theorem qcw.calls (k : Nat) (qax : ByteArray) (qaZ : Int) (r : Bool) (w : World) (h : qcw.f k qax qaZ = some r) :
  Calls Tryz.prog 22 #[.agg #[.string qax, .int .i64 qaZ]] w fun e w' => e = .returned (.bool r) ∧ Below w.heap.size w w' := by
 have qis := Tryz.underlying23; have HB := ak_ (Below.refl w.heap.size w); have H : ((qbj.f k qax qaZ).bind fun qaF => (some qaF)) = some r := h; clear h; obtain ⟨qaF, A2, H⟩ := qbg H; (try dsimp only at H); obtain rfl := Option.some.inj H; go_enter Tryz.func22, Tryz.ntmps22
 go_wp2_with (first | ((with_reducible refine qas (N := 1) rfl ?_); refine bx_ 1 (cs := #[.string qax, .int .i64 qaZ]) (t := 23) qa0 ?_; intro qaR hg w3 hbox hb; have qai := ak_ (hbox); have qcy := ak_ (HB.ge hg); have qcd := ak_ (HB.ge hg); replace HB := HB.mw hb; clear hb hbox hg; obtain ⟨qmW, qmX, qmY, qmZ⟩ := g2_ qai.out) | ((with_reducible refine qad (f := 45) rfl ?_); refine gl_ 4 Tryz.func45 #[.agg #[.string qax, .int .i64 qaZ]] rfl qbH ?_; (with_reducible refine (qbj.calls k qax qaZ qaF _ A2.out).mono ?_); rintro e w5 ⟨rfl, hb⟩; refine ⟨_, rfl, ?_⟩; replace qai := qai.mw hb; replace HB := ak_ (qac qaM hb); (try clear hb)))
 go_ret
 exact ⟨qbu, qaM⟩
def qfL.f (l0 : List Int) (l1 : List Int) : Option (Bool) := if (l0.length : Int) > 1048576 then (some true) else (some (decide ((l1.length : Int) > (wrap64 (1048576 - (l0.length : Int))))))
theorem qfL.calls (A0 : Option Addr) (c0 : Nat) (l0 : List Int) (A1 : Option Addr) (c1 : Nat) (l1 : List Int) (r : Bool) (w : World) (hr0 : Kd.C (Kd.int .u8) w A0 l0.length l0) (hc0 : l0.length ≤ c0) (hr1 : Kd.C (Kd.int .u8) w A1 l1.length l1) (hc1 : l1.length ≤ c1) (h : qfL.f l0 l1 = some r) :
  Calls Tryz.prog 31 #[.slice A0 l0.length c0, .slice A1 l1.length c1] w fun e w' => e = .returned (.bool r) ∧ qdX w w' := by
 have HR0 := ak_ hr0; have HC0 := ak_ hc0; clear hr0 hc0; have HR1 := ak_ hr1; have HC1 := ak_ hc1; clear hr1 hc1; have H : (if (l0.length : Int) > 1048576 then (some true) else (some (decide ((l1.length : Int) > (wrap64 (1048576 - (l0.length : Int))))))) = some r := h; clear h; by_cases c3 : (l0.length : Int) > 1048576
 ·rw [if_pos c3] at H; have qii : decide (1048576 < (l0.length : Int)) = true := decide_eq_true c3; have qr0 : decide (1048576 < l0.length) = true := decide_eq_true (by omega); clear c3; obtain rfl := Option.some.inj H; go_enter Tryz.func31, Tryz.ntmps31; go_wp2
  go_ret
  exact ⟨qbf, qdQ⟩
 rw [if_neg c3] at H; have qii : decide (1048576 < (l0.length : Int)) = false := decide_eq_false c3; have qr0 : decide (1048576 < l0.length) = false := decide_eq_false (by omega); clear c3; obtain rfl := Option.some.inj H; go_enter Tryz.func31, Tryz.ntmps31; go_wp2
 go_ret
 exact ⟨qbf, qdQ⟩
def qaE (w0 W : World) (g : Nat) (f0 : List Int) (f1 : Int) (f2 : Int) : Prop := ∃ A0 c0, W.heap[g]? = some (.cells #[.slice A0 f0.length c0, .int .i64 f1, .int .u64 f2] 75 (0, 0)) ∧ w0.heap.size ≤ g ∧ Kd.C (Kd.int .u8) w0 A0 f0.length f0
theorem qaE.grown {w0 W : World} {g : Nat} {f0 : List Int} {f1 : Int} {f2 : Int} {W1 : World} {row : Option Nat} (h : qaE w0 W g f0 f1 f2) (hw : W.grownBy W1 row) (hne : some g ≠ row) : qaE w0 W1 g f0 f1 f2 := by
 obtain ⟨A0, c0, hb, hg, hr0⟩ := h; exact ⟨A0, c0, qev hb hw hne, hg, hr0⟩
theorem qaE.own_neN {w0 W : World} {g : Nat} {f0 : List Int} {f1 : Int} {f2 : Int} {α : Type} {d : Kd α} {e : Nat} {base : Nat} {ok : Nat → Prop} {v : Value} {xs : List α} (h : qaE w0 W g f0 f1 f2) (ho : Kd.N d e W base ok v xs) (ht : e ≠ 75) : some g ≠ v.ownBlock := by
 obtain ⟨A0, c0, hb, hg, hr0⟩ := h; exact Kd.N_ne ho hb ht
theorem qaE.fresh {w0 W : World} {g : Nat} {f0 : List Int} {f1 : Int} {f2 : Int} (h : qaE w0 W g f0 f1 f2) : ∀ k, W.heap.size ≤ k → k ≠ g := by
 obtain ⟨A0, c0, hb, hg, hr0⟩ := h; exact Kd.qoT hb
theorem qaE.kept {w0 W : World} {g : Nat} {f0 : List Int} {f1 : Int} {f2 : Int} {W1 : World} {S : Nat → Prop} (h : qaE w0 W g f0 f1 f2) (hk : Kept W W1 S) (hne : ¬ S g) : qaE w0 W1 g f0 f1 f2 := by
 obtain ⟨A0, c0, hb, hg, hr0⟩ := h; exact ⟨A0, c0, blk_kept hb hk hne, hg, hr0⟩
theorem qaE.below {w0 W : World} {g : Nat} {f0 : List Int} {f1 : Int} {f2 : Int} {W1 : World} (h : qaE w0 W g f0 f1 f2) (hw : Below W.heap.size W W1) : qaE w0 W1 g f0 f1 f2 := h.grown (qb9 hw none) (by simp)
theorem qaE.alloc {w0 W : World} {g : Nat} {f0 : List Int} {f1 : Int} {f2 : Int} (h : qaE w0 W g f0 f1 f2) (o : Obj) : qaE w0 (W.alloc o) g f0 f1 f2 := h.below (qau (Below.refl _ _) o)
theorem qaE.drewN {w0 W : World} {g : Nat} {f0 : List Int} {f1 : Int} {f2 : Int} (h : qaE w0 W g f0 f1 f2) (m : Nat) : qaE w0 (W.drewN m) g f0 f1 f2 := h
theorem qaE.drew {w0 W : World} {g : Nat} {f0 : List Int} {f1 : Int} {f2 : Int} (h : qaE w0 W g f0 f1 f2) : qaE w0 W.drew g f0 f1 f2 := h
theorem qaE.at_ {w0 W : World} {g : Nat} {f0 : List Int} {f1 : Int} {f2 : Int} {w' : World} {m : Nat} (hq : W.drewN m = w') (h : qaE w0 W g f0 f1 f2) : qaE w0 w' g f0 f1 f2 := by subst hq; exact qaE.drewN h m
theorem qaE.apart {w0 W : World} {g : Nat} {f0 : List Int} {f1 : Int} {f2 : Int} {α : Type} {d : Kd α} {e : Nat} {base : Nat} {ok : Nat → Prop} {v : Value} {xs : List α} (h : qaE w0 W g f0 f1 f2) (ho : d.R e W base ok v xs) (ht : ∀ q, q ∈ e :: d.E → q ≠ 75) : d.R e W base (fun k => ok k ∧ k ≠ g) v xs := by
 obtain ⟨A0, c0, hb, hg, hr0⟩ := h; exact Kd.qgo ho hb ht
theorem qaE.qgg {w0 W : World} {g : Nat} {f0 : List Int} {f1 : Int} {f2 : Int} {α : Type} {d : Kd α} {e : Nat} {base : Nat} {ok : Nat → Prop} {v : Value} {xs : List α} (h : qaE w0 W g f0 f1 f2) (ho : d.R e W base ok v xs) (ht : e ≠ 75) : some g ≠ v.ownBlock := by
 obtain ⟨A0, c0, hb, hg, hr0⟩ := h; exact Kd.qsH ho hb ht
theorem qaE.apartQ {w0 W : World} {g : Nat} {f0 : List Int} {f1 : Int} {f2 : Int} {α : Type} {d : Kd α} {e : Nat} {base : Nat} {ok : Nat → Prop} {v : Value} {xs : List α} (h : qaE w0 W g f0 f1 f2) (ho : d.Q e W base ok v xs) (ht : ∀ q, q ∈ e :: d.E → q ≠ 75) : d.Q e W base (fun k => ok k ∧ k ≠ g) v xs := by
 obtain ⟨A0, c0, hb, hg, hr0⟩ := h; exact Kd.qns ho hb ht
theorem qaE.own_neQ {w0 W : World} {g : Nat} {f0 : List Int} {f1 : Int} {f2 : Int} {α : Type} {d : Kd α} {e : Nat} {base : Nat} {ok : Nat → Prop} {v : Value} {xs : List α} (h : qaE w0 W g f0 f1 f2) (ho : d.Q e W base ok v xs) (ht : e ≠ 75) : some g ≠ v.ownBlock := by
 obtain ⟨A0, c0, hb, hg, hr0⟩ := h; exact Kd.Q_ne ho hb ht
theorem qaE.apartS {w0 W : World} {g : Nat} {f0 : List Int} {f1 : Int} {f2 : Int} {α : Type} {d : Kd α} {e : Nat} {base : Nat} {ok : Nat → Prop} {v : Value} {xs : List α} (h : qaE w0 W g f0 f1 f2) (ho : d.S e W base ok v xs) (ht : ∀ q, q ∈ e :: d.E → q ≠ 75) : d.S e W base (fun k => ok k ∧ k ≠ g) v xs := by
 obtain ⟨A0, c0, hb, hg, hr0⟩ := h; exact Kd.S_types ho hb ht
theorem qaE.own_neS {w0 W : World} {g : Nat} {f0 : List Int} {f1 : Int} {f2 : Int} {α : Type} {d : Kd α} {e : Nat} {base : Nat} {ok : Nat → Prop} {v : Value} {xs : List α} (h : qaE w0 W g f0 f1 f2) (ho : d.S e W base ok v xs) (ht : e ≠ 75) : some g ≠ v.ownBlock := by
 obtain ⟨A0, c0, hb, hg, hr0⟩ := h; exact Kd.S_ne ho hb ht
theorem qaE.lt {w0 W : World} {g : Nat} {f0 : List Int} {f1 : Int} {f2 : Int} (h : qaE w0 W g f0 f1 f2) : g < W.heap.size := by
 obtain ⟨A0, c0, hb, hg, hr0⟩ := h; exact qdK hb
theorem qaE.ge {w0 W : World} {g : Nat} {f0 : List Int} {f1 : Int} {f2 : Int} (h : qaE w0 W g f0 f1 f2) : w0.heap.size ≤ g := by
 obtain ⟨A0, c0, hb, hg, hr0⟩ := h; exact hg
theorem qaE.ne_blk {w0 W : World} {g : Nat} {f0 : List Int} {f1 : Int} {f2 : Int} {a : Nat} {cs : Array Value} {t : TypeId} {fr : Nat × Nat} (h : qaE w0 W g f0 f1 f2) (hb2 : W.heap[a]? = some (.cells cs t fr)) (ht : t ≠ 75) : g ≠ a := by
 obtain ⟨A0, c0, hb, hg, hr0⟩ := h; rintro rfl; rw [hb] at hb2
 injection hb2 with hb2
 injection hb2 with _ ht2
 exact ht ht2.symm
theorem qaE.far {w0 W : World} {g : Nat} {f0 : List Int} {f1 : Int} {f2 : Int} {p : Addr} (h : qaE w0 W g f0 f1 f2) (hne : g ≠ p.block) (u : Value) : qaE w0 (W.setCell p u) g f0 f1 f2 := by
 obtain ⟨A0, c0, hb, hg, hr0⟩ := h; exact ⟨A0, c0, qa3 hb hne u, hg, hr0⟩
theorem qjc {W : World} {g : Nat} {A0 : Option Addr} {c0 : Nat} {f0 : List Int} {f1 : Int} {f2 : Int} (h : W.heap[g]? = some (.cells #[.slice A0 f0.length c0, .int .i64 f1, .int .u64 f2] 75 (0, 0))) : W.cell? ⟨g, 0, none⟩ = some (.slice A0 f0.length c0) := (qaO h 0).trans rfl
theorem qjd {W : World} {g : Nat} {A0 : Option Addr} {c0 : Nat} {f0 : List Int} {f1 : Int} {f2 : Int} (h : W.heap[g]? = some (.cells #[.slice A0 f0.length c0, .int .i64 f1, .int .u64 f2] 75 (0, 0))) : W.cell? ⟨g, 1, none⟩ = some (.int .i64 f1) := (qaO h 1).trans rfl
theorem qaE.qt7 {w0 W : World} {g : Nat} {f0 : List Int} {f1 : Int} {f2 : Int} (h : qaE w0 W g f0 f1 f2) (x : Int) : qaE w0 (W.setCell ⟨g, 1, none⟩ (.int .i64 x)) g f0 x f2 := by
 obtain ⟨A0, c0, hb, hg, hr0⟩ := h; exact ⟨A0, c0, by simpa using qnz hb 1 (.int .i64 x), hg, hr0⟩
theorem qje {W : World} {g : Nat} {A0 : Option Addr} {c0 : Nat} {f0 : List Int} {f1 : Int} {f2 : Int} (h : W.heap[g]? = some (.cells #[.slice A0 f0.length c0, .int .i64 f1, .int .u64 f2] 75 (0, 0))) : W.cell? ⟨g, 2, none⟩ = some (.int .u64 f2) := (qaO h 2).trans rfl
theorem qaE.qt8 {w0 W : World} {g : Nat} {f0 : List Int} {f1 : Int} {f2 : Int} (h : qaE w0 W g f0 f1 f2) (x : Int) : qaE w0 (W.setCell ⟨g, 2, none⟩ (.int .u64 x)) g f0 f1 x := by
 obtain ⟨A0, c0, hb, hg, hr0⟩ := h; exact ⟨A0, c0, by simpa using qnz hb 2 (.int .u64 x), hg, hr0⟩
theorem qaE.new (w0 W : World) (A0 : Option Addr) (c0 : Nat) (f0 : List Int) (f1 : Int) (f2 : Int) (hB : Below w0.heap.size w0 W) (hr0 : Kd.C (Kd.int .u8) w0 A0 f0.length f0) : qaE w0 (W.alloc (.cells #[.slice A0 f0.length c0, .int .i64 f1, .int .u64 f2] 75)) W.heap.size f0 f1 f2 := ⟨A0, c0, by simpa using heap_alloc_new W _, hB.size, hr0⟩
def qcE.f (qbi : List Int) (qcZ : Int) (qdR : Int) : Option (Int × Int × Int) := if qcZ < (qbi.length : Int) then (if 0 ≤ qcZ then (if (wrap64 (qcZ + 1)) ≤ (qbi.length : Int) then (some (wrap64 (rd qbi qcZ), wrap64 (qcZ + 1), IntKind.u64.wrap ((IntKind.u64.wrap ((IntKind.u64.wrap (qdR * 6364136223846793005)) + (IntKind.u64.wrap (wrap64 (rd qbi qcZ))))) + 1442695040888963407))) else (some (wrap64 (Go.bits .and .u64 ((IntKind.u64.wrap ((IntKind.u64.wrap ((IntKind.u64.wrap (qdR * 6364136223846793005)) + (IntKind.u64.wrap (wrap64 (rd qbi qcZ))))) + 1442695040888963407)) / 1099511627776) 255), wrap64 (qcZ + 1), IntKind.u64.wrap ((IntKind.u64.wrap ((IntKind.u64.wrap (qdR * 6364136223846793005)) + (IntKind.u64.wrap (wrap64 (rd qbi qcZ))))) + 1442695040888963407)))) else (none)) else (if (wrap64 (qcZ + 1)) ≤ (qbi.length : Int) then (some (0, wrap64 (qcZ + 1), IntKind.u64.wrap ((IntKind.u64.wrap ((IntKind.u64.wrap (qdR * 6364136223846793005)) + 0)) + 1442695040888963407))) else (some (wrap64 (Go.bits .and .u64 ((IntKind.u64.wrap ((IntKind.u64.wrap ((IntKind.u64.wrap (qdR * 6364136223846793005)) + 0)) + 1442695040888963407)) / 1099511627776) 255), wrap64 (qcZ + 1), IntKind.u64.wrap ((IntKind.u64.wrap ((IntKind.u64.wrap (qdR * 6364136223846793005)) + 0)) + 1442695040888963407))))
theorem qcE.calls (g : Nat) (qbi : List Int) (qcZ : Int) (qdR : Int) (r1 : Int) (r2 : Int) (r3 : Int) (w0 w : World) (hI : qaE w0 w g qbi qcZ qdR) (hB : Below w0.heap.size w0 w) (h : qcE.f qbi qcZ qdR = some (r1, r2, r3)) :
  Calls Tryz.prog 92 #[.pointer (some ⟨g, 0, none⟩)] w fun e w' => e = .returned (.int .i64 r1) ∧ qaE w0 w' g qbi r2 r3 ∧ Below w0.heap.size w0 w' ∧ qak w w' g none := by
 have HI0 := ak_ hI; have HK := ak_ (qak.refl w g none); have HL := ak_ hB.size; clear hI; have HW0 := ak_ hB.size; have HB := ak_ hB; clear hB; have H : (if qcZ < (qbi.length : Int) then (if 0 ≤ qcZ then (if (wrap64 (qcZ + 1)) ≤ (qbi.length : Int) then (some (wrap64 (rd qbi qcZ), wrap64 (qcZ + 1), IntKind.u64.wrap ((IntKind.u64.wrap ((IntKind.u64.wrap (qdR * 6364136223846793005)) + (IntKind.u64.wrap (wrap64 (rd qbi qcZ))))) + 1442695040888963407))) else (some (wrap64 (Go.bits .and .u64 ((IntKind.u64.wrap ((IntKind.u64.wrap ((IntKind.u64.wrap (qdR * 6364136223846793005)) + (IntKind.u64.wrap (wrap64 (rd qbi qcZ))))) + 1442695040888963407)) / 1099511627776) 255), wrap64 (qcZ + 1), IntKind.u64.wrap ((IntKind.u64.wrap ((IntKind.u64.wrap (qdR * 6364136223846793005)) + (IntKind.u64.wrap (wrap64 (rd qbi qcZ))))) + 1442695040888963407)))) else (none)) else (if (wrap64 (qcZ + 1)) ≤ (qbi.length : Int) then (some (0, wrap64 (qcZ + 1), IntKind.u64.wrap ((IntKind.u64.wrap ((IntKind.u64.wrap (qdR * 6364136223846793005)) + 0)) + 1442695040888963407))) else (some (wrap64 (Go.bits .and .u64 ((IntKind.u64.wrap ((IntKind.u64.wrap ((IntKind.u64.wrap (qdR * 6364136223846793005)) + 0)) + 1442695040888963407)) / 1099511627776) 255), wrap64 (qcZ + 1), IntKind.u64.wrap ((IntKind.u64.wrap ((IntKind.u64.wrap (qdR * 6364136223846793005)) + 0)) + 1442695040888963407))))) = some (r1, r2, r3) := h; clear h; by_cases c2 : qcZ < (qbi.length : Int); rotate_left
 ·rw [if_neg c2] at H; have qkz : decide (qcZ < (qbi.length : Int)) = false := decide_eq_false c2; clear c2; by_cases c7 : (wrap64 (qcZ + 1)) ≤ (qbi.length : Int)
  ·rw [if_pos c7] at H; have qiF : decide ((wrap64 (qcZ + 1)) ≤ (qbi.length : Int)) = true := decide_eq_true c7; clear c7; simp only [Option.some.injEq, Prod.mk.injEq] at H; obtain ⟨rfl, rfl, rfl⟩ := H; obtain ⟨ASz8_0, cSz8_0, HGz8, hgz8, HSz8_0⟩ := HI0.out; have qgd := qjc HGz8; have qge := qjd HGz8; have hcz8_2 := qje HGz8; have qgf := qaU HGz8 1; have hfz8_2 := qaU HGz8 2; clear HGz8 hgz8; go_enter Tryz.func92, Tryz.ntmps92; go_wp2
   repeat (go_quiet (fail); try go_wp2)
   go_ret
   (try simp only [Int.add_zero]); exact ⟨qbu, qcO, qdL, qcT⟩
  rw [if_neg c7] at H; have qiF : decide ((wrap64 (qcZ + 1)) ≤ (qbi.length : Int)) = false := decide_eq_false c7; clear c7; simp only [Option.some.injEq, Prod.mk.injEq] at H; obtain ⟨rfl, rfl, rfl⟩ := H; obtain ⟨ASz9_0, cSz9_0, HGz9, hgz9, HSz9_0⟩ := HI0.out; have qly := qjc HGz9; have qlz := qjd HGz9; have hcz9_2 := qje HGz9; have qlI := qaU HGz9 1; have hfz9_2 := qaU HGz9 2; clear HGz9 hgz9; go_enter Tryz.func92, Tryz.ntmps92; go_wp2
  repeat (go_quiet (fail); try go_wp2)
  go_ret
  (try simp only [Int.add_zero]); exact ⟨qbu, qcO, qdL, qcT⟩
 rw [if_pos c2] at H; have qkz : decide (qcZ < (qbi.length : Int)) = true := decide_eq_true c2; clear c2; by_cases c3 : 0 ≤ qcZ; rotate_left
 ·rw [if_neg c3] at H; exact absurd H (by simp)
 rw [if_pos c3] at H; have qii : decide (0 ≤ qcZ) = true := decide_eq_true c3; clear c3; by_cases c4 : (wrap64 (qcZ + 1)) ≤ (qbi.length : Int)
 ·rw [if_pos c4] at H; have qhC : decide ((wrap64 (qcZ + 1)) ≤ (qbi.length : Int)) = true := decide_eq_true c4; clear c4; simp only [Option.some.injEq, Prod.mk.injEq] at H; obtain ⟨rfl, rfl, rfl⟩ := H; obtain ⟨ASz5_0, cSz5_0, HGz5, hgz5, HSz5_0⟩ := HI0.out; have qtw := qjc HGz5; have qtx := qjd HGz5; have hcz5_2 := qje HGz5; have qtE := qaU HGz5 1; have hfz5_2 := qaU HGz5 2; clear HGz5 hgz5; have qgC : 0 ≤ (qcZ : Int) := of_decide_eq_true qa7; have qgD : qcZ < (qbi.length : Int) := of_decide_eq_true qa7; obtain ⟨qk9, qll, qds⟩ := Kd.qmN HSz5_0 qcZ qgC qgD
  cases qll
  replace qds := qay HB.out qds; replace qgC := eq_true qgC; replace qgD := eq_true qgD; go_enter Tryz.func92, Tryz.ntmps92; go_wp2
  repeat (go_quiet (fail); try go_wp2)
  go_ret
  (try simp only [Int.add_zero]); exact ⟨qbu, qcO, qdL, qcT⟩
 rw [if_neg c4] at H; have qhC : decide ((wrap64 (qcZ + 1)) ≤ (qbi.length : Int)) = false := decide_eq_false c4; clear c4; simp only [Option.some.injEq, Prod.mk.injEq] at H; obtain ⟨rfl, rfl, rfl⟩ := H; obtain ⟨ASz6_0, cSz6_0, HGz6, hgz6, HSz6_0⟩ := HI0.out; have qjk := qjc HGz6; have qjl := qjd HGz6; have hcz6_2 := qje HGz6; have qjn := qaU HGz6 1; have hfz6_2 := qaU HGz6 2; clear HGz6 hgz6; have qgC : 0 ≤ (qcZ : Int) := of_decide_eq_true qa7; have qgD : qcZ < (qbi.length : Int) := of_decide_eq_true qa7; obtain ⟨qk9, qll, qds⟩ := Kd.qmN HSz6_0 qcZ qgC qgD
 cases qll
 replace qds := qay HB.out qds; replace qgC := eq_true qgC; replace qgD := eq_true qgD; go_enter Tryz.func92, Tryz.ntmps92; go_wp2
 repeat (go_quiet (fail); try go_wp2)
 go_ret
 (try simp only [Int.add_zero]); exact ⟨qbu, qcO, qdL, qcT⟩
def qan.f (qbi : List Int) (qcZ : Int) (qdR : Int) (a1 : Int) : Option (Int × Int × Int) := if a1 ≤ 1 then (some (0, qcZ, qdR)) else ((qcE.f qbi qcZ qdR).bind fun qb6 => (if a1 > 200 then ((qcE.f qbi qb6.2.1 qb6.2.2).bind fun qfa => (if a1 = 0 then (none) else (some (Int.tmod (wrap64 ((wrap64 (qb6.1 * 256)) + qfa.1)) a1, qfa.2.1, qfa.2.2)))) else (if a1 = 0 then (none) else (some (Int.tmod qb6.1 a1, qb6.2.1, qb6.2.2)))))
theorem qan.calls (g : Nat) (qbi : List Int) (qcZ : Int) (qdR : Int) (a1 : Int) (r1 : Int) (r2 : Int) (r3 : Int) (w0 w : World) (hI : qaE w0 w g qbi qcZ qdR) (hB : Below w0.heap.size w0 w) (h : qan.f qbi qcZ qdR a1 = some (r1, r2, r3)) :
  Calls Tryz.prog 66 #[.pointer (some ⟨g, 0, none⟩), .int .i64 a1] w fun e w' => e = .returned (.int .i64 r1) ∧ qaE w0 w' g qbi r2 r3 ∧ Below w0.heap.size w0 w' ∧ qak w w' g none := by
 have HI0 := ak_ hI; have HK := ak_ (qak.refl w g none); have HL := ak_ hB.size; clear hI; have HW0 := ak_ hB.size; have HB := ak_ hB; clear hB; have H : (if a1 ≤ 1 then (some (0, qcZ, qdR)) else ((qcE.f qbi qcZ qdR).bind fun qb6 => (if a1 > 200 then ((qcE.f qbi qb6.2.1 qb6.2.2).bind fun qfa => (if a1 = 0 then (none) else (some (Int.tmod (wrap64 ((wrap64 (qb6.1 * 256)) + qfa.1)) a1, qfa.2.1, qfa.2.2)))) else (if a1 = 0 then (none) else (some (Int.tmod qb6.1 a1, qb6.2.1, qb6.2.2)))))) = some (r1, r2, r3) := h; clear h; by_cases c3 : a1 ≤ 1
 ·rw [if_pos c3] at H; have qii : decide (a1 ≤ 1) = true := decide_eq_true c3; clear c3; simp only [Option.some.injEq, Prod.mk.injEq] at H; obtain ⟨rfl, rfl, rfl⟩ := H; go_enter Tryz.func66, Tryz.ntmps66; go_wp2
  go_ret
  exact ⟨qbu, qcO, qdL, qcT⟩
 rw [if_neg c3] at H; have qii : decide (a1 ≤ 1) = false := decide_eq_false c3; clear c3; obtain ⟨⟨qcl, qaF, qaX⟩, A4, H⟩ := qbg H; (try dsimp only at H); by_cases c5 : a1 > 200
 ·rw [if_pos c5] at H; have qi5 : decide (200 < a1) = true := decide_eq_true c5; clear c5; obtain ⟨⟨qcz, t105, qgE⟩, A6, H⟩ := qbg H; (try dsimp only at H); by_cases c7 : a1 = 0
  ·rw [if_pos c7] at H; exact absurd H (by simp)
  rw [if_neg c7] at H; have qiF : (a1 == 0) = false := beq_eq_false_iff_ne.mpr c7; have qmO : (a1 != 0) = true := bne_iff_ne.mpr c7; simp only [Option.some.injEq, Prod.mk.injEq] at H; obtain ⟨rfl, rfl, rfl⟩ := H; go_enter Tryz.func66, Tryz.ntmps66
  go_wp2_with (first | ((with_reducible refine qad (f := 92) rfl ?_); refine gl_ 9 Tryz.func92 #[.pointer (some ⟨g, 0, none⟩)] rfl qbH ?_; (with_reducible refine (qcE.calls g qbi qcZ qdR qcl qaF qaX w0 _ ?qaB ?qaC A4.out).mono ?_); (case qaB => exact qcO); (case qaC => exact qdL); rintro e w8 ⟨rfl, hi, hb, hk⟩; refine ⟨_, rfl, ?_⟩; replace HK := ak_ (qak.trans qcT hk (.inl rfl)); replace HB := ak_ (hb); replace HI0 := ak_ (hi); (try clear hb hk hi)) | ((with_reducible refine qad (f := 92) rfl ?_); refine gl_ 15 Tryz.func92 #[.pointer (some ⟨g, 0, none⟩)] rfl qbH ?_; (with_reducible refine (qcE.calls g qbi qaF qaX qcz t105 qgE w0 _ ?qaB ?qaC A6.out).mono ?_); (case qaB => exact qcO); (case qaC => exact qdL); rintro e w9 ⟨rfl, hi, hb, hk⟩; refine ⟨_, rfl, ?_⟩; replace HK := ak_ (qak.trans qcT hk (.inl rfl)); replace HB := ak_ (hb); replace HI0 := ak_ (hi); (try clear hb hk hi)))
  go_ret
  exact ⟨qbu, qcO, qdL, qcT⟩
 rw [if_neg c5] at H; have qi5 : decide (200 < a1) = false := decide_eq_false c5; clear c5; by_cases c10 : a1 = 0
 ·rw [if_pos c10] at H; exact absurd H (by simp)
 rw [if_neg c10] at H; have qsY : (a1 == 0) = false := beq_eq_false_iff_ne.mpr c10; have c10b1 : (a1 != 0) = true := bne_iff_ne.mpr c10; simp only [Option.some.injEq, Prod.mk.injEq] at H; obtain ⟨rfl, rfl, rfl⟩ := H; go_enter Tryz.func66, Tryz.ntmps66
 go_wp2_with (first | ((with_reducible refine qad (f := 92) rfl ?_); refine gl_ 9 Tryz.func92 #[.pointer (some ⟨g, 0, none⟩)] rfl qbH ?_; (with_reducible refine (qcE.calls g qbi qcZ qdR qcl qaF qaX w0 _ ?qaB ?qaC A4.out).mono ?_); (case qaB => exact qcO); (case qaC => exact qdL); rintro e w11 ⟨rfl, hi, hb, hk⟩; refine ⟨_, rfl, ?_⟩; replace HK := ak_ (qak.trans qcT hk (.inl rfl)); replace HB := ak_ (hb); replace HI0 := ak_ (hi); (try clear hb hk hi)))
 go_ret
 exact ⟨qbu, qcO, qdL, qcT⟩
def qbE.f (qbi : List Int) (qcZ : Int) (qdR : Int) (a1 : Int) : Option (Bool × Int × Int) := (qan.f qbi qcZ qdR a1).bind fun qb6 => (some ((qb6.1 == 0), qb6.2.1, qb6.2.2))
theorem qbE.calls (g : Nat) (qbi : List Int) (qcZ : Int) (qdR : Int) (a1 : Int) (r1 : Bool) (r2 : Int) (r3 : Int) (w0 w : World) (hI : qaE w0 w g qbi qcZ qdR) (hB : Below w0.heap.size w0 w) (h : qbE.f qbi qcZ qdR a1 = some (r1, r2, r3)) :
  Calls Tryz.prog 65 #[.pointer (some ⟨g, 0, none⟩), .int .i64 a1] w fun e w' => e = .returned (.bool r1) ∧ qaE w0 w' g qbi r2 r3 ∧ Below w0.heap.size w0 w' ∧ qak w w' g none := by
 have HI0 := ak_ hI; have HK := ak_ (qak.refl w g none); have HL := ak_ hB.size; clear hI; have HW0 := ak_ hB.size; have HB := ak_ hB; clear hB; have H : ((qan.f qbi qcZ qdR a1).bind fun qb6 => (some ((qb6.1 == 0), qb6.2.1, qb6.2.2))) = some (r1, r2, r3) := h; clear h; obtain ⟨⟨qcl, qaF, qaX⟩, A3, H⟩ := qbg H; (try dsimp only at H); simp only [Option.some.injEq, Prod.mk.injEq] at H; obtain ⟨rfl, rfl, rfl⟩ := H; go_enter Tryz.func65, Tryz.ntmps65
 go_wp2_with (first | ((with_reducible refine qad (f := 66) rfl ?_); refine gl_ 7 Tryz.func66 #[.pointer (some ⟨g, 0, none⟩), .int .i64 a1] rfl qbH ?_; (with_reducible refine (qan.calls g qbi qcZ qdR a1 qcl qaF qaX w0 _ ?qaB ?qaC A3.out).mono ?_); (case qaB => exact qcO); (case qaC => exact qdL); rintro e w4 ⟨rfl, hi, hb, hk⟩; refine ⟨_, rfl, ?_⟩; replace HK := ak_ (qak.trans qcT hk (.inl rfl)); replace HB := ak_ (hb); replace HI0 := ak_ (hi); (try clear hb hk hi)))
 go_ret
 exact ⟨qbu, qcO, qdL, qcT⟩
def qfr.f (qax : Int) (qaZ : Int) : Option (Bool) := (qbC.f qax 2 60).bind fun qaF => (if qaF = true then ((qbC.f qaZ 0 (wrap64 (qax - 1))).bind fun qaX => (some qaX)) else (some false))
theorem qfr.calls (qax : Int) (qaZ : Int) (r : Bool) (w : World) (h : qfr.f qax qaZ = some r) :
  Calls Tryz.prog 86 #[.agg #[.int .i64 qax, .int .i64 qaZ]] w fun e w' => e = .returned (.bool r) ∧ Below w.heap.size w w' := by
 have qkB := Tryz.underlying33; have HB := ak_ (Below.refl w.heap.size w); have H : ((qbC.f qax 2 60).bind fun qaF => (if qaF = true then ((qbC.f qaZ 0 (wrap64 (qax - 1))).bind fun qaX => (some qaX)) else (some false))) = some r := h; clear h; obtain ⟨qaF, A2, H⟩ := qbg H; (try dsimp only at H); by_cases c3 : qaF = true
 ·subst c3; rw [if_pos rfl] at H; obtain ⟨qaX, A4, H⟩ := qbg H; (try dsimp only at H); obtain rfl := Option.some.inj H; go_enter Tryz.func86, Tryz.ntmps86
  go_wp2_with (first | ((with_reducible refine qas (N := 1) rfl ?_); refine bx_ 1 (cs := #[.int .i64 qax, .int .i64 qaZ]) (t := 33) qa0 ?_; intro qaR hg w5 hbox hb; have qai := ak_ (hbox); have qcy := ak_ (HB.ge hg); have qcd := ak_ (HB.ge hg); replace HB := HB.mw hb; clear hb hbox hg; obtain ⟨qjk, qjl, qka, qjn⟩ := g2_ qai.out) | ((with_reducible refine qad (f := 75) rfl ?_); refine gl_ 5 Tryz.func75 #[.int .i64 qax, .int .i64 2, .int .i64 60] rfl qbH ?_; (with_reducible refine (qbC.calls qax 2 60 true _ A2.out).mono ?_); rintro e w' ⟨rfl, ⟨nd, rfl⟩⟩; refine ⟨_, rfl, ?_⟩) | (go_at_call 75; (with_reducible refine (qbC.calls qaZ 0 (wrap64 (qax - 1)) qaX _ A4.out).mono ?_); rintro e w' ⟨rfl, ⟨nd, rfl⟩⟩))
  go_ret
  exact ⟨qbu, qaM⟩
 replace c3 := Bool.eq_false_iff.mpr c3; subst c3; rw [if_neg (show ¬ (false = true) by decide)] at H; obtain rfl := Option.some.inj H; go_enter Tryz.func86, Tryz.ntmps86
 go_wp2_with (first | ((with_reducible refine qas (N := 1) rfl ?_); refine bx_ 1 (cs := #[.int .i64 qax, .int .i64 qaZ]) (t := 33) qa0 ?_; intro qaR hg w7 hbox hb; have qai := ak_ (hbox); have qcy := ak_ (HB.ge hg); have qcd := ak_ (HB.ge hg); replace HB := HB.mw hb; clear hb hbox hg; obtain ⟨qgd, qge, qgw, qgf⟩ := g2_ qai.out) | ((with_reducible refine qad (f := 75) rfl ?_); refine gl_ 5 Tryz.func75 #[.int .i64 qax, .int .i64 2, .int .i64 60] rfl qbH ?_; (with_reducible refine (qbC.calls qax 2 60 false _ A2.out).mono ?_); rintro e w' ⟨rfl, ⟨nd, rfl⟩⟩; refine ⟨_, rfl, ?_⟩))
 go_ret
 exact ⟨qbu, qaM⟩
def qb2.l0 : Nat → List (qaj) → Int → Int → Option (Bool)
 | 0, _, _, _ => none
 | k + 1, x8, x9, x10 => if x10 < x9 then (if 0 ≤ x10 then (if x10 < (x8.length : Int) then ((qfr.f ((qab x8 x10).f0) ((qab x8 x10).f1)).bind fun qaX => (if qaX = true then (qb2.l0 k x8 x9 (wrap64 (x10 + 1))) else (some false))) else (none)) else (none)) else (some true)
def qb2.f (k : Nat) (l0 : List (qaj)) : Option (Bool) := if (l0.length : Int) > 12 then (some false) else (qb2.l0 k l0 (l0.length : Int) 0)
theorem qb2.calls (k : Nat) (A0 : Option Addr) (c0 : Nat) (l0 : List (qaj)) (r : Bool) (w : World) (hr0 : Kd.C qa1 w A0 l0.length l0) (hc0 : l0.length ≤ c0) (h : qb2.f k l0 = some r) :
  Calls Tryz.prog 57 #[.slice A0 l0.length c0] w fun e w' => e = .returned (.bool r) ∧ Below w.heap.size w w' := by
 have qkB := Tryz.underlying33; have HR0 := ak_ hr0; have HC0 := ak_ hc0; clear hr0 hc0; have HB := ak_ (Below.refl w.heap.size w); have H : (if (l0.length : Int) > 12 then (some false) else (qb2.l0 k l0 (l0.length : Int) 0)) = some r := h; clear h; by_cases c2 : (l0.length : Int) > 12
 ·rw [if_pos c2] at H; have qkz : decide (12 < (l0.length : Int)) = true := decide_eq_true c2; have c2b1 : decide (12 < l0.length) = true := decide_eq_true (by omega); clear c2; obtain rfl := Option.some.inj H; go_enter Tryz.func57, Tryz.ntmps57; go_wp2
  go_ret
  exact ⟨qbu, qct⟩
 rw [if_neg c2] at H; have qkz : decide (12 < (l0.length : Int)) = false := decide_eq_false c2; have c2b1 : decide (12 < l0.length) = false := decide_eq_false (by omega); clear c2; have H' := ak_ H; clear H; go_enter Tryz.func57, Tryz.ntmps57; go_wp2
 go_loopg [10] k (fun kq v10 w' => ∃ (qfA : Int), v10 = .int .i64 qfA ∧ qah (qb2.l0 kq l0 (l0.length : Int) qfA = some r) ∧ qah (kq ≤ k) ∧ qah (Below w.heap.size w w'))
 case atStart => exact ⟨(0), qbf, H', ⟨Nat.le_refl _⟩, ⟨qct⟩⟩
 case round =>
  clear H'; (try clear c2); (try clear qkz); (try clear c2b1); obtain ⟨qfA, rfl, HA, HK1, HB⟩ := hrel
  cases gk with
  | zero => exact absurd HA.out (by simp [qb2.l0])
  | succ k1 =>
   have H := HA.out; clear HA; simp only [qb2.l0] at H; by_cases c3 : qfA < (l0.length : Int); rotate_left
   ·rw [if_neg c3] at H; have qii : decide (qfA < (l0.length : Int)) = false := decide_eq_false c3; clear c3; obtain rfl := Option.some.inj H; go_wp2
    go_ret
    exact ⟨qbu, qct⟩
   rw [if_pos c3] at H; have qii : decide (qfA < (l0.length : Int)) = true := decide_eq_true c3; clear c3; by_cases c4 : 0 ≤ qfA; rotate_left
   ·rw [if_neg c4] at H; exact absurd H (by simp)
   rw [if_pos c4] at H; have qhC : decide (0 ≤ qfA) = true := decide_eq_true c4; clear c4; by_cases c5 : qfA < (l0.length : Int); rotate_left
   ·rw [if_neg c5] at H; exact absurd H (by simp)
   rw [if_pos c5] at H; have qi5 : decide (qfA < (l0.length : Int)) = true := decide_eq_true c5; clear c5; obtain ⟨qaX, A6, H⟩ := qbg H; (try dsimp only at H); by_cases c7 : qaX = true
   ·subst c7; rw [if_pos rfl] at H; have H' := ak_ H; clear H; have qgC : 0 ≤ (qfA : Int) := of_decide_eq_true qa7; have qgD : qfA < (l0.length : Int) := of_decide_eq_true qa7; obtain ⟨qk9, qll, qds, qe6⟩ := qcn HR0.out qfA qgC qgD
    cases qll
    replace qds := (HB.out.cell (World.block_lt_of_cell? w _ qds)).trans qds; replace qe6 := (HB.out.cell (World.block_lt_of_cell? w _ qe6)).trans qe6; replace qgC := eq_true qgC; replace qgD := eq_true qgD
    go_wp2_with (first | ((with_reducible refine qas (N := 4) rfl ?_); refine bx_ 4 (cs := #[.int .i64 0, .int .i64 0]) (t := 33) qa0 ?_; intro qeY hg w8 hbox hb; have qdo := ak_ (hbox); have qiA := ak_ (HB.ge hg); have qgQ := ak_ (HB.ge hg); replace HB := HB.mw hb; clear hb hbox hg; obtain ⟨qly, qlz, qm0, qlI⟩ := g2_ qdo.out) | ((with_reducible refine qad (f := 86) rfl ?_); refine gl_ 15 Tryz.func86 #[.agg #[.int .i64 ((qab l0 qfA).f0), .int .i64 ((qab l0 qfA).f1)]] rfl qbH ?_; (with_reducible refine (qfr.calls ((qab l0 qfA).f0) ((qab l0 qfA).f1) true _ A6.out).mono ?_); rintro e w10 ⟨rfl, hb⟩; refine ⟨_, rfl, ?_⟩; replace qdo := ak_ (qam (g := qeY) (o := .cells #[.int .i64 ((qab l0 qfA).f0), .int .i64 ((qab l0 qfA).f1)] 33 (0, 0)) k13_ hb); replace HB := ak_ (qac qrL hb); (try clear hb)))
    go_roundg k1
    case measure => have := HK1.out; omega
    case rel => exact ⟨(wrap64 (qfA + 1)), qbf, H', ⟨qgi⟩, ⟨qrL⟩⟩
   replace c7 := Bool.eq_false_iff.mpr c7; subst c7; rw [if_neg (show ¬ (false = true) by decide)] at H; obtain rfl := Option.some.inj H; have qgC : 0 ≤ (qfA : Int) := of_decide_eq_true qa7; have qgD : qfA < (l0.length : Int) := of_decide_eq_true qa7; obtain ⟨qk9, qll, qds, qe6⟩ := qcn HR0.out qfA qgC qgD
   cases qll
   replace qds := (HB.out.cell (World.block_lt_of_cell? w _ qds)).trans qds; replace qe6 := (HB.out.cell (World.block_lt_of_cell? w _ qe6)).trans qe6; replace qgC := eq_true qgC; replace qgD := eq_true qgD
   go_wp2_with (first | ((with_reducible refine qas (N := 4) rfl ?_); refine bx_ 4 (cs := #[.int .i64 0, .int .i64 0]) (t := 33) qa0 ?_; intro qeY hg w11 hbox hb; have qdo := ak_ (hbox); have qiA := ak_ (HB.ge hg); have qgQ := ak_ (HB.ge hg); replace HB := HB.mw hb; clear hb hbox hg; obtain ⟨qqa, qqb, qqe, qqf⟩ := g2_ qdo.out) | ((with_reducible refine qad (f := 86) rfl ?_); refine gl_ 15 Tryz.func86 #[.agg #[.int .i64 ((qab l0 qfA).f0), .int .i64 ((qab l0 qfA).f1)]] rfl qbH ?_; (with_reducible refine (qfr.calls ((qab l0 qfA).f0) ((qab l0 qfA).f1) false _ A6.out).mono ?_); rintro e w13 ⟨rfl, hb⟩; refine ⟨_, rfl, ?_⟩; replace qdo := ak_ (qam (g := qeY) (o := .cells #[.int .i64 ((qab l0 qfA).f0), .int .i64 ((qab l0 qfA).f1)] 33 (0, 0)) k13_ hb); replace HB := ak_ (qac qrL hb); (try clear hb)))
   go_ret
   exact ⟨qbu, qrL⟩
mutual
def qbh.j0 : Nat → List (qaj) → Int → Bool → Option (ByteArray × Bool)
 | 0, _, _, _ => none
 | k + 1, x0, x1, x15 => if x15 = true then (some ((⟨#[]⟩ : ByteArray), false)) else (qbh.l0 k x0 x1 (⟨#[]⟩ : ByteArray) 1)
def qbh.l0 : Nat → List (qaj) → Int → ByteArray → Int → Option (ByteArray × Bool)
 | 0, _, _, _, _ => none
 | k + 1, x0, x1, x6, x7 => if x7 ≤ x1 then ((qeL.f k x0 x7).bind fun qaX => (if qaX = true then (if x6.size + 1 ≤ 9223372036854775807 then (qbh.l0 k x0 x1 (x6 ++ (⟨#[111]⟩ : ByteArray)) (wrap64 (x7 + 1))) else (none)) else (if x6.size + 1 ≤ 9223372036854775807 then (qbh.l0 k x0 x1 (x6 ++ (⟨#[120]⟩ : ByteArray)) (wrap64 (x7 + 1))) else (none)))) else (some (x6, true))
end
def qbh.f (k : Nat) (l0 : List (qaj)) (a1 : Int) : Option (ByteArray × Bool) := (qb2.f k l0).bind fun qcl => (if qcl = true then ((qbC.f a1 1 48).bind fun qaF => (qbh.j0 k l0 a1 (!qaF))) else (qbh.j0 k l0 a1 true))
theorem qbh.calls (k : Nat) (A0 : Option Addr) (c0 : Nat) (l0 : List (qaj)) (a1 : Int) (r1 : ByteArray) (r2 : Bool) (w : World) (hr0 : Kd.C qa1 w A0 l0.length l0) (hc0 : l0.length ≤ c0) (h : qbh.f k l0 a1 = some (r1, r2)) :
  Calls Tryz.prog 108 #[.slice A0 l0.length c0, .int .i64 a1] w fun e w' => e = .returned (.tuple #[.string r1, .bool r2]) ∧ Below w.heap.size w w' := by
 have HR0 := ak_ hr0; have HC0 := ak_ hc0; clear hr0 hc0; have HB := ak_ (Below.refl w.heap.size w); have H : ((qb2.f k l0).bind fun qcl => (if qcl = true then ((qbC.f a1 1 48).bind fun qaF => (qbh.j0 k l0 a1 (!qaF))) else (qbh.j0 k l0 a1 true))) = some (r1, r2) := h; clear h; have HC3 := ak_ H; clear H; go_enter Tryz.func108, Tryz.ntmps108
 go_upto_region 1 with (fail)
 go_cut [15] (fun v15 wc => ∃ (kq : Nat) (qht : Bool), v15 = .bool qht ∧ qah (qbh.j0 kq l0 a1 qht = some (r1, r2)) ∧ qah (kq ≤ k) ∧ qah (Below w.heap.size w wc))
 case first =>
  have H := HC3.out; clear HC3; obtain ⟨qcl, A4, H⟩ := qbg H; (try dsimp only at H); by_cases c5 : qcl = true
  ·subst c5; rw [if_pos rfl] at H; obtain ⟨qaF, A6, H⟩ := qbg H; (try dsimp only at H); have H' := ak_ H; clear H
   go_wp2_with (first | ((with_reducible refine qad (f := 57) rfl ?_); refine gl_ 9 Tryz.func57 #[.slice A0 l0.length c0] rfl qbH ?_; (with_reducible refine (qb2.calls k _ _ l0 true _ ?qaB ?qaC A4.out).mono ?_); (case qaB => exact k70_); (case qaC => exact HC0.out); rintro e w7 ⟨rfl, hb⟩; refine ⟨_, rfl, ?_⟩; replace HB := HB.mw hb; (try clear hb)) | (go_at_call 75; (with_reducible refine (qbC.calls a1 1 48 qaF _ A6.out).mono ?_); rintro e w' ⟨rfl, ⟨nd, rfl⟩⟩))
   go_meet
   case rel => exact ⟨_, (!qaF), qbf, H', ⟨qg3⟩, ⟨qct⟩⟩
  replace c5 := Bool.eq_false_iff.mpr c5; subst c5; rw [if_neg (show ¬ (false = true) by decide)] at H; have H' := ak_ H; clear H
  go_wp2_with (first | ((with_reducible refine qad (f := 57) rfl ?_); refine gl_ 9 Tryz.func57 #[.slice A0 l0.length c0] rfl qbH ?_; (with_reducible refine (qb2.calls k _ _ l0 false _ ?qaB ?qaC A4.out).mono ?_); (case qaB => exact k70_); (case qaC => exact HC0.out); rintro e w8 ⟨rfl, hb⟩; refine ⟨_, rfl, ?_⟩; replace HB := HB.mw hb; (try clear hb)))
  go_meet
  case rel => exact ⟨_, (true), qbf, H', ⟨qg3⟩, ⟨qct⟩⟩
 case rest =>
  clear HC3; obtain ⟨kq, qht, rfl, HA, HJ2, HB⟩ := hcut
  cases kq with
  | zero => exact absurd HA.out (by simp [qbh.j0])
  | succ kj2 =>
   have H := HA.out; clear HA; simp only [qbh.j0] at H; by_cases c9 : qht = true
   ·subst c9; rw [if_pos rfl] at H; simp only [Option.some.injEq, Prod.mk.injEq] at H; obtain ⟨rfl, rfl⟩ := H; go_wp2
    go_ret2
    exact ⟨qbu, qct⟩
   replace c9 := Bool.eq_false_iff.mpr c9; subst c9; rw [if_neg (show ¬ (false = true) by decide)] at H; have H' := ak_ H; clear H; go_wp2
   go_loopg [6, 7] kj2 (fun kq v6 v7 w' => ∃ (qul : ByteArray) (qsd : Int), v6 = .string qul ∧ v7 = .int .i64 qsd ∧ qah (qbh.l0 kq l0 a1 qul qsd = some (r1, r2)) ∧ qah (kq ≤ kj2) ∧ qah (Below w.heap.size w w'))
   case atStart => exact ⟨((⟨#[]⟩ : ByteArray)), (1), qbf, qbf, H', ⟨Nat.le_refl _⟩, ⟨qct⟩⟩
   case round =>
    clear H'; (try clear c9); obtain ⟨qul, qsd, rfl, rfl, HA, HK2, HB⟩ := hrel
    cases gk with
    | zero => exact absurd HA.out (by simp [qbh.l0])
    | succ k2 =>
     have H := HA.out; clear HA; simp only [qbh.l0] at H; by_cases c10 : qsd ≤ a1; rotate_left
     ·rw [if_neg c10] at H; have qsY : decide (qsd ≤ a1) = false := decide_eq_false c10; clear c10; simp only [Option.some.injEq, Prod.mk.injEq] at H; obtain ⟨rfl, rfl⟩ := H; go_wp2
      go_ret2
      exact ⟨qbu, qct⟩
     rw [if_pos c10] at H; have qsY : decide (qsd ≤ a1) = true := decide_eq_true c10; clear c10; obtain ⟨qaX, A11, H⟩ := qbg H; (try dsimp only at H); by_cases c12 : qaX = true
     ·subst c12; rw [if_pos rfl] at H; by_cases c13 : qul.size + 1 ≤ 9223372036854775807; rotate_left
      ·rw [if_neg c13] at H; exact absurd H (by simp)
      rw [if_pos c13] at H; have c13b0 := eq_true c13; have c13b1 : decide (qul.size + 1 ≤ 9223372036854775807) = true := decide_eq_true c13
      try have c13b2 : (9223372036854775807 < qul.size + 1) = False := eq_false (Nat.not_lt.2 c13)
      have H' := ak_ H; clear H
      go_wp2_with (first | ((with_reducible refine qad (f := 87) rfl ?_); refine gl_ 23 Tryz.func87 #[.slice A0 l0.length c0, .int .i64 qsd] rfl qbH ?_; (with_reducible refine (qeL.calls k2 _ _ l0 qsd true _ ?qaB ?qaC A11.out).mono ?_); (case qaB => exact k70_); (case qaC => exact HC0.out); rintro e w14 ⟨rfl, hb⟩; refine ⟨_, rfl, ?_⟩; replace HB := HB.mw hb; (try clear hb)))
      go_roundg k2
      case measure => have := HJ2.out; have := HK2.out; omega
      case rel => exact ⟨(qul ++ (⟨#[111]⟩ : ByteArray)), (wrap64 (qsd + 1)), qbf, qbf, H', ⟨by have := HJ2.out; have := HK2.out; omega⟩, ⟨qct⟩⟩
     replace c12 := Bool.eq_false_iff.mpr c12; subst c12; rw [if_neg (show ¬ (false = true) by decide)] at H; by_cases c15 : qul.size + 1 ≤ 9223372036854775807; rotate_left
     ·rw [if_neg c15] at H; exact absurd H (by simp)
     rw [if_pos c15] at H; have qs0 := eq_true c15; have c15b1 : decide (qul.size + 1 ≤ 9223372036854775807) = true := decide_eq_true c15
     try have c15b2 : (9223372036854775807 < qul.size + 1) = False := eq_false (Nat.not_lt.2 c15)
     have H' := ak_ H; clear H
     go_wp2_with (first | ((with_reducible refine qad (f := 87) rfl ?_); refine gl_ 23 Tryz.func87 #[.slice A0 l0.length c0, .int .i64 qsd] rfl qbH ?_; (with_reducible refine (qeL.calls k2 _ _ l0 qsd false _ ?qaB ?qaC A11.out).mono ?_); (case qaB => exact k70_); (case qaC => exact HC0.out); rintro e w16 ⟨rfl, hb⟩; refine ⟨_, rfl, ?_⟩; replace HB := HB.mw hb; (try clear hb)))
     go_roundg k2
     case measure => have := HJ2.out; have := HK2.out; omega
     case rel => exact ⟨(qul ++ (⟨#[120]⟩ : ByteArray)), (wrap64 (qsd + 1)), qbf, qbf, H', ⟨by have := HJ2.out; have := HK2.out; omega⟩, ⟨qct⟩⟩
mutual
def qaH.j0 : Nat → Int → Int → Int → Bool → Option (ByteArray × Int × Bool)
 | 0, _, _, _, _ => none
 | k + 1, x0, x1, x2, x27 => if x27 = true then (some ((⟨#[]⟩ : ByteArray), 0, false)) else (qaH.l0 k x0 x1 x2 ([] : List (qaj)) 0)
def qaH.l0 : Nat → Int → Int → Int → List (qaj) → Int → Option (ByteArray × Int × Bool)
 | 0, _, _, _, _, _ => none
 | k + 1, x0, x1, x8, x9, x10 => if x10 < 20 then (qaH.j2 k x0 x1 x8 x9 x10 (decide ((x9.length : Int) < x1))) else (qaH.j2 k x0 x1 x8 x9 x10 false)
def qaH.j2 : Nat → Int → Int → Int → List (qaj) → Int → Bool → Option (ByteArray × Int × Bool)
 | 0, _, _, _, _, _, _ => none
 | k + 1, x0, x1, x8, x9, x10, x37 => if x37 = true then (if (wrap64 ((Int.tmod (Int.tmod (wrap64 ((wrap64 (x8 * 177)) + 2221)) 10007) 9) + 2)) = 0 then (none) else ((qbO.f k x9 (wrap64 ((Int.tmod (Int.tmod (wrap64 ((wrap64 (x8 * 177)) + 2221)) 10007) 9) + 2)) (Int.tmod (Int.tmod (wrap64 ((wrap64 ((Int.tmod (wrap64 ((wrap64 (x8 * 177)) + 2221)) 10007) * 177)) + 2221)) 10007) (wrap64 ((Int.tmod (Int.tmod (wrap64 ((wrap64 (x8 * 177)) + 2221)) 10007) 9) + 2)))).bind fun qgE => (if qgE = true then (qaH.l0 k x0 x1 (Int.tmod (wrap64 ((wrap64 ((Int.tmod (wrap64 ((wrap64 (x8 * 177)) + 2221)) 10007) * 177)) + 2221)) 10007) x9 (wrap64 (x10 + 1))) else (if x9.length < 8796093022208 then (qaH.l0 k x0 x1 (Int.tmod (wrap64 ((wrap64 ((Int.tmod (wrap64 ((wrap64 (x8 * 177)) + 2221)) 10007) * 177)) + 2221)) 10007) (x9 ++ [(⟨wrap64 ((Int.tmod (Int.tmod (wrap64 ((wrap64 (x8 * 177)) + 2221)) 10007) 9) + 2), Int.tmod (Int.tmod (wrap64 ((wrap64 ((Int.tmod (wrap64 ((wrap64 (x8 * 177)) + 2221)) 10007) * 177)) + 2221)) 10007) (wrap64 ((Int.tmod (Int.tmod (wrap64 ((wrap64 (x8 * 177)) + 2221)) 10007) 9) + 2))⟩ : qaj)]) (wrap64 (x10 + 1))) else (none))))) else (if (x9.length : Int) < x1 then (some ((⟨#[]⟩ : ByteArray), 0, false)) else ((qbh.f k x9 x0).bind fun bt110 => (some (bt110.1, x1, true))))
end
def qaH.f (k : Nat) (a0 : Int) (a1 : Int) (a2 : Int) : Option (ByteArray × Int × Bool) := (qbC.f a0 1 48).bind fun qaF => (if qaF = true then ((qbC.f a1 0 3).bind fun qaX => (if qaX = true then ((qbC.f a2 0 9999).bind fun qcz => (qaH.j0 k a0 a1 a2 (!qcz))) else (qaH.j0 k a0 a1 a2 true))) else (qaH.j0 k a0 a1 a2 true))
theorem qaH.calls (k : Nat) (a0 : Int) (a1 : Int) (a2 : Int) (r1 : ByteArray) (r2 : Int) (r3 : Bool) (w : World) (h : qaH.f k a0 a1 a2 = some (r1, r2, r3)) :
  Calls Tryz.prog 88 #[.int .i64 a0, .int .i64 a1, .int .i64 a2] w fun e w' => e = .returned (.tuple #[.agg #[.string r1, .int .i64 r2], .bool r3]) ∧ Below w.heap.size w w' := by
 have qis := Tryz.underlying23; have qkB := Tryz.underlying33; have HB := ak_ (Below.refl w.heap.size w); have H : ((qbC.f a0 1 48).bind fun qaF => (if qaF = true then ((qbC.f a1 0 3).bind fun qaX => (if qaX = true then ((qbC.f a2 0 9999).bind fun qcz => (qaH.j0 k a0 a1 a2 (!qcz))) else (qaH.j0 k a0 a1 a2 true))) else (qaH.j0 k a0 a1 a2 true))) = some (r1, r2, r3) := h; clear h; have HC4 := ak_ H; clear H; go_enter Tryz.func88, Tryz.ntmps88
 go_upto_region 1 with (first | ((with_reducible refine qas (N := 6) rfl ?_); (try (refine qav (by rfl) ?_; dsimp only)); refine bx_ 6 (cs := #[.string (⟨#[]⟩ : ByteArray), .int .i64 0]) (t := 23) qa0 ?_; intro qaR hg w5 hbox hb; have qai := ak_ (hbox); have qcy := ak_ (HB.ge hg); have qcd := ak_ (HB.ge hg); replace HB := HB.mw hb; clear hb hbox hg))
 (try simp only [Act.put, List.setIfInBounds_toArray, List.set_cons_zero, List.set_cons_succ])
 go_cut [27] (fun v27 wc => ∃ (kq : Nat) (x27_3 : Bool), v27 = .bool x27_3 ∧ qah (qaH.j0 kq a0 a1 a2 x27_3 = some (r1, r2, r3)) ∧ qah (kq ≤ k) ∧ qah (wc.heap[qaR]? = some (.cells #[.string (⟨#[]⟩ : ByteArray), .int .i64 0] 23 (0, 0))) ∧ qah (Below w.heap.size w wc))
 case first =>
  have H := HC4.out; clear HC4; obtain ⟨qaF, A6, H⟩ := qbg H; (try dsimp only at H); by_cases c7 : qaF = true; rotate_left
  ·replace c7 := Bool.eq_false_iff.mpr c7; subst c7; rw [if_neg (show ¬ (false = true) by decide)] at H; have H' := ak_ H; clear H
   go_wp2_with (first | ((with_reducible refine qad (f := 75) rfl ?_); refine gl_ 16 Tryz.func75 #[.int .i64 a0, .int .i64 1, .int .i64 48] rfl qbH ?_; (with_reducible refine (qbC.calls a0 1 48 false _ A6.out).mono ?_); rintro e w' ⟨rfl, ⟨nd, rfl⟩⟩; refine ⟨_, rfl, ?_⟩))
   go_meet
   case rel => exact ⟨_, (true), qbf, H', ⟨qg3⟩, ⟨qce⟩, ⟨qaM⟩⟩
  subst c7; rw [if_pos rfl] at H; obtain ⟨qaX, A8, H⟩ := qbg H; (try dsimp only at H); by_cases c9 : qaX = true
  ·subst c9; rw [if_pos rfl] at H; obtain ⟨qcz, A10, H⟩ := qbg H; (try dsimp only at H); have H' := ak_ H; clear H
   go_wp2_with (first | ((with_reducible refine qad (f := 75) rfl ?_); refine gl_ 16 Tryz.func75 #[.int .i64 a0, .int .i64 1, .int .i64 48] rfl qbH ?_; (with_reducible refine (qbC.calls a0 1 48 true _ A6.out).mono ?_); rintro e w' ⟨rfl, ⟨nd, rfl⟩⟩; refine ⟨_, rfl, ?_⟩) | (go_at_call 75; (with_reducible refine (qbC.calls a1 0 3 true _ A8.out).mono ?_); rintro e w' ⟨rfl, ⟨nd, rfl⟩⟩) | (go_at_call 75; (with_reducible refine (qbC.calls a2 0 9999 qcz _ A10.out).mono ?_); rintro e w' ⟨rfl, ⟨nd, rfl⟩⟩))
   go_meet
   case rel => exact ⟨_, (!qcz), qbf, H', ⟨qg3⟩, ⟨qce⟩, ⟨qaM⟩⟩
  replace c9 := Bool.eq_false_iff.mpr c9; subst c9; rw [if_neg (show ¬ (false = true) by decide)] at H; have H' := ak_ H; clear H
  go_wp2_with (first | ((with_reducible refine qad (f := 75) rfl ?_); refine gl_ 16 Tryz.func75 #[.int .i64 a0, .int .i64 1, .int .i64 48] rfl qbH ?_; (with_reducible refine (qbC.calls a0 1 48 true _ A6.out).mono ?_); rintro e w' ⟨rfl, ⟨nd, rfl⟩⟩; refine ⟨_, rfl, ?_⟩) | (go_at_call 75; (with_reducible refine (qbC.calls a1 0 3 false _ A8.out).mono ?_); rintro e w' ⟨rfl, ⟨nd, rfl⟩⟩))
  go_meet
  case rel => exact ⟨_, (true), qbf, H', ⟨qg3⟩, ⟨qce⟩, ⟨qaM⟩⟩
 case rest =>
  clear HC4; obtain ⟨kq, x27_3, rfl, HA, HJ3, qai, HB⟩ := hcut
  cases kq with
  | zero => exact absurd HA.out (by simp [qaH.j0])
  | succ kj3 =>
   have H := HA.out; clear HA; simp only [qaH.j0] at H; by_cases c11 : x27_3 = true
   ·subst c11; rw [if_pos rfl] at H; simp only [Option.some.injEq, Prod.mk.injEq] at H; obtain ⟨rfl, rfl, rfl⟩ := H; obtain ⟨qqa, qqb, qqe, qqf⟩ := g2_ qai.out; go_wp2; refine bodyPost_ret (qeQ rfl _ _ qaR 23 #[.string (⟨#[]⟩ : ByteArray), .int .i64 0] (0, 0) _ rfl k11_ Tryz.underlying23 rfl (by kernel_rfl)) rfl ?_; exact ⟨qbu, qaM⟩
   replace c11 := Bool.eq_false_iff.mpr c11; subst c11; rw [if_neg (show ¬ (false = true) by decide)] at H; have H' := ak_ H; clear H; go_wp2
   go_loopg [8, 9, 10] kj3 (fun kq v8 v9 v10 w' => ∃ (qgh : Int) (qmk : List (qaj)) (qmH : Int), v8 = .int .i64 qgh ∧ v10 = .int .i64 qmH ∧ qah (qaH.l0 kq a0 a1 qgh qmk qmH = some (r1, r2, r3)) ∧ qah (kq ≤ kj3) ∧ qah (Kd.R qa1 33 w' w.heap.size (fun _ => True) v9 qmk) ∧ qah (w'.heap[qaR]? = some (.cells #[.string (⟨#[]⟩ : ByteArray), .int .i64 0] 23 (0, 0))) ∧ qah (Below w.heap.size w w'))
   case atStart => exact ⟨(a2), (([] : List (qaj))), (0), qbf, qbf, H', ⟨Nat.le_refl _⟩, ⟨qr7⟩, ⟨qce⟩, ⟨qaM⟩⟩
   case round =>
    clear H'; (try clear c11); obtain ⟨qgh, qmk, qmH, rfl, rfl, HA, HK2, qj8, qai, HB⟩ := hrel
    cases gk with
    | zero => exact absurd HA.out (by simp [qaH.l0])
    | succ k2 =>
     have H := HA.out; clear HA; simp only [qaH.l0] at H; have HC13 := ak_ H; clear H
     go_upto_region 6 with (fail)
     go_cut [37] (fun v37 wc => ∃ (kq : Nat) (qrd : Bool), v37 = .bool qrd ∧ qah (qaH.j2 kq a0 a1 qgh qmk qmH qrd = some (r1, r2, r3)) ∧ qah (kq ≤ k2) ∧ qah (Kd.R qa1 33 wc w.heap.size (fun _ => True) u9 qmk) ∧ qah (wc.heap[qaR]? = some (.cells #[.string (⟨#[]⟩ : ByteArray), .int .i64 0] 23 (0, 0))) ∧ qah (Below w.heap.size w wc))
     case first =>
      have H := HC13.out; clear HC13; by_cases c14 : qmH < 20
      ·rw [if_pos c14] at H; have qlh : decide (qmH < 20) = true := decide_eq_true c14; clear c14; (first | rw [qlh] | rw [c14b1] | (simp only [qbI, qbN]; rw [qlh]) | skip); have H' := ak_ H; clear H; obtain ⟨Ao15, co15, eo15⟩ := Kd.qbz qj8.out; subst eo15; go_wp2; go_meet
       case rel => exact ⟨_, (decide ((qmk.length : Int) < a1)), qbf, H', ⟨by have := HJ3.out; have := HK2.out; first | omega | exact Nat.le_refl _⟩, ⟨by apply_rules only [qj8.out, Kd.qaA, Kd.qaz, Kd.qaL]⟩, ⟨qce⟩, ⟨qaM⟩⟩
      rw [if_neg c14] at H; have qlh : decide (qmH < 20) = false := decide_eq_false c14; clear c14; (first | rw [qlh] | rw [c14b1] | (simp only [qbI, qbN]; rw [qlh]) | skip); have H' := ak_ H; clear H; go_wp2; go_meet
      case rel => exact ⟨_, (false), qbf, H', ⟨by have := HJ3.out; have := HK2.out; first | omega | exact Nat.le_refl _⟩, ⟨by apply_rules only [qj8.out, Kd.qaA, Kd.qaz, Kd.qaL]⟩, ⟨qce⟩, ⟨qaM⟩⟩
     case rest =>
      clear HC13; (try clear c11); obtain ⟨kq, qrd, rfl, HA, HJ12, qj8, qai, HB⟩ := hcut
      cases kq with
      | zero => exact absurd HA.out (by simp [qaH.j2])
      | succ kj12 =>
       have H := HA.out; clear HA; simp only [qaH.j2] at H; by_cases c16 : qrd = true; rotate_left
       ·replace c16 := Bool.eq_false_iff.mpr c16; subst c16; rw [if_neg (show ¬ (false = true) by decide)] at H; by_cases c33 : (qmk.length : Int) < a1
        ·rw [if_pos c33] at H; have c33b0 : decide ((qmk.length : Int) < a1) = true := decide_eq_true c33; clear c33; simp only [Option.some.injEq, Prod.mk.injEq] at H; obtain ⟨rfl, rfl, rfl⟩ := H; obtain ⟨Ao34, co34, eo34⟩ := Kd.qbz qj8.out; subst eo34; obtain ⟨qiO, qiP, qiW, qiX⟩ := g2_ qai.out; go_wp2; refine bodyPost_ret (qeQ rfl _ _ qaR 23 #[.string (⟨#[]⟩ : ByteArray), .int .i64 0] (0, 0) _ rfl k11_ Tryz.underlying23 rfl (by kernel_rfl)) rfl ?_; exact ⟨qbu, qaM⟩
        rw [if_neg c33] at H; have c33b0 : decide ((qmk.length : Int) < a1) = false := decide_eq_false c33; clear c33; obtain ⟨⟨qkv, qr9⟩, A36, H⟩ := qbg H; (try dsimp only at H); simp only [Option.some.injEq, Prod.mk.injEq] at H; obtain ⟨rfl, rfl, rfl⟩ := H; obtain ⟨Ao37, co37, eo37⟩ := Kd.qbz qj8.out; subst eo37
        go_wp2_with (first | ((with_reducible refine qad (f := 108) rfl ?_); refine gl_ 72 Tryz.func108 #[.slice Ao37 qmk.length co37, .int .i64 a0] rfl qbH ?_; (with_reducible refine (qbh.calls kj12 _ _ qmk a0 qkv qr9 _ ?qaB ?qaC A36.out).mono ?_); (case qaB => repeat (first | exact (Kd.R_reads' qj8.out).2.2 | (with_reducible refine Kd.qbS ?_ _) | (with_reducible refine Kd.qbT ?_ _) | (with_reducible refine Kd.qcp ?_))); (case qaC => exact (Kd.R_reads' qj8.out).2.1); rintro e w38 ⟨rfl, hb⟩; refine ⟨_, rfl, ?_⟩; replace qj8 := qj8.mw hb; replace qai := ak_ (qam qce hb); replace HB := ak_ (qac qaM hb); (try clear hb); obtain ⟨qlu, qlv, qlE, qlF⟩ := g2_ qai.out))
        refine bodyPost_ret (qeQ rfl _ _ qaR 23 #[.string qkv, .int .i64 a1] (0, 0) _ rfl (by (with_reducible repeat (first | refine qag ?_ _ | refine qae ?_ | refine qaf ?_ _)); refine qaQ (cs := #[.string qkv, .int .i64 0]) ?_ 1 _ rfl; (with_reducible repeat (first | refine qag ?_ _ | refine qae ?_ | refine qaf ?_ _)); refine qaQ (cs := #[.string (⟨#[]⟩ : ByteArray), .int .i64 0]) ?_ 0 _ rfl; apply_rules only [qai.out, qag, qae, qaf]) Tryz.underlying23 rfl (by kernel_rfl)) rfl ?_; exact ⟨qbu, qaM⟩
       subst c16; rw [if_pos rfl] at H; by_cases c17 : (wrap64 ((Int.tmod (Int.tmod (wrap64 ((wrap64 (qgh * 177)) + 2221)) 10007) 9) + 2)) = 0
       ·rw [if_pos c17] at H; exact absurd H (by simp)
       rw [if_neg c17] at H; have c17b0 : ((wrap64 ((Int.tmod (Int.tmod (wrap64 ((wrap64 (qgh * 177)) + 2221)) 10007) 9) + 2)) == 0) = false := beq_eq_false_iff_ne.mpr c17; have c17b1 : ((wrap64 ((Int.tmod (Int.tmod (wrap64 ((wrap64 (qgh * 177)) + 2221)) 10007) 9) + 2)) != 0) = true := bne_iff_ne.mpr c17; obtain ⟨qgE, A18, H⟩ := qbg H; (try dsimp only at H); by_cases c19 : qgE = true
       ·subst c19; rw [if_pos rfl] at H; have H' := ak_ H; clear H
        go_wp2_with (first | ((with_reducible refine qas (N := 12) rfl ?_); (try (refine qav (by rfl) ?_; dsimp only)); refine bx_ 12 (cs := #[.int .i64 0, .int .i64 0]) (t := 33) qa0 ?_; intro qbJ hg w20 hbox hb; replace qj8 := ak_ (Kd.qbk (Kd.qcN (by apply_rules only [qj8.out, Kd.qaA, Kd.qaz, Kd.qaL]) qbJ (Nat.le_of_eq hg.symm)) hb); have qb4 := ak_ (hbox); have qnj := ak_ ((by rw [hg]; exact (qal qaM) : w.heap.size ≤ qbJ)); have qmm := ak_ ((by rw [hg]; exact (qal qaM) : w.heap.size ≤ qbJ)); replace HB := ak_ (qac qaM hb); have qep := ak_ (qai.ne hg); have qe1 := ak_ (qai.ne hg).symm; replace qai := ak_ (qam qce hb); clear hb hbox hg; have hnb21 := qe1.out; have hnc21 := qep.out; obtain ⟨qtu, qtv, qtC, qtD⟩ := g2_ qb4.out; obtain ⟨Ao23, co23, eo23⟩ := Kd.qbz qj8.out; subst eo23) | ((with_reducible refine qad (f := 42) rfl ?_); refine gl_ 58 Tryz.func42 #[.slice Ao23 qmk.length co23, .agg #[.int .i64 (wrap64 ((Int.tmod (Int.tmod (wrap64 ((wrap64 (qgh * 177)) + 2221)) 10007) 9) + 2)), .int .i64 (Int.tmod (Int.tmod (wrap64 ((wrap64 ((Int.tmod (wrap64 ((wrap64 (qgh * 177)) + 2221)) 10007) * 177)) + 2221)) 10007) (wrap64 ((Int.tmod (Int.tmod (wrap64 ((wrap64 (qgh * 177)) + 2221)) 10007) 9) + 2)))]] rfl qbH ?_; (with_reducible refine (qbO.calls kj12 _ _ qmk (wrap64 ((Int.tmod (Int.tmod (wrap64 ((wrap64 (qgh * 177)) + 2221)) 10007) 9) + 2)) (Int.tmod (Int.tmod (wrap64 ((wrap64 ((Int.tmod (wrap64 ((wrap64 (qgh * 177)) + 2221)) 10007) * 177)) + 2221)) 10007) (wrap64 ((Int.tmod (Int.tmod (wrap64 ((wrap64 (qgh * 177)) + 2221)) 10007) 9) + 2))) true _ ?qaB ?qaC A18.out).mono ?_); (case qaB => refine (Kd.R_reads' (e := 33) (base := w.heap.size) (ok := fun k_ => (True ∧ k_ ≠ qbJ)) (n := qmk.length) (c := co23) ?_).2.2; exact k0_); (case qaC => exact (Kd.R_reads' qj8.out).2.1); rintro e w24 ⟨rfl, hb⟩; refine ⟨_, rfl, ?_⟩; replace qj8 := ak_ (Kd.qbk k0_ hb); replace qai := ak_ (qam (g := qaR) (o := .cells #[.string (⟨#[]⟩ : ByteArray), .int .i64 0] 23 (0, 0)) k27_ hb); replace qb4 := ak_ (qam (g := qbJ) (o := .cells #[.int .i64 (wrap64 ((Int.tmod (Int.tmod (wrap64 ((wrap64 (qgh * 177)) + 2221)) 10007) 9) + 2)), .int .i64 (Int.tmod (Int.tmod (wrap64 ((wrap64 ((Int.tmod (wrap64 ((wrap64 (qgh * 177)) + 2221)) 10007) * 177)) + 2221)) 10007) (wrap64 ((Int.tmod (Int.tmod (wrap64 ((wrap64 (qgh * 177)) + 2221)) 10007) 9) + 2)))] 33 (0, 0)) k3_ hb); replace HB := ak_ (qac qpD hb); (try clear hb)))
        go_roundg kj12
        case measure => have := HJ3.out; have := HK2.out; have := HJ12.out; omega
        case rel => exact ⟨(Int.tmod (wrap64 ((wrap64 ((Int.tmod (wrap64 ((wrap64 (qgh * 177)) + 2221)) 10007) * 177)) + 2221)) 10007), (qmk), (wrap64 (qmH + 1)), qbf, qbf, H', ⟨by have := HJ3.out; have := HK2.out; have := HJ12.out; omega⟩, ⟨by (with_reducible repeat (first | apply Kd.qaA | apply Kd.qaz | apply Kd.qaL)); exact Kd.qaT qj8.out (fun _ hk => trivial)⟩, ⟨qce⟩, ⟨qpD⟩⟩
       replace c19 := Bool.eq_false_iff.mpr c19; subst c19; rw [if_neg (show ¬ (false = true) by decide)] at H; by_cases c25 : qmk.length < 8796093022208; rotate_left
       ·rw [if_neg c25] at H; exact absurd H (by simp)
       rw [if_pos c25] at H; have LMc25 := ak_ c25; clear c25
       obtain ⟨y107, hy_⟩ : ∃ y_ : List (qaj), y_ = (qmk ++ [(⟨wrap64 ((Int.tmod (Int.tmod (wrap64 ((wrap64 (qgh * 177)) + 2221)) 10007) 9) + 2), Int.tmod (Int.tmod (wrap64 ((wrap64 ((Int.tmod (wrap64 ((wrap64 (qgh * 177)) + 2221)) 10007) * 177)) + 2221)) 10007) (wrap64 ((Int.tmod (Int.tmod (wrap64 ((wrap64 (qgh * 177)) + 2221)) 10007) 9) + 2))⟩ : qaj)]) := ⟨_, rfl⟩
       replace H : (qaH.l0 kj12 a0 a1 (Int.tmod (wrap64 ((wrap64 ((Int.tmod (wrap64 ((wrap64 (qgh * 177)) + 2221)) 10007) * 177)) + 2221)) 10007) y107 (wrap64 (qmH + 1))) = some (r1, r2, r3) := qkD; have Ny107 := ak_ hy_; clear hy_; have H' := ak_ H; clear H
       go_wp2_with (first | ((with_reducible refine qas (N := 12) rfl ?_); (try (refine qav (by rfl) ?_; dsimp only)); refine bx_ 12 (cs := #[.int .i64 0, .int .i64 0]) (t := 33) qa0 ?_; intro qbJ hg w26 hbox hb; replace qj8 := ak_ (Kd.qbk (Kd.qcN (by apply_rules only [qj8.out, Kd.qaA, Kd.qaz, Kd.qaL]) qbJ (Nat.le_of_eq hg.symm)) hb); have qb4 := ak_ (hbox); have qnj := ak_ ((by rw [hg]; exact (qal qaM) : w.heap.size ≤ qbJ)); have qmm := ak_ ((by rw [hg]; exact (qal qaM) : w.heap.size ≤ qbJ)); replace HB := ak_ (qac qaM hb); have qep := ak_ (qai.ne hg); have qe1 := ak_ (qai.ne hg).symm; replace qai := ak_ (qam qce hb); clear hb hbox hg; have hnb27 := qe1.out; have hnc27 := qep.out; obtain ⟨hcz28_0, hcz28_1, hfz28_0, hfz28_1⟩ := g2_ qb4.out; obtain ⟨Ao29, co29, eo29⟩ := Kd.qbz qj8.out; subst eo29) | ((with_reducible refine qad (f := 42) rfl ?_); refine gl_ 58 Tryz.func42 #[.slice Ao29 qmk.length co29, .agg #[.int .i64 (wrap64 ((Int.tmod (Int.tmod (wrap64 ((wrap64 (qgh * 177)) + 2221)) 10007) 9) + 2)), .int .i64 (Int.tmod (Int.tmod (wrap64 ((wrap64 ((Int.tmod (wrap64 ((wrap64 (qgh * 177)) + 2221)) 10007) * 177)) + 2221)) 10007) (wrap64 ((Int.tmod (Int.tmod (wrap64 ((wrap64 (qgh * 177)) + 2221)) 10007) 9) + 2)))]] rfl qbH ?_; (with_reducible refine (qbO.calls kj12 _ _ qmk (wrap64 ((Int.tmod (Int.tmod (wrap64 ((wrap64 (qgh * 177)) + 2221)) 10007) 9) + 2)) (Int.tmod (Int.tmod (wrap64 ((wrap64 ((Int.tmod (wrap64 ((wrap64 (qgh * 177)) + 2221)) 10007) * 177)) + 2221)) 10007) (wrap64 ((Int.tmod (Int.tmod (wrap64 ((wrap64 (qgh * 177)) + 2221)) 10007) 9) + 2))) false _ ?qaB ?qaC A18.out).mono ?_); (case qaB => refine (Kd.R_reads' (e := 33) (base := w.heap.size) (ok := fun k_ => (True ∧ k_ ≠ qbJ)) (n := qmk.length) (c := co29) ?_).2.2; exact k0_); (case qaC => exact (Kd.R_reads' qj8.out).2.1); rintro e w30 ⟨rfl, hb⟩; refine ⟨_, rfl, ?_⟩; replace qj8 := ak_ (Kd.qbk k0_ hb); replace qai := ak_ (qam (g := qaR) (o := .cells #[.string (⟨#[]⟩ : ByteArray), .int .i64 0] 23 (0, 0)) k27_ hb); replace qb4 := ak_ (qam (g := qbJ) (o := .cells #[.int .i64 (wrap64 ((Int.tmod (Int.tmod (wrap64 ((wrap64 (qgh * 177)) + 2221)) 10007) 9) + 2)), .int .i64 (Int.tmod (Int.tmod (wrap64 ((wrap64 ((Int.tmod (wrap64 ((wrap64 (qgh * 177)) + 2221)) 10007) * 177)) + 2221)) 10007) (wrap64 ((Int.tmod (Int.tmod (wrap64 ((wrap64 (qgh * 177)) + 2221)) 10007) 9) + 2)))] 33 (0, 0)) k3_ hb); replace HB := ak_ (qac qpD hb); (try clear hb); obtain ⟨qh3, qh4, qh5, qh6⟩ := g2_ qb4.out) | ((with_reducible refine qb7 (b := .append) (xs := #[.tmp 60, .tmp 62]) rfl ?_); (try (refine qav (by rfl) ?_; dsimp only)); at_builtin; refine Kd.qe9 qa1 (w0 := w) w.heap.size rfl (.tmp 60) (.tmp 62) 24 33 (.agg #[(.int .i64 0), (.int .i64 0)]) 16 rfl Tryz.underlying24 qjq rfl (by decide) (by omega) (.slice Ao29 qmk.length co29) qmk (⟨wrap64 ((Int.tmod (Int.tmod (wrap64 ((wrap64 (qgh * 177)) + 2221)) 10007) 9) + 2), Int.tmod (Int.tmod (wrap64 ((wrap64 ((Int.tmod (wrap64 ((wrap64 (qgh * 177)) + 2221)) 10007) * 177)) + 2221)) 10007) (wrap64 ((Int.tmod (Int.tmod (wrap64 ((wrap64 (qgh * 177)) + 2221)) 10007) 9) + 2))⟩ : qaj) [.int .i64 (wrap64 ((Int.tmod (Int.tmod (wrap64 ((wrap64 (qgh * 177)) + 2221)) 10007) 9) + 2)), .int .i64 (Int.tmod (Int.tmod (wrap64 ((wrap64 ((Int.tmod (wrap64 ((wrap64 (qgh * 177)) + 2221)) 10007) * 177)) + 2221)) 10007) (wrap64 ((Int.tmod (Int.tmod (wrap64 ((wrap64 (qgh * 177)) + 2221)) 10007) 9) + 2)))] (fun k_ => k_ ≠ qbJ) (fun _ => False) rfl rfl ?aP (fun _ hk => hk.elim) ?aF ?aO ?aB ?aS ?aL ?_; (case aP => exact qdm _ _ _ (⟨wrap64 ((Int.tmod (Int.tmod (wrap64 ((wrap64 (qgh * 177)) + 2221)) 10007) 9) + 2), Int.tmod (Int.tmod (wrap64 ((wrap64 ((Int.tmod (wrap64 ((wrap64 (qgh * 177)) + 2221)) 10007) * 177)) + 2221)) 10007) (wrap64 ((Int.tmod (Int.tmod (wrap64 ((wrap64 (qgh * 177)) + 2221)) 10007) 9) + 2))⟩ : qaj)); (case aB => exact qpD); (case aF => exact (fun k_ hk => Kd.qoT (g := qbJ) (o := .cells #[.int .i64 (wrap64 ((Int.tmod (Int.tmod (wrap64 ((wrap64 (qgh * 177)) + 2221)) 10007) 9) + 2)), .int .i64 (Int.tmod (Int.tmod (wrap64 ((wrap64 ((Int.tmod (wrap64 ((wrap64 (qgh * 177)) + 2221)) 10007) * 177)) + 2221)) 10007) (wrap64 ((Int.tmod (Int.tmod (wrap64 ((wrap64 (qgh * 177)) + 2221)) 10007) 9) + 2)))] 33 (0, 0)) (by apply_rules only [qb4.out, qag, qae, qaf]) k_ hk)); (case aO => exact (by (with_reducible repeat (first | apply Kd.qaA | apply Kd.qaz | apply Kd.qaL)); exact Kd.qaT qj8.out (fun _ hk => hk.2))); (case aS => exact (qal qpD)); (case aL => have := LMc25.out; omega); intro v108 w32 ho hb hg hat; rw [← Ny107.out] at ho; replace qai := ak_ (qev (g := qaR) (o := .cells #[.string (⟨#[]⟩ : ByteArray), .int .i64 0] 23 (0, 0)) qce hg (Kd.qsH qj8.out qai.out (by decide))); replace qb4 := ak_ (qev (g := qbJ) (o := .cells #[.int .i64 (wrap64 ((Int.tmod (Int.tmod (wrap64 ((wrap64 (qgh * 177)) + 2221)) 10007) 9) + 2)), .int .i64 (Int.tmod (Int.tmod (wrap64 ((wrap64 ((Int.tmod (wrap64 ((wrap64 (qgh * 177)) + 2221)) 10007) * 177)) + 2221)) 10007) (wrap64 ((Int.tmod (Int.tmod (wrap64 ((wrap64 (qgh * 177)) + 2221)) 10007) 9) + 2)))] 33 (0, 0)) (by apply_rules only [qb4.out, qag, qae, qaf]) hg (Kd.R_away qj8.out (fun _ hk => hk.2))); replace HB := ak_ (hb); have qpN := ak_ (ho); clear qj8; clear ho hb hg hat))
       go_roundg kj12
       case measure => have := HJ3.out; have := HK2.out; have := HJ12.out; omega
       case rel => exact ⟨(Int.tmod (wrap64 ((wrap64 ((Int.tmod (wrap64 ((wrap64 (qgh * 177)) + 2221)) 10007) * 177)) + 2221)) 10007), (y107), (wrap64 (qmH + 1)), qbf, qbf, H', ⟨by have := HJ3.out; have := HK2.out; have := HJ12.out; omega⟩, ⟨by (with_reducible repeat (first | apply Kd.qaA | apply Kd.qaz | apply Kd.qaL)); exact Kd.qaT qpN.out (fun _ hk => trivial)⟩, ⟨qce⟩, ⟨qpD⟩⟩
def qc2.f (qax : ByteArray) (qaZ : Int) (a1 : Int) (a2 : ByteArray) : Option (ByteArray × Int) := if 0 ≤ (wrap64 (a1 - 1)) then (if (wrap64 (a1 - 1)) ≤ (qax.size : Int) then (if (qax.extract 0 ((wrap64 (a1 - 1)) : Int).toNat).size + a2.size ≤ 9223372036854775807 then (if 0 ≤ a1 then (if a1 ≤ (qax.size : Int) then (if ((qax.extract 0 ((wrap64 (a1 - 1)) : Int).toNat) ++ a2).size + (qax.extract (a1 : Int).toNat qax.size).size ≤ 9223372036854775807 then (some (((qax.extract 0 ((wrap64 (a1 - 1)) : Int).toNat) ++ a2) ++ (qax.extract (a1 : Int).toNat qax.size), qaZ)) else (none)) else (none)) else (none)) else (none)) else (none)) else (none)
def qc2.T1 : Bool × List (List Nat × List Nat) := (true, [([], []), ([0], [0]), ([], []), ([2], [2]), ([1, 3], [1, 3]), ([], []), ([4, 5], [4, 5]), ([], []), ([7], [7]), ([], []), ([8, 9], [8, 9]), ([6, 10], [6, 10]), ([0, 1, 2, 3, 4, 5, 6, 7, 8, 9, 10, 11], []), ([12, 11, 0, 1, 2, 3, 4, 5, 6, 7, 8, 9, 10, 11], [11, 12])])
def qc2.B1 : List Nat := [0, 1, 0, 4, 15, 0, 63, 0, 128, 0, 896, 2047, 4095, 8191]
theorem qc2.tab1 : qhA .any (opsOf Tryz.f89 1) = qc2.T1 := by kernel_rfl
theorem qc2.qsP : qeB qc2.T1.2 qc2.B1 = true := by kernel_rfl
theorem qc2.calls (qax : ByteArray) (qaZ : Int) (a1 : Int) (a2 : ByteArray) (r1 : ByteArray) (r2 : Int) (w : World) (h : qc2.f qax qaZ a1 a2 = some (r1, r2)) :
  Calls Tryz.prog 89 #[.agg #[.string qax, .int .i64 qaZ], .int .i64 a1, .string a2] w fun e w' => e = .returned (.agg #[.string r1, .int .i64 r2]) ∧ Below w.heap.size w w' := by
 have qis := Tryz.underlying23; have HB := ak_ (Below.refl w.heap.size w); have H : (if 0 ≤ (wrap64 (a1 - 1)) then (if (wrap64 (a1 - 1)) ≤ (qax.size : Int) then (if (qax.extract 0 ((wrap64 (a1 - 1)) : Int).toNat).size + a2.size ≤ 9223372036854775807 then (if 0 ≤ a1 then (if a1 ≤ (qax.size : Int) then (if ((qax.extract 0 ((wrap64 (a1 - 1)) : Int).toNat) ++ a2).size + (qax.extract (a1 : Int).toNat qax.size).size ≤ 9223372036854775807 then (some (((qax.extract 0 ((wrap64 (a1 - 1)) : Int).toNat) ++ a2) ++ (qax.extract (a1 : Int).toNat qax.size), qaZ)) else (none)) else (none)) else (none)) else (none)) else (none)) else (none)) = some (r1, r2) := h; clear h
 obtain ⟨ji4, hji4⟩ : ∃ j_ : Int, (wrap64 (a1 - 1)) = j_ := ⟨_, rfl⟩
 replace H : (if 0 ≤ (ji4) then (if (ji4) ≤ (qax.size : Int) then (if (qax.extract 0 ((ji4) : Int).toNat).size + a2.size ≤ 9223372036854775807 then (if 0 ≤ a1 then (if a1 ≤ (qax.size : Int) then (if ((qax.extract 0 ((ji4) : Int).toNat) ++ a2).size + (qax.extract (a1 : Int).toNat qax.size).size ≤ 9223372036854775807 then (some (((qax.extract 0 ((ji4) : Int).toNat) ++ a2) ++ (qax.extract (a1 : Int).toNat qax.size), qaZ)) else (none)) else (none)) else (none)) else (none)) else (none)) else (none)) = some (r1, r2) := by first | (rw [hji4] at H; exact H) | (simp only [hji4] at H ⊢; exact H)
 have hji4w : (IntKind.i64.wrap (a1 - 1)) = ji4 := (qbI _).trans hji4; by_cases c5 : 0 ≤ (ji4); rotate_left
 ·rw [if_neg c5] at H; exact absurd H (by simp)
 rw [if_pos c5] at H; have qi5 := eq_true c5; have c5b1 : decide (0 ≤ (ji4)) = true := decide_eq_true c5; clear c5; by_cases c6 : (ji4) ≤ (qax.size : Int); rotate_left
 ·rw [if_neg c6] at H; exact absurd H (by simp)
 rw [if_pos c6] at H; have qkk := eq_true c6; have qr1 : decide ((ji4) ≤ (qax.size : Int)) = true := decide_eq_true c6; clear c6; by_cases c7 : (qax.extract 0 ((ji4) : Int).toNat).size + a2.size ≤ 9223372036854775807; rotate_left
 ·rw [if_neg c7] at H; exact absurd H (by simp)
 rw [if_pos c7] at H; have qiF := eq_true c7; have qmO : decide ((qax.extract 0 ((ji4) : Int).toNat).size + a2.size ≤ 9223372036854775807) = true := decide_eq_true c7
 try have c7b2 : (9223372036854775807 < (qax.extract 0 ((ji4) : Int).toNat).size + a2.size) = False := eq_false (Nat.not_lt.2 c7)
 have e7_ : (qax.extract 0 ((ji4) : Int).toNat).size = (ji4).toNat := by rw [ByteArray.size_extract]; have := of_eq_true qkk; omega
 have c7b3 : (9223372036854775807 < (ji4).toNat + a2.size) = False := by rw [← e7_]; exact c7b2
 by_cases c8 : 0 ≤ a1; rotate_left
 ·rw [if_neg c8] at H; exact absurd H (by simp)
 rw [if_pos c8] at H; have c8b0 := eq_true c8; have c8b1 : decide (0 ≤ a1) = true := decide_eq_true c8; clear c8; by_cases c9 : a1 ≤ (qax.size : Int); rotate_left
 ·rw [if_neg c9] at H; exact absurd H (by simp)
 rw [if_pos c9] at H; have qqG := eq_true c9; have c9b1 : decide (a1 ≤ (qax.size : Int)) = true := decide_eq_true c9; clear c9; by_cases c10 : ((qax.extract 0 ((ji4) : Int).toNat) ++ a2).size + (qax.extract (a1 : Int).toNat qax.size).size ≤ 9223372036854775807; rotate_left
 ·rw [if_neg c10] at H; exact absurd H (by simp)
 rw [if_pos c10] at H; have qsY := eq_true c10; have c10b1 : decide (((qax.extract 0 ((ji4) : Int).toNat) ++ a2).size + (qax.extract (a1 : Int).toNat qax.size).size ≤ 9223372036854775807) = true := decide_eq_true c10
 try have c10b2 : (9223372036854775807 < ((qax.extract 0 ((ji4) : Int).toNat) ++ a2).size + (qax.extract (a1 : Int).toNat qax.size).size) = False := eq_false (Nat.not_lt.2 c10)
 have e10_ : (qax.extract (a1 : Int).toNat qax.size).size = qax.size - a1.toNat := by rw [ByteArray.size_extract]; omega
 have c10b3 : (9223372036854775807 < (ji4).toNat + a2.size + (qax.size - a1.toNat)) = False := by rw [← e7_, ← e10_, ← ByteArray.size_append]; exact c10b2
 clear e7_ e10_; simp only [Option.some.injEq, Prod.mk.injEq] at H; obtain ⟨rfl, rfl⟩ := H; go_enter Tryz.func89, Tryz.ntmps89
 try go_wp2_with (first | ((with_reducible refine qas (N := 3) rfl ?_); refine bx_ 3 (cs := #[.string qax, .int .i64 qaZ]) (t := 23) qa0 ?_; intro qaR hg w11 hbox hb; have qai := ak_ (hbox); have qcy := ak_ (HB.ge hg); have qcd := ak_ (HB.ge hg); replace HB := HB.mw hb; clear hb hbox hg) | ((with_reducible refine qas (N := 6) rfl ?_); refine bx_ 6 (cs := #[.string (⟨#[]⟩ : ByteArray), .int .i64 0]) (t := 23) qa0 ?_; intro qeY hg w12 hbox hb; have qdo := ak_ (hbox); have qiA := ak_ ((by rw [hg]; exact (qal qaM) : w.heap.size ≤ qeY)); have qgQ := ak_ ((by rw [hg]; exact (qal qaM) : w.heap.size ≤ qeY)); replace HB := ak_ (qac qaM hb); have qdY := ak_ (qai.ne hg); have qdI := ak_ (qai.ne hg).symm; replace qai := qai.mw hb; clear hb hbox hg))
 replace qai := ak_ (qae qai.out); replace qdo := ak_ (qae qdo.out); replace HB := ak_ (qap HB.out); refine qc4 (n := 14) (S := fun w' => w'.cell? ⟨qaR, 0, none⟩ = some (.string qax) ∧ w'.cell? ⟨qaR, 1, none⟩ = some (.int .i64 qaZ)) (ds := [13]) (rA_ [0, 14]) (by kernel_rfl) rfl rfl ⟨c0_ qai.out, c1_ qai.out⟩ (fun hHeld => ?_); refine qbY qc2.tab1 qc2.qsP (fun HT_ HW_ => ?_)
 generalize w12.drew = w13 at qai qdo HB hHeld ⊢
 refine pu_ 0 7 [1, 13] ?_; refine pu_ 2 9 [1, 1, 1, 11] ?_; refine pu_ 3 10 [1, 1, 2, 10] ?_; refine pu_ 5 12 [1, 1, 2, 1, 1, 8] ?_; refine pu_ 7 14 [1, 1, 2, 1, 1, 1, 1, 6] ?_; refine pu_ 9 16 [1, 1, 2, 1, 1, 1, 1, 1, 1, 4] ?_; refine qim 1 8 [4, 1, 1, 1, 1, 1, 1, 4] ?_; refine pu_ 4 11 [6, 1, 1, 1, 1, 4] ?_; refine pu_ 6 13 [8, 1, 1, 4] ?_; refine qim 8 15 [10, 4] ?_; refine pu_ 10 17 [11, 3] ?_; refine pu_ 11 18 [12, 2] ?_; refine pu_ 12 19 [13, 1] ?_; refine qpc (i := 13) (N := none) (rA_ [14]) rfl rfl (qck HT_.out (by kernel_rfl)) (by decide) (fun K hK => ?_); obtain ⟨hs14, hfs14⟩ := g1_ qai.out; have hns14_1 := qdI.out; have hms14_1 := qdY.out; refine qmC (w1 := ?_) (by rfl) rfl ?_ ?_; rotate_left
 ·go_simp; rfl
 refine hK.out _ _ ?_; clear hK K; refine qeF (qc0 HT_.out (by kernel_rfl)) ?_; have hnb15 := qdY.out; have hnc15 := qdI.out; obtain ⟨qqc, qqd, qqg, qqh⟩ := g2_ qai.out; obtain ⟨hcz17_0, hcz17_1, hfz17_0, hfz17_1⟩ := g2_ qdo.out
 try go_wp2
 refine bodyPost_ret (results_cell_row rfl _ _ qeY 23 #[.string (((qax.extract 0 ((ji4) : Int).toNat) ++ a2) ++ (qax.extract (a1 : Int).toNat qax.size)), .int .i64 qaZ] (0, 0) _ rfl (by (with_reducible repeat (first | refine qag ?_ _ | refine qae ?_ | refine qaf ?_ _)); refine qaQ (cs := #[.string (((qax.extract 0 ((ji4) : Int).toNat) ++ a2) ++ (qax.extract (a1 : Int).toNat qax.size)), .int .i64 0]) ?_ 1 _ rfl; (with_reducible repeat (first | refine qag ?_ _ | refine qae ?_ | refine qaf ?_ _)); refine qaQ (cs := #[.string (⟨#[]⟩ : ByteArray), .int .i64 0]) ?_ 0 _ rfl; (with_reducible repeat (first | refine qag ?_ _ | refine qae ?_ | refine qaf ?_ _)); refine qa3 ?_ qdI.out _; apply_rules only [qdo.out, qag, qae, qaf]) Tryz.underlying23 rfl (by kernel_rfl)) rfl ?_; exact ⟨by first | rfl | (simp [qe3, qe4] <;> rfl) | (simp only [← hji4]; first | rfl | (simp [qe3, qe4] <;> rfl)) | (simp [*, qe3, qe4] <;> rfl), k95_⟩
end
end Go.Proofs.YtbnmajedmajfoaaGreatDoor.P
