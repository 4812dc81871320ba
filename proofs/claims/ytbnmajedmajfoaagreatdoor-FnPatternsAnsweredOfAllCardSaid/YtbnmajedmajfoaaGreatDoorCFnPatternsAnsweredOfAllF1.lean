/- What functions of the program answer. Proved in this text: its theorems. Conditions: as each theorem states them. -/
import Derived.Test.YtbnmajedmajfoaaGreatDoorCFnPatternsAnsweredOfAllP
import Derived.Test.YtbnmajedmajfoaaGreatDoorCFnPatternsAnsweredOfAllF0
namespace Go.Proofs.YtbnmajedmajfoaaGreatDoor.P
open Go.RowKit Go.Proofs.YtbnmajedmajfoaaGreatDoorW.PrintWords Go.Proofs.YtbnmajedmajfoaaGreatDoorW.PrintLast Go.Proofs.YtbnmajedmajfoaaGreatDoorW.PrintMore
attribute [local go_sem] max2_int min2_int max_two min_two max_three min_three max_four min_four
set_option linter.unusedVariables false
set_option linter.unusedSimpArgs false
attribute [local go_sem high] eqA33
def impl_Rule_72.l0 : Nat → List (SRule) → Int → Int → Int → Int → Option (Int)
 | 0, _, _, _, _, _ => none
 | k + 1, x0, x7, x8, x102000, x102001 => if x8 < x7 then (if 0 ≤ x8 then (if x8 < (x0.length : Int) then (if (x102000 == ((rd_Rule x0 x8).f0) && (x102001 == ((rd_Rule x0 x8).f1))) = true then (some x8) else (impl_Rule_72.l0 k x0 x7 (wrap64 (x8 + 1)) x102000 x102001)) else (none)) else (none)) else (some (-1))
def impl_Rule_72.f (k : Nat) (l0 : List (SRule)) (a1_0 : Int) (a1_1 : Int) : Option (Int) := impl_Rule_72.l0 k l0 (l0.length : Int) 0 a1_0 a1_1
set_option maxHeartbeats 8000000 in
set_option maxRecDepth 100000 in
theorem impl_Rule_72.calls (k : Nat) (A0 : Option Addr) (c0 : Nat) (l0 : List (SRule)) (a1_0 : Int) (a1_1 : Int) (r : Int) (w : World) (hr0 : Kd.C kRule w A0 l0.length l0) (hc0 : l0.length ≤ c0) (h : impl_Rule_72.f k l0 a1_0 a1_1 = some r) :
  Calls Tryz.prog 72 #[.slice A0 l0.length c0, .agg #[.int .i64 a1_0, .int .i64 a1_1]] w fun e w' => e = .returned (.int .i64 r) ∧ Below w.heap.size w w' := by
 have hu33 := Tryz.underlying33
 have HR0 := Aside0.mk hr0
 have HC0 := Aside0.mk hc0
 clear hr0 hc0
 have HB := Aside0.mk (Below.refl w.heap.size w)
 have H : (impl_Rule_72.l0 k l0 (l0.length : Int) 0 a1_0 a1_1) = some r := h
 clear h
 have H' := Aside0.mk H
 clear H
 go_enter Tryz.func72, Tryz.ntmps72
 go_wp2_with (first | ((with_reducible refine gate_dst (N := 3) rfl ?_); refine box_event ?hg (N := 3) ?hd (cs := #[.int .i64 a1_0, .int .i64 a1_1]) (t := 33) ?hr ?_; (case hd => rfl); (case hg => rfl); (case hr => exact k94_); intro gb101 hg w3 hbox hb; have BK101 := Aside0.mk (hbox); have GW101 := Aside0.mk (HB.ge hg); have GE101 := Aside0.mk (HB.ge hg); replace HB := HB.mw hb; clear hb hbox hg))
 repeat (go_quiet (first | ((with_reducible refine gate_dst (N := 3) rfl ?_); refine box_event ?hg (N := 3) ?hd (cs := #[.int .i64 a1_0, .int .i64 a1_1]) (t := 33) ?hr ?_; (case hd => rfl); (case hg => rfl); (case hr => exact k94_); intro gb101 hg w3 hbox hb; have BK101 := Aside0.mk (hbox); have GW101 := Aside0.mk (HB.ge hg); have GE101 := Aside0.mk (HB.ge hg); replace HB := HB.mw hb; clear hb hbox hg)); try go_wp2_with (first | ((with_reducible refine gate_dst (N := 3) rfl ?_); refine box_event ?hg (N := 3) ?hd (cs := #[.int .i64 a1_0, .int .i64 a1_1]) (t := 33) ?hr ?_; (case hd => rfl); (case hg => rfl); (case hr => exact k94_); intro gb101 hg w3 hbox hb; have BK101 := Aside0.mk (hbox); have GW101 := Aside0.mk (HB.ge hg); have GE101 := Aside0.mk (HB.ge hg); replace HB := HB.mw hb; clear hb hbox hg)))
 go_loopg [8] k (fun kq v8 w' => ∃ (x8_1 : Int), v8 = .int .i64 x8_1 ∧ Aside0 (impl_Rule_72.l0 kq l0 (l0.length : Int) x8_1 a1_0 a1_1 = some r) ∧ Aside0 (kq ≤ k) ∧ Aside0 (w'.heap[gb101]? = some (.cells #[.int .i64 a1_0, .int .i64 a1_1] 33 (0, 0))) ∧ Aside0 (Below w.heap.size w w'))
 case atStart => exact ⟨(0), k92_, H', ⟨Nat.le_refl _⟩, ⟨k85_⟩, ⟨k71_⟩⟩
 case round =>
  clear H'
  obtain ⟨x8_1, rfl, HA, HK1, BK101, HB⟩ := hrel
  cases gk with
  | zero => exact absurd HA.out (by simp [impl_Rule_72.l0])
  | succ k1 =>
   have H := HA.out
   clear HA
   simp only [impl_Rule_72.l0] at H
   by_cases c4 : x8_1 < (l0.length : Int)
   ·rw [if_pos c4] at H
    have c4b0 : decide (x8_1 < (l0.length : Int)) = true := decide_eq_true c4
    clear c4
    by_cases c5 : 0 ≤ x8_1
    ·rw [if_pos c5] at H
     have c5b0 : decide (0 ≤ x8_1) = true := decide_eq_true c5
     clear c5
     by_cases c6 : x8_1 < (l0.length : Int)
     ·rw [if_pos c6] at H
      have c6b0 : decide (x8_1 < (l0.length : Int)) = true := decide_eq_true c6
      clear c6
      by_cases c7 : (a1_0 == ((rd_Rule l0 x8_1).f0) && (a1_1 == ((rd_Rule l0 x8_1).f1))) = true
      ·rw [if_pos c7] at H
       have c7b0 : (a1_0 == ((rd_Rule l0 x8_1).f0) && (a1_1 == ((rd_Rule l0 x8_1).f1))) = true := c7
       (try (have c7b1 : decide (a1_0 = ((rd_Rule l0 x8_1).f0) && (a1_1 == ((rd_Rule l0 x8_1).f1))) = true := by simpa using c7))
       (try (have c7b2 : (a1_0 == ((rd_Rule l0 x8_1).f0) && (a1_1 == ((rd_Rule l0 x8_1).f1))) = true := by simpa using c7))
       clear c7
       obtain rfl := Option.some.inj H
       have hcz8_0 : wr.cell? ⟨gb101, 0, none⟩ = some (.int .i64 a1_0) := (blk_cell BK101.out 0).trans rfl
       have hcz8_1 : wr.cell? ⟨gb101, 1, none⟩ = some (.int .i64 a1_1) := (blk_cell BK101.out 1).trans rfl
       have hfz8_0 := blk_frozen BK101.out 0
       have hfz8_1 := blk_frozen BK101.out 1
       have p102 : 0 ≤ (x8_1 : Int) := of_decide_eq_true k91_
       have q102 : x8_1 < (l0.length : Int) := of_decide_eq_true k91_
       obtain ⟨ad102, e102, hx102_0, hx102_1⟩ := at_Rule HR0.out x8_1 p102 q102
       cases e102
       replace hx102_0 := (HB.out.cell (World.block_lt_of_cell? w _ hx102_0)).trans hx102_0
       replace hx102_1 := (HB.out.cell (World.block_lt_of_cell? w _ hx102_1)).trans hx102_1
       replace p102 := eq_true p102
       replace q102 := eq_true q102
       go_wp2
       repeat (go_quiet (fail); try go_wp2)
       go_ret
       exact ⟨k70_, k71_⟩
      ·rw [if_neg c7] at H
       have c7b0 : (a1_0 == ((rd_Rule l0 x8_1).f0) && (a1_1 == ((rd_Rule l0 x8_1).f1))) = false := by simpa using c7
       (try (have c7b1 : decide (a1_0 = ((rd_Rule l0 x8_1).f0) && (a1_1 == ((rd_Rule l0 x8_1).f1))) = false := by simpa using c7))
       (try (have c7b2 : (a1_0 == ((rd_Rule l0 x8_1).f0) && (a1_1 == ((rd_Rule l0 x8_1).f1))) = false := by simpa using c7))
       (try (have c7b3 : ¬ (a1_0 = ((rd_Rule l0 x8_1).f0) && (a1_1 == ((rd_Rule l0 x8_1).f1))) := by simpa using c7))
       clear c7
       have H' := Aside0.mk H
       clear H
       have hcz9_0 : wr.cell? ⟨gb101, 0, none⟩ = some (.int .i64 a1_0) := (blk_cell BK101.out 0).trans rfl
       have hcz9_1 : wr.cell? ⟨gb101, 1, none⟩ = some (.int .i64 a1_1) := (blk_cell BK101.out 1).trans rfl
       have hfz9_0 := blk_frozen BK101.out 0
       have hfz9_1 := blk_frozen BK101.out 1
       have p102 : 0 ≤ (x8_1 : Int) := of_decide_eq_true k91_
       have q102 : x8_1 < (l0.length : Int) := of_decide_eq_true k91_
       obtain ⟨ad102, e102, hx102_0, hx102_1⟩ := at_Rule HR0.out x8_1 p102 q102
       cases e102
       replace hx102_0 := (HB.out.cell (World.block_lt_of_cell? w _ hx102_0)).trans hx102_0
       replace hx102_1 := (HB.out.cell (World.block_lt_of_cell? w _ hx102_1)).trans hx102_1
       replace p102 := eq_true p102
       replace q102 := eq_true q102
       go_wp2
       repeat (go_quiet (fail); try go_wp2)
       go_roundg k1
       case measure => have := HK1.out; omega
       case rel => exact ⟨(wrap64 (x8_1 + 1)), k92_, H', ⟨k96_⟩, ⟨k85_⟩, ⟨k71_⟩⟩
     ·rw [if_neg c6] at H
      exact absurd H (by simp)
    ·rw [if_neg c5] at H
     exact absurd H (by simp)
   ·rw [if_neg c4] at H
    have c4b0 : decide (x8_1 < (l0.length : Int)) = false := decide_eq_false c4
    clear c4
    obtain rfl := Option.some.inj H
    go_wp2
    repeat (go_quiet (fail); try go_wp2)
    go_ret
    exact ⟨k70_, k71_⟩
end Go.Proofs.YtbnmajedmajfoaaGreatDoor.P
namespace Go.Proofs.YtbnmajedmajfoaaGreatDoor.P
open Go.RowKit Go.Proofs.YtbnmajedmajfoaaGreatDoorW.PrintWords Go.Proofs.YtbnmajedmajfoaaGreatDoorW.PrintLast Go.Proofs.YtbnmajedmajfoaaGreatDoorW.PrintMore
attribute [local go_sem] max2_int min2_int max_two min_two max_three min_three max_four min_four
set_option linter.unusedVariables false
set_option linter.unusedSimpArgs false
def impl_Rule_41.f (k : Nat) (l0 : List (SRule)) (a1_0 : Int) (a1_1 : Int) : Option (Bool) := (impl_Rule_72.f k l0 a1_0 a1_1).bind fun t102 => (some (decide (t102 ≥ 0)))
set_option maxHeartbeats 8000000 in
set_option maxRecDepth 100000 in
theorem impl_Rule_41.calls (k : Nat) (A0 : Option Addr) (c0 : Nat) (l0 : List (SRule)) (a1_0 : Int) (a1_1 : Int) (r : Bool) (w : World) (hr0 : Kd.C kRule w A0 l0.length l0) (hc0 : l0.length ≤ c0) (h : impl_Rule_41.f k l0 a1_0 a1_1 = some r) :
  Calls Tryz.prog 41 #[.slice A0 l0.length c0, .agg #[.int .i64 a1_0, .int .i64 a1_1]] w fun e w' => e = .returned (.bool r) ∧ Below w.heap.size w w' := by
 have hu33 := Tryz.underlying33
 have HR0 := Aside0.mk hr0
 have HC0 := Aside0.mk hc0
 clear hr0 hc0
 have HB := Aside0.mk (Below.refl w.heap.size w)
 have H : ((impl_Rule_72.f k l0 a1_0 a1_1).bind fun t102 => (some (decide (t102 ≥ 0)))) = some r := h
 clear h
 obtain ⟨t102, A3, H⟩ := obnd_ H
 (try dsimp only at H)
 obtain rfl := Option.some.inj H
 go_enter Tryz.func41, Tryz.ntmps41
 go_wp2_with (first | ((with_reducible refine gate_dst (N := 3) rfl ?_); refine box_event ?hg (N := 3) ?hd (cs := #[.int .i64 a1_0, .int .i64 a1_1]) (t := 33) ?hr ?_; (case hd => rfl); (case hg => rfl); (case hr => exact k94_); intro gb101 hg w4 hbox hb; have BK101 := Aside0.mk (hbox); have GW101 := Aside0.mk (HB.ge hg); have GE101 := Aside0.mk (HB.ge hg); replace HB := HB.mw hb; clear hb hbox hg; have hcz5_0 : w4.cell? ⟨gb101, 0, none⟩ = some (.int .i64 a1_0) := (blk_cell BK101.out 0).trans rfl; have hcz5_1 : w4.cell? ⟨gb101, 1, none⟩ = some (.int .i64 a1_1) := (blk_cell BK101.out 1).trans rfl; have hfz5_0 := blk_frozen BK101.out 0; have hfz5_1 := blk_frozen BK101.out 1) | ((with_reducible refine gate_callee (f := 72) rfl ?_); refine goesL_ (some 7) rfl rfl Tryz.func72 (by kernel_rfl) rfl #[.slice A0 l0.length c0, .agg #[.int .i64 a1_0, .int .i64 a1_1]] rfl k59_ ?_; (with_reducible refine (impl_Rule_72.calls k _ _ l0 a1_0 a1_1 t102 _ ?side1 ?side2 A3.out).mono ?_); (case side1 => exact k47_); (case side2 => exact HC0.out); rintro e w6 ⟨rfl, hb⟩; refine ⟨_, rfl, ?_⟩; replace BK101 := BK101.mw hb; replace HB := Aside0.mk (below_step k71_ hb); (try clear hb)))
 go_ret
 exact ⟨k70_, k71_⟩
end Go.Proofs.YtbnmajedmajfoaaGreatDoor.P
namespace Go.Proofs.YtbnmajedmajfoaaGreatDoor.P
open Go.RowKit Go.Proofs.YtbnmajedmajfoaaGreatDoorW.PrintWords Go.Proofs.YtbnmajedmajfoaaGreatDoorW.PrintLast Go.Proofs.YtbnmajedmajfoaaGreatDoorW.PrintMore
attribute [local go_sem] max2_int min2_int max_two min_two max_three min_three max_four min_four
set_option linter.unusedVariables false
set_option linter.unusedSimpArgs false
set_option maxHeartbeats 8000000 in
set_option maxRecDepth 100000 in
theorem ixfS_calls (p : List SRule → Bool) (g : Nat) (lb : Array Value) (eg : ∀ args w, (callFunc g args).run Tryz.prog w = .ok (.enter g args) w)
    (A0 : Option Addr) (c0 : Nat) (zs : List (List Value × List SRule)) (w : World) (hp : ∀ (W : World) (z : List Value × List SRule), z ∈ zs → Below w.heap.size w W → ∃ A' c', z.1 = [.slice A' z.2.length c'] ∧ Calls Tryz.prog g (#[.slice A' z.2.length c'] ++ lb) W fun e w' => e = .returned (.bool (p z.2)) ∧ Below w.heap.size w w') (hr0 : Kd.C (kRaw (List SRule)) w A0 zs.length zs) :
    Calls Tryz.prog 71 #[.slice A0 zs.length c0, .func (.func g) #[] lb] w fun e w' => e = .returned (.int .i64 (fIx (fun z : List Value × List SRule => p z.2) zs 0)) ∧ Below w.heap.size w w' := by
  have hm : zs.length ≤ 9223372036854775807 := Kd.C_max hr0
  have HR0 := Aside0.mk hr0
  have HP := Aside0.mk hp
  clear hr0 hp
  have HB := Aside0.mk (Below.refl w.heap.size w)
  have H0 := Aside0.mk (show fIx (fun z : List Value × List SRule => p z.2) zs 0 = fIx (fun z : List Value × List SRule => p z.2) (zs.drop 0) ((0 : Nat) : Int) from rfl)
  go_enter Tryz.func71, Tryz.ntmps71
  go_wp2
  go_loopg [5, 8] zs.length (fun gg _ s8 wr => ∃ kk : Nat, kk ≤ zs.length ∧ zs.length - kk ≤ gg ∧ s8 = .int .i64 kk ∧ Aside0 (Below w.heap.size w wr) ∧ Aside0 (fIx (fun z : List Value × List SRule => p z.2) zs 0 = fIx (fun z : List Value × List SRule => p z.2) (zs.drop kk) kk))
  case atStart => exact ⟨0, Nat.zero_le _, by omega, rfl, HB, H0⟩
  case round =>
    clear HB H0
    obtain ⟨kk, hkk, hg, rfl, HB, HI⟩ := hrel
    by_cases hlt : kk < zs.length
    · have hltz : (kk : Int) < (zs.length : Int) := by omega
      obtain ⟨z, hz⟩ : ∃ z, zs[kk]? = some z := ⟨zs[kk], List.getElem?_eq_getElem hlt⟩
      have hdz : zs.drop kk = z :: zs.drop (kk + 1) := by
        rw [List.drop_eq_getElem_cons hlt]
        rw [List.getElem?_eq_getElem hlt] at hz
        injection hz with hz
        rw [hz]
      obtain ⟨A', c', ez, hcall⟩ := HP.out wr z (List.mem_of_getElem? hz) HB.out
      obtain ⟨ad, ce, e_, hcl, hK, hcc⟩ := Kd.C_get HR0.out z (kk : Int) (by omega) hltz
      have ey : zs.getD (kk : Int).toNat z = z := by simp [List.getD, hz]
      rw [ey] at hK
      obtain ⟨rfl, -, -⟩ := hK
      subst e_
      have hx0 : w.cell? (ad.add ((kk : Int).toNat * 1 + 0)) = some (.slice A' z.2.length c') := hcc 0 _ (by rw [ez]; rfl)
      simp only [Int.toNat_natCast, Nat.mul_one, Nat.add_zero] at hx0
      replace hx0 := (HB.out.cell (World.block_lt_of_cell? w _ hx0)).trans hx0
      have HDZ := Aside0.mk hdz
      clear hcl hcc hz ez ey hdz
      cases hq : p z.2 with
      | true =>
        rw [hq] at hcall
        have HQ := Aside0.mk hq
        clear hq
        go_wp2_with (go_at_fn g; refine hcall.mono ?_; rintro e w' ⟨rfl, hb'⟩)
        go_ret
        exact ⟨by rw [HI.out, HDZ.out, fIx, if_pos HQ.out]; rfl, hb'⟩
      | false =>
        rw [hq] at hcall
        have HQ := Aside0.mk hq
        clear hq
        go_wp2_with (go_at_fn g; refine hcall.mono ?_; rintro e w' ⟨rfl, hb'⟩)
        go_roundg (zs.length - (kk + 1))
        case measure => omega
        case rel => exact ⟨kk + 1, by omega, by omega, by go_num, ⟨hb'⟩, ⟨by rw [HI.out, HDZ.out, fIx, if_neg (by rw [HQ.out]; decide)]; rfl⟩⟩
    · have hltz : ¬ (kk : Int) < (zs.length : Int) := by omega
      have HDZ := Aside0.mk (List.drop_eq_nil_of_le (by omega : zs.length ≤ kk))
      go_wp2
      go_ret
      exact ⟨by rw [HI.out, HDZ.out]; rfl, HB.out⟩
end Go.Proofs.YtbnmajedmajfoaaGreatDoor.P
namespace Go.Proofs.YtbnmajedmajfoaaGreatDoor.P
open Go.RowKit Go.Proofs.YtbnmajedmajfoaaGreatDoorW.PrintWords Go.Proofs.YtbnmajedmajfoaaGreatDoorW.PrintLast Go.Proofs.YtbnmajedmajfoaaGreatDoorW.PrintMore
attribute [local go_sem] max2_int min2_int max_two min_two max_three min_three max_four min_four
set_option linter.unusedVariables false
set_option linter.unusedSimpArgs false
def sureMiss (k : Nat) (x : SRule) (a : List SRule) : Bool := impl_Rule_41.f k a x.f0 x.f1 == some false
def impl_SureRules.f (k : Nat) (a0_0 : ByteArray) (a0_1 : Int) : Option (List SRule × Bool) := (impl_answersOf.f k a0_0 a0_1).bind fun b => if b.2 = true then (if b.1.length = 0 then some ([], false) else (if (rd_Rules b.1 0).length < 8796093022207 ∧ ((rd_Rules b.1 0).all fun x => b.1.all fun a => (impl_Rule_41.f k a x.f0 x.f1).isSome) = true then some ((rd_Rules b.1 0).filter (fun x => !(b.1.any (sureMiss k x))), true) else none)) else some ([], false)
theorem fIx_any {α : Type} (p : α → Bool) : ∀ (l : List α) (i : Int), 0 ≤ i → decide (0 ≤ fIx p l i) = l.any p
  | [], _, _ => by simp [fIx]
  | x :: l, i, hi => by
    rw [fIx, List.any_cons]
    cases hx : p x with
    | true => simp [hi]
    | false => simpa using fIx_any p l (i + 1) (by omega)
set_option maxHeartbeats 8000000 in
set_option maxRecDepth 100000 in
theorem cfS_calls (p : List SRule → Bool) (g : Nat) (lb : Array Value) (eg : ∀ args w, (callFunc g args).run Tryz.prog w = .ok (.enter g args) w)
    (A0 : Option Addr) (c0 : Nat) (zs : List (List Value × List SRule)) (w : World) (hp : ∀ (W : World) (z : List Value × List SRule), z ∈ zs → Below w.heap.size w W → ∃ A' c', z.1 = [.slice A' z.2.length c'] ∧ Calls Tryz.prog g (#[.slice A' z.2.length c'] ++ lb) W fun e w' => e = .returned (.bool (p z.2)) ∧ Below w.heap.size w w') (hr0 : Kd.C (kRaw (List SRule)) w A0 zs.length zs) :
    Calls Tryz.prog 39 #[.slice A0 zs.length c0, .func (.func g) #[] lb] w fun e w' => e = .returned (.bool ((zs.map Prod.snd).any p)) ∧ Below w.heap.size w w' := by
  rw [List.any_map, show (p ∘ Prod.snd) = (fun z : List Value × List SRule => p z.2) from rfl, ← fIx_any (fun z : List Value × List SRule => p z.2) zs 0 (by omega)]
  have hcall := Aside0.mk (ixfS_calls p g lb eg A0 c0 zs w hp hr0)
  clear hp hr0
  go_enter Tryz.func39, Tryz.ntmps39
  go_wp2_with (go_at_call 71; refine hcall.out.mono ?_; rintro e w' ⟨rfl, hb'⟩)
  go_ret
  exact ⟨rfl, hb'⟩
set_option maxHeartbeats 8000000 in
set_option maxRecDepth 100000 in
theorem sure2_calls (k : Nat) (a : List SRule) (A' : Option Addr) (c' : Nat) (x : SRule) (gR : Nat) (W : World) (t : Bool) (hC : Kd.C kRule W A' a.length a) (hc' : a.length ≤ c') (hb : W.heap[gR]? = some (.cells #[.int .i64 x.f0, .int .i64 x.f1] 33 (0, 0))) (h : impl_Rule_41.f k a x.f0 x.f1 = some t) :
    Calls Tryz.prog 40 #[.slice A' a.length c', .pointer (some ⟨gR, 0, none⟩)] W fun e w' => e = .returned (.bool (!t)) ∧ Below W.heap.size W w' := by
  have hu := Tryz.underlying33
  have HC := Aside0.mk hC
  have HC' := Aside0.mk hc'
  have A_ := Aside0.mk h
  have hx0 : W.cell? ⟨gR, 0, none⟩ = some (.int .i64 x.f0) := (blk_cell hb 0).trans rfl
  have hx1 : W.cell? ⟨gR, 1, none⟩ = some (.int .i64 x.f1) := (blk_cell hb 1).trans rfl
  clear hC hc' hb h
  go_enter Tryz.func40, Tryz.ntmps40
  go_wp2_with (((with_reducible refine gate_callee (f := 41) rfl ?_); refine goesL_ (some 6) rfl rfl Tryz.func41 (by kernel_rfl) rfl #[.slice A' a.length c', .agg #[.int .i64 x.f0, .int .i64 x.f1]] rfl k73_ ?_; (with_reducible refine (impl_Rule_41.calls k _ _ a x.f0 x.f1 t _ ?side1 ?side2 A_.out).mono ?_); (case side1 => exact HC.out); (case side2 => exact HC'.out); rintro e w1 ⟨rfl, hb1⟩; refine ⟨_, rfl, ?_⟩; have HB1 := Aside0.mk hb1; clear hb1))
  go_ret
  exact ⟨rfl, HB1.out⟩
theorem rows_of_S {base : Nat} {ok : Nat → Prop} {w : World} {A : Option Addr} {n c : Nat} {xs : List (List SRule)} (h : Kd.S (Kd.slice 33 kRule) 24 w base ok (.slice A n c) xs) :
    ∃ zs : List (List Value × List SRule), zs.map Prod.snd = xs ∧ Kd.C (kRaw (List SRule)) w A zs.length zs ∧ ∀ z ∈ zs, ∃ A' c', z.1 = [.slice A' z.2.length c'] ∧ Kd.C kRule w A' z.2.length z.2 ∧ z.2.length ≤ c' := by
  obtain ⟨f, zs, h1, h2, h3⟩ := raw_of_S h rfl
  have h4 := Kd.R_reads' h2
  refine ⟨zs, h1, h4.1 ▸ h4.2.2, fun z hz => ?_⟩
  obtain ⟨m, hm⟩ := List.getElem?_of_mem hz
  obtain ⟨vr, e, hR⟩ := h3 m z hm
  obtain ⟨A', c', e2⟩ := Kd.R_slice hR
  subst e2
  have h5 := Kd.R_reads' hR
  exact ⟨A', c', e, h5.2.2, h5.2.1⟩
theorem sure_pred (k : Nat) (L : List (List SRule)) (x : SRule) (gR : Nat) (w2 : World) (zs : List (List Value × List SRule)) (hz1 : zs.map Prod.snd = L) (hz3 : ∀ z ∈ zs, ∃ A' c', z.1 = [.slice A' z.2.length c'] ∧ Kd.C kRule w2 A' z.2.length z.2 ∧ z.2.length ≤ c') (hn : ∀ a ∈ L, (impl_Rule_41.f k a x.f0 x.f1).isSome = true) (hb : w2.heap[gR]? = some (.cells #[.int .i64 x.f0, .int .i64 x.f1] 33 (0, 0))) :
    ∀ (W_ : World) (z : List Value × List SRule), z ∈ zs → Below w2.heap.size w2 W_ → ∃ A' c', z.1 = [.slice A' z.2.length c'] ∧ Calls Tryz.prog 40 (#[.slice A' z.2.length c'] ++ #[.pointer (some ⟨gR, 0, none⟩)]) W_ fun e w' => e = .returned (.bool (sureMiss k x z.2)) ∧ Below w2.heap.size w2 w' := by
  intro W_ z hz hb_
  obtain ⟨A', c', e1, hC1, hc1⟩ := hz3 z hz
  obtain ⟨t, ht⟩ := Option.isSome_iff_exists.1 (hn z.2 (by rw [← hz1]; exact List.mem_map_of_mem hz))
  have hm : sureMiss k x z.2 = !t := by unfold sureMiss; rw [ht]; cases t <;> rfl
  refine ⟨A', c', e1, (sure2_calls k z.2 A' c' x gR W_ t (Kd.C_below hC1 hb_) hc1 (blk_below hb hb_) ht).mono ?_⟩
  rintro e w' ⟨rfl, hb2⟩
  exact ⟨by rw [hm], below_step hb_ hb2⟩
set_option maxHeartbeats 8000000 in
set_option maxRecDepth 100000 in
theorem sure1_calls (k : Nat) (L : List (List SRule)) (x : SRule) (gL : Nat) (AL : Option Addr) (cL base : Nat) (ok : Nat → Prop) (W : World) (hS : Kd.S (Kd.slice 33 kRule) 24 W base ok (.slice AL L.length cL) L) (hc : W.cell? ⟨gL, 0, none⟩ = some (.slice AL L.length cL)) (hs : ∀ a ∈ L, (impl_Rule_41.f k a x.f0 x.f1).isSome = true) :
    Calls Tryz.prog 38 #[.agg #[.int .i64 x.f0, .int .i64 x.f1], .pointer (some ⟨gL, 0, none⟩)] W fun e w' => e = .returned (.bool (L.any (sureMiss k x))) ∧ Below W.heap.size W w' := by
  have hu := Tryz.underlying33
  have HS := Aside0.mk hS
  have HN := Aside0.mk hs
  have HC := Aside0.mk hc
  clear hS hs hc
  go_enter Tryz.func38, Tryz.ntmps38
  go_wp2_with (first | ((with_reducible refine gate_dst (N := 2) rfl ?_); (try (refine gate_guard (by rfl) ?_; dsimp only)); refine box_event ?hg (N := 2) ?hd (cs := #[.int .i64 x.f0, .int .i64 x.f1]) (t := 33) ?hr ?_; (case hd => rfl); (case hg => rfl); (case hr => exact k94_); intro gR hg w2 hbox hb; have BR := Aside0.mk hbox; have HB2 := Aside0.mk hb; have hcL : w2.cell? ⟨gL, 0, none⟩ = some (.slice AL L.length cL) := (hb.cell (World.block_lt_of_cell? W _ HC.out)).trans HC.out; have HS2 := Aside0.mk (Kd.S_below HS.out hb); clear hbox hb hg) | ((with_reducible refine gate_callee (f := 39) rfl ?_); obtain ⟨zs, hz1, hz2, hz3⟩ := rows_of_S HS2.out; have hzl : zs.length = L.length := (by rw [← hz1, List.length_map]); refine goesL_ (some 6) rfl rfl Tryz.func39 (by kernel_rfl) rfl #[.slice AL zs.length cL, .func (.func 40) #[] #[.pointer (some ⟨gR, 0, none⟩)]] rfl (by (try simp only [List.map_toArray, List.map_cons, List.map_nil]); rw [hzl]; first | done | rfl) ?_; refine (cfS_calls (sureMiss k x) 40 #[.pointer (some ⟨gR, 0, none⟩)] (enters_of Tryz.func40 (by kernel_rfl) rfl) AL cL zs _ ?sP hz2).mono ?_; (case sP => exact sure_pred k L x gR w2 zs hz1 hz3 HN.out BR.out); rintro e w6 ⟨rfl, hb6⟩; refine ⟨_, rfl, ?_⟩; rw [hz1]; have HB6 := Aside0.mk hb6; clear hb6 hz1 hz2 hz3 hzl))
  go_ret
  exact ⟨rfl, below_step HB2.out HB6.out⟩
set_option maxHeartbeats 8000000 in
set_option maxRecDepth 100000 in
theorem impl_SureRules.calls (k : Nat) (a0_0 : ByteArray) (a0_1 : Int) (r1 : List SRule) (r2 : Bool) (w : World) (h : impl_SureRules.f k a0_0 a0_1 = some (r1, r2)) :
    Calls Tryz.prog 11 #[.agg #[.string a0_0, .int .i64 a0_1]] w fun e w' => ∃ v0_ : Value, e = .returned (.tuple #[v0_, .bool r2]) ∧ Kd.R kRule 33 w' w.heap.size (fun _ => True) v0_ r1 ∧ Below w.heap.size w w' := by
  have hu := Tryz.underlying23
  unfold impl_SureRules.f at h
  replace h := Option.bind_eq_some_iff.mp h
  obtain ⟨⟨L, t⟩, A0_, h⟩ := h
  have A1 := Aside0.mk A0_
  clear A0_
  replace h : (if t = true then (if L.length = 0 then some ([], false) else (if (rd_Rules L 0).length < 8796093022207 ∧ ((rd_Rules L 0).all fun x => L.all fun a => (impl_Rule_41.f k a x.f0 x.f1).isSome) = true then some ((rd_Rules L 0).filter (fun x => !(L.any (sureMiss k x))), true) else none)) else some ([], false)) = some (r1, r2) := h
  cases t with
  | false =>
    rw [if_neg (by decide)] at h
    simp only [Option.some.injEq, Prod.mk.injEq] at h
    obtain ⟨rfl, rfl⟩ := h
    go_enter Tryz.func11, Tryz.ntmps11
    go_wp2_with (first | ((with_reducible refine gate_dst (N := 1) rfl ?_); (try (refine gate_guard (by rfl) ?_; dsimp only)); refine box_event ?hg (N := 1) ?hd (cs := #[.string a0_0, .int .i64 a0_1]) (t := 23) ?hr ?_; (case hd => rfl); (case hg => rfl); (case hr => exact k94_); intro gP hg w1 hbox hb; have BP1 := Aside0.mk hbox; have HB1 := Aside0.mk hb; have hcp0 : w1.cell? ⟨gP, 0, none⟩ = some (.string a0_0) := (blk_cell hbox 0).trans rfl; have hcp1 : w1.cell? ⟨gP, 1, none⟩ = some (.int .i64 a0_1) := (blk_cell hbox 1).trans rfl; clear hbox hb hg) | ((with_reducible refine gate_callee (f := 35) rfl ?_); refine goesL_ (some 8) rfl rfl Tryz.func35 (by kernel_rfl) rfl #[.agg #[.string a0_0, .int .i64 a0_1]] rfl k73_ ?_; (with_reducible refine (impl_answersOf.calls k a0_0 a0_1 L false _ A1.out).mono ?_); rintro e wA ⟨v8, rfl, ho, hb⟩; refine ⟨_, rfl, ?_⟩; have HBA := Aside0.mk (below_step HB1.out hb); obtain ⟨AL, cL, eL⟩ := Kd.S_slice ho; subst eL; have HSA := Aside0.mk (Kd.S_mono (ok' := fun k_ => k_ < wA.heap.size) (Kd.S_bound ho) (fun _ hk => hk.2.2.1)); clear ho hb hcp0 hcp1 BP1 HB1) | ((with_reducible refine gate_dst (N := 4) rfl ?_); (try (refine gate_guard (by rfl) ?_; dsimp only)); refine box_event ?hg (N := 4) ?hd (cs := #[.slice none 0 0]) (t := 25) ?hr ?_; (case hd => rfl); (case hg => rfl); (case hr => exact k94_); intro g4 hg w4 hbox hb; have B4_ := Aside0.mk (show (w4.setCell ⟨g4, 0, none⟩ (.slice AL L.length cL)).heap[g4]? = _ from blk_put (cs' := #[.slice AL L.length cL]) hbox 0 (.slice AL L.length cL) rfl); have HB4 := Aside0.mk (show Below wA.heap.size wA (w4.setCell ⟨g4, 0, none⟩ (.slice AL L.length cL)) from below_set hb (Nat.le_of_eq hg.symm)); have hc4 : w4.cell? ⟨g4, 0, none⟩ = some (.slice none 0 0) := (blk_cell hbox 0).trans rfl; have hf4 := blk_frozen hbox 0; clear hbox hb hg))
    go_ret2
    exact ⟨_, rfl, Kd.R_nil _ _ _ _ _, below_step HBA.out HB4.out⟩
  | true =>
    rw [if_pos rfl] at h
    by_cases c1_ : L.length = 0
    · rw [if_pos c1_] at h
      simp only [Option.some.injEq, Prod.mk.injEq] at h
      obtain ⟨rfl, rfl⟩ := h
      have c1b : ((L.length : Int) == 0) = true := beq_iff_eq.2 (by omega)
      clear c1_
      go_enter Tryz.func11, Tryz.ntmps11
      go_wp2_with (first | ((with_reducible refine gate_dst (N := 1) rfl ?_); (try (refine gate_guard (by rfl) ?_; dsimp only)); refine box_event ?hg (N := 1) ?hd (cs := #[.string a0_0, .int .i64 a0_1]) (t := 23) ?hr ?_; (case hd => rfl); (case hg => rfl); (case hr => exact k94_); intro gP hg w1 hbox hb; have BP1 := Aside0.mk hbox; have HB1 := Aside0.mk hb; have hcp0 : w1.cell? ⟨gP, 0, none⟩ = some (.string a0_0) := (blk_cell hbox 0).trans rfl; have hcp1 : w1.cell? ⟨gP, 1, none⟩ = some (.int .i64 a0_1) := (blk_cell hbox 1).trans rfl; clear hbox hb hg) | ((with_reducible refine gate_callee (f := 35) rfl ?_); refine goesL_ (some 8) rfl rfl Tryz.func35 (by kernel_rfl) rfl #[.agg #[.string a0_0, .int .i64 a0_1]] rfl k73_ ?_; (with_reducible refine (impl_answersOf.calls k a0_0 a0_1 L true _ A1.out).mono ?_); rintro e wA ⟨v8, rfl, ho, hb⟩; refine ⟨_, rfl, ?_⟩; have HBA := Aside0.mk (below_step HB1.out hb); obtain ⟨AL, cL, eL⟩ := Kd.S_slice ho; subst eL; have HSA := Aside0.mk (Kd.S_mono (ok' := fun k_ => k_ < wA.heap.size) (Kd.S_bound ho) (fun _ hk => hk.2.2.1)); clear ho hb hcp0 hcp1 BP1 HB1) | ((with_reducible refine gate_dst (N := 4) rfl ?_); (try (refine gate_guard (by rfl) ?_; dsimp only)); refine box_event ?hg (N := 4) ?hd (cs := #[.slice none 0 0]) (t := 25) ?hr ?_; (case hd => rfl); (case hg => rfl); (case hr => exact k94_); intro g4 hg w4 hbox hb; have B4_ := Aside0.mk (show (w4.setCell ⟨g4, 0, none⟩ (.slice AL L.length cL)).heap[g4]? = _ from blk_put (cs' := #[.slice AL L.length cL]) hbox 0 (.slice AL L.length cL) rfl); have HB4 := Aside0.mk (show Below wA.heap.size wA (w4.setCell ⟨g4, 0, none⟩ (.slice AL L.length cL)) from below_set hb (Nat.le_of_eq hg.symm)); have hc4 : w4.cell? ⟨g4, 0, none⟩ = some (.slice none 0 0) := (blk_cell hbox 0).trans rfl; have hf4 := blk_frozen hbox 0; clear hbox hb hg))
      go_ret2
      exact ⟨_, rfl, Kd.R_nil _ _ _ _ _, below_step HBA.out HB4.out⟩
    · rw [if_neg c1_] at h
      have c1b : ((L.length : Int) == 0) = false := beq_eq_false_iff_ne.2 (by omega)
      have HL0 := Aside0.mk (Nat.pos_of_ne_zero c1_)
      by_cases c2_ : (rd_Rules L 0).length < 8796093022207 ∧ ((rd_Rules L 0).all fun x => L.all fun a => (impl_Rule_41.f k a x.f0 x.f1).isSome) = true
      · rw [if_pos c2_] at h
        have HLB := Aside0.mk c2_.1
        have HSO := Aside0.mk c2_.2
        obtain ⟨row, hrow⟩ : ∃ l_, l_ = rd_Rules L 0 := ⟨_, rfl⟩
        rw [← hrow] at h
        have HROW := Aside0.mk hrow
        have HFIN := Aside0.mk h
        clear h c2_ c1_ hrow
        go_enter Tryz.func11, Tryz.ntmps11
        go_wp2_with (first | ((with_reducible refine gate_dst (N := 1) rfl ?_); (try (refine gate_guard (by rfl) ?_; dsimp only)); refine box_event ?hg (N := 1) ?hd (cs := #[.string a0_0, .int .i64 a0_1]) (t := 23) ?hr ?_; (case hd => rfl); (case hg => rfl); (case hr => exact k94_); intro gP hg w1 hbox hb; have BP1 := Aside0.mk hbox; have HB1 := Aside0.mk hb; have hcp0 : w1.cell? ⟨gP, 0, none⟩ = some (.string a0_0) := (blk_cell hbox 0).trans rfl; have hcp1 : w1.cell? ⟨gP, 1, none⟩ = some (.int .i64 a0_1) := (blk_cell hbox 1).trans rfl; clear hbox hb hg) | ((with_reducible refine gate_callee (f := 35) rfl ?_); refine goesL_ (some 8) rfl rfl Tryz.func35 (by kernel_rfl) rfl #[.agg #[.string a0_0, .int .i64 a0_1]] rfl k73_ ?_; (with_reducible refine (impl_answersOf.calls k a0_0 a0_1 L true _ A1.out).mono ?_); rintro e wA ⟨v8, rfl, ho, hb⟩; refine ⟨_, rfl, ?_⟩; have HBA := Aside0.mk (below_step HB1.out hb); obtain ⟨AL, cL, eL⟩ := Kd.S_slice ho; subst eL; have HSA := Aside0.mk (Kd.S_mono (ok' := fun k_ => k_ < wA.heap.size) (Kd.S_bound ho) (fun _ hk => hk.2.2.1)); clear ho hb hcp0 hcp1 BP1 HB1) | ((with_reducible refine gate_dst (N := 4) rfl ?_); (try (refine gate_guard (by rfl) ?_; dsimp only)); refine box_event ?hg (N := 4) ?hd (cs := #[.slice none 0 0]) (t := 25) ?hr ?_; (case hd => rfl); (case hg => rfl); (case hr => exact k94_); intro g4 hg w4 hbox hb; have B4_ := Aside0.mk (show (w4.setCell ⟨g4, 0, none⟩ (.slice AL L.length cL)).heap[g4]? = _ from blk_put (cs' := #[.slice AL L.length cL]) hbox 0 (.slice AL L.length cL) rfl); have HB4 := Aside0.mk (show Below wA.heap.size wA (w4.setCell ⟨g4, 0, none⟩ (.slice AL L.length cL)) from below_set hb (Nat.le_of_eq hg.symm)); have hc4 : w4.cell? ⟨g4, 0, none⟩ = some (.slice none 0 0) := (blk_cell hbox 0).trans rfl; have hf4 := blk_frozen hbox 0; clear hbox hb hg) | ((with_reducible refine gate_dst (N := 18) rfl ?_); refine Kd.R_lit kRule _ 33 ?hg (N := 18) ?hd (xs := ([] : List SRule)) (inner := []) (ok := fun _ => True) (okp := fun _ => True) ?hr ?hp (fun _ hk => hk) trivial (Below.refl _ _) (Nat.le_refl _) (by simp) ?_; (case hd => rfl); (case hg => rfl); (case hr => exact k94_); (case hp => exact Reps.none _ _); intro v18 w18 ho hb hg_ hnew_; clear hg_ hnew_; have HL18 := Aside0.mk (Kd.R_lower ho HB4.out.size); have HB18 := Aside0.mk (below_step HB4.out hb); have B18 := Aside0.mk (blk_below B4_.out hb); have HS18 := Aside0.mk (Kd.S_below HSA.out HB18.out); have hcL : w18.cell? ⟨g4, 0, none⟩ = some (.slice AL L.length cL) := (blk_cell B18.out 0).trans rfl; obtain ⟨ad, AR, cR, eR, hxR, hlR, hiR⟩ := at_Rules (Kd.S_reads' HS18.out).2.2 0 (by omega) (by have := HL0.out; omega); cases eR; (try rw [show ((0 : Int)).toNat = 0 from rfl] at hxR); (try rw [Addr.add_zero'] at hxR); rw [← HROW.out] at hxR hlR hiR; have HIR := Aside0.mk hiR; have HLR := Aside0.mk hlR; have qL_ : (0 < L.length) = True := eq_true HL0.out; have qLz_ : ((0 : Int) < (L.length : Int)) = True := eq_true (by have := HL0.out; omega); clear hiR hlR; clear ho hb hc4 hf4) | ((with_reducible refine gate_builtin (b := .append) (xs := #[.tmp 18, .tmp 21]) rfl ?_); at_builtin; refine Kd.R_append_rows kRule (w0 := wA) wA.heap.size rfl (.tmp 18) (.tmp 21) 24 33 (.agg #[(.int .i64 0), (.int .i64 0)]) 16 rfl Tryz.underlying24 infoE_Rule rfl (by decide) (by omega) v18 ([] : List SRule) row _ _ _ (fun k_ => k_ ≠ g4) (fun _ => False) rfl rfl ?aO ?aR (fun _ _ h => h) (fun _ h => h.elim) ?aF ?aB ?aS ?aL ?_; (case aO => exact Kd.R_mono (Kd.R_types HL18.out B18.out (by decide)) (fun _ hk => hk.2)); (case aF => exact (fun k_ hk => by have := blk_lt B18.out; omega)); (case aR => exact HIR.out); (case aB => exact HB18.out); (case aS => exact below_size HB18.out); (case aL => have h_ := HLB.out; rw [← HROW.out] at h_; simp only [List.length_nil]; omega); intro v22 w22 ho hb hg_ hat_; simp only [List.nil_append] at ho; have B22 := Aside0.mk (blk_grown B18.out hg_ (fun e_ => by have := Kd.R_ne HL18.out B18.out (by decide); exact this e_)); clear hg_ hat_; have HL22 := Aside0.mk ho; have HB22 := Aside0.mk hb; have HS22 := Aside0.mk (Kd.S_below HSA.out hb); clear HL18 HB18 HS18 hcL hxR HIR HLR ho hb; obtain ⟨A22, c22, e22⟩ := Kd.R_slice HL22.out; subst e22) | ((with_reducible refine gate_callee (f := 37) rfl ?_); refine goesL_ (some 24) rfl rfl Tryz.func37 (by kernel_rfl) rfl #[.slice A22 row.length c22, .func (.func 38) #[] #[.pointer (some ⟨g4, 0, none⟩)]] rfl k73_ ?_; refine (delR_calls (fun x => L.any (sureMiss k x)) 38 #[.pointer (some ⟨g4, 0, none⟩)] (enters_of Tryz.func38 (by kernel_rfl) rfl) A22 c22 wA.heap.size (fun k_ => k_ ≠ g4) row _ HB22.out.size HL22.out ?sP).mono ?_; (case sP => exact (fun W_ x hx hg_ => sure1_calls k L x g4 (some ad) cL _ _ W_ (Kd.S_grown HS22.out hg_ (fun k_ hk_ e_ => by have h1_ := Kd.R_base HL22.out k_ e_.symm; omega)) ((blk_cell (blk_grown B22.out hg_ (fun e_ => HL22.out.1 g4 e_.symm rfl)) 0).trans rfl) (fun a ha => by have h_ := List.all_eq_true.1 HSO.out x (by rw [← HROW.out]; exact hx); exact List.all_eq_true.1 h_ a ha))); rintro e w24 ⟨rfl, hR_, hg_⟩; refine ⟨_, rfl, ?_⟩; have HBx := Aside0.mk (HB22.out.grown hg_ HB22.out.size (Kd.R_base HL22.out)); have HR24 := Aside0.mk hR_; clear hR_ hg_ HL22 HB22 B22 HS22))
        have h_ := HFIN.out
        simp only [Option.some.injEq, Prod.mk.injEq] at h_
        obtain ⟨rfl, rfl⟩ := h_
        go_ret2
        exact ⟨_, rfl, Kd.R_mono (Kd.R_lower HR24.out (Nat.le_trans HBA.out.size (Nat.le_refl _))) (fun _ _ => trivial), below_step HBA.out HBx.out⟩
      · rw [if_neg c2_] at h
        exact absurd h (by simp)
end Go.Proofs.YtbnmajedmajfoaaGreatDoor.P
namespace Go.Proofs.YtbnmajedmajfoaaGreatDoor.P
open Go.RowKit Go.Proofs.YtbnmajedmajfoaaGreatDoorW.PrintWords Go.Proofs.YtbnmajedmajfoaaGreatDoorW.PrintLast Go.Proofs.YtbnmajedmajfoaaGreatDoorW.PrintMore
attribute [local go_sem] max2_int min2_int max_two min_two max_three min_three max_four min_four
set_option linter.unusedVariables false
set_option linter.unusedSimpArgs false
attribute [local go_sem high] eqA33
def spec_pzHas.l0 : Nat → List (SRule) → Int → Int → Int → Int → Option (Bool)
 | 0, _, _, _, _, _ => none
 | k + 1, x7, x8, x9, x102000, x102001 => if x9 < x8 then (if 0 ≤ x9 then (if x9 < (x7.length : Int) then (if (((rd_Rule x7 x9).f0) == x102000 && (((rd_Rule x7 x9).f1) == x102001)) = true then (some true) else (spec_pzHas.l0 k x7 x8 (wrap64 (x9 + 1)) x102000 x102001)) else (none)) else (none)) else (some false)
def spec_pzHas.f (k : Nat) (l0 : List (SRule)) (a1_0 : Int) (a1_1 : Int) : Option (Bool) := spec_pzHas.l0 k l0 (l0.length : Int) 0 a1_0 a1_1
set_option maxHeartbeats 8000000 in
set_option maxRecDepth 100000 in
theorem spec_pzHas.calls (k : Nat) (A0 : Option Addr) (c0 : Nat) (l0 : List (SRule)) (a1_0 : Int) (a1_1 : Int) (r : Bool) (w : World) (hr0 : Kd.C kRule w A0 l0.length l0) (hc0 : l0.length ≤ c0) (h : spec_pzHas.f k l0 a1_0 a1_1 = some r) :
  Calls Tryz.prog 42 #[.slice A0 l0.length c0, .agg #[.int .i64 a1_0, .int .i64 a1_1]] w fun e w' => e = .returned (.bool r) ∧ Below w.heap.size w w' := by
 have hu33 := Tryz.underlying33
 have HR0 := Aside0.mk hr0
 have HC0 := Aside0.mk hc0
 clear hr0 hc0
 have HB := Aside0.mk (Below.refl w.heap.size w)
 have H : (spec_pzHas.l0 k l0 (l0.length : Int) 0 a1_0 a1_1) = some r := h
 clear h
 have H' := Aside0.mk H
 clear H
 go_enter Tryz.func42, Tryz.ntmps42
 go_wp2_with (first | ((with_reducible refine gate_dst (N := 3) rfl ?_); refine box_event ?hg (N := 3) ?hd (cs := #[.int .i64 a1_0, .int .i64 a1_1]) (t := 33) ?hr ?_; (case hd => rfl); (case hg => rfl); (case hr => exact k94_); intro gb101 hg w3 hbox hb; have BK101 := Aside0.mk (hbox); have GW101 := Aside0.mk (HB.ge hg); have GE101 := Aside0.mk (HB.ge hg); replace HB := HB.mw hb; clear hb hbox hg))
 go_loopg [9] k (fun kq v9 w' => ∃ (x9_1 : Int), v9 = .int .i64 x9_1 ∧ Aside0 (spec_pzHas.l0 kq l0 (l0.length : Int) x9_1 a1_0 a1_1 = some r) ∧ Aside0 (kq ≤ k) ∧ Aside0 (w'.heap[gb101]? = some (.cells #[.int .i64 a1_0, .int .i64 a1_1] 33 (0, 0))) ∧ Aside0 (Below w.heap.size w w'))
 case atStart => exact ⟨(0), k92_, H', ⟨Nat.le_refl _⟩, ⟨k85_⟩, ⟨k71_⟩⟩
 case round =>
  clear H'
  obtain ⟨x9_1, rfl, HA, HK1, BK101, HB⟩ := hrel
  cases gk with
  | zero => exact absurd HA.out (by simp [spec_pzHas.l0])
  | succ k1 =>
   have H := HA.out
   clear HA
   simp only [spec_pzHas.l0] at H
   by_cases c4 : x9_1 < (l0.length : Int)
   ·rw [if_pos c4] at H
    have c4b0 : decide (x9_1 < (l0.length : Int)) = true := decide_eq_true c4
    clear c4
    by_cases c5 : 0 ≤ x9_1
    ·rw [if_pos c5] at H
     have c5b0 : decide (0 ≤ x9_1) = true := decide_eq_true c5
     clear c5
     by_cases c6 : x9_1 < (l0.length : Int)
     ·rw [if_pos c6] at H
      have c6b0 : decide (x9_1 < (l0.length : Int)) = true := decide_eq_true c6
      clear c6
      by_cases c7 : (((rd_Rule l0 x9_1).f0) == a1_0 && (((rd_Rule l0 x9_1).f1) == a1_1)) = true
      ·rw [if_pos c7] at H
       have c7b0 : (((rd_Rule l0 x9_1).f0) == a1_0 && (((rd_Rule l0 x9_1).f1) == a1_1)) = true := c7
       (try (have c7b1 : decide (((rd_Rule l0 x9_1).f0) = a1_0 && (((rd_Rule l0 x9_1).f1) == a1_1)) = true := by simpa using c7))
       (try (have c7b2 : (((rd_Rule l0 x9_1).f0) == a1_0 && (((rd_Rule l0 x9_1).f1) == a1_1)) = true := by simpa using c7))
       clear c7
       obtain rfl := Option.some.inj H
       have p102 : 0 ≤ (x9_1 : Int) := of_decide_eq_true k91_
       have q102 : x9_1 < (l0.length : Int) := of_decide_eq_true k91_
       obtain ⟨ad102, e102, hx102_0, hx102_1⟩ := at_Rule HR0.out x9_1 p102 q102
       cases e102
       replace hx102_0 := (HB.out.cell (World.block_lt_of_cell? w _ hx102_0)).trans hx102_0
       replace hx102_1 := (HB.out.cell (World.block_lt_of_cell? w _ hx102_1)).trans hx102_1
       replace p102 := eq_true p102
       replace q102 := eq_true q102
       go_wp2_with (first | ((with_reducible refine gate_dst (N := 6) rfl ?_); refine box_event ?hg (N := 6) ?hd (cs := #[.int .i64 0, .int .i64 0]) (t := 33) ?hr ?_; (case hd => rfl); (case hg => rfl); (case hr => exact k94_); intro gb103 hg w8 hbox hb; have BK103 := Aside0.mk (hbox); have GW103 := Aside0.mk ((by rw [hg]; exact (below_size k71_) : w.heap.size ≤ gb103)); have GE103 := Aside0.mk ((by rw [hg]; exact (below_size k71_) : w.heap.size ≤ gb103)); replace HB := Aside0.mk (below_step k71_ hb); have NB101_103 := Aside0.mk (BK101.ne hg); have NB103_101 := Aside0.mk (BK101.ne hg).symm; replace BK101 := BK101.mw hb; clear hb hbox hg; have hnb9 := NB103_101.out; have hnc9 := NB101_103.out; have hcz10_0 : w8.cell? ⟨gb103, 0, none⟩ = some (.int .i64 0) := (blk_cell BK103.out 0).trans rfl; have hcz10_1 : w8.cell? ⟨gb103, 1, none⟩ = some (.int .i64 0) := (blk_cell BK103.out 1).trans rfl; have hfz10_0 := blk_frozen BK103.out 0; have hfz10_1 := blk_frozen BK103.out 1; have hcz11_0 : w8.cell? ⟨gb101, 0, none⟩ = some (.int .i64 a1_0) := (blk_cell BK101.out 0).trans rfl; have hcz11_1 : w8.cell? ⟨gb101, 1, none⟩ = some (.int .i64 a1_1) := (blk_cell BK101.out 1).trans rfl; have hfz11_0 := blk_frozen BK101.out 0; have hfz11_1 := blk_frozen BK101.out 1))
       go_ret
       exact ⟨k70_, by apply_rules only [HB.out, below_alloc, pw_below_drewN, below_drew1, below_set, GE101.out, GE103.out]⟩
      ·rw [if_neg c7] at H
       have c7b0 : (((rd_Rule l0 x9_1).f0) == a1_0 && (((rd_Rule l0 x9_1).f1) == a1_1)) = false := by simpa using c7
       (try (have c7b1 : decide (((rd_Rule l0 x9_1).f0) = a1_0 && (((rd_Rule l0 x9_1).f1) == a1_1)) = false := by simpa using c7))
       (try (have c7b2 : (((rd_Rule l0 x9_1).f0) == a1_0 && (((rd_Rule l0 x9_1).f1) == a1_1)) = false := by simpa using c7))
       (try (have c7b3 : ¬ (((rd_Rule l0 x9_1).f0) = a1_0 && (((rd_Rule l0 x9_1).f1) == a1_1)) := by simpa using c7))
       clear c7
       have H' := Aside0.mk H
       clear H
       have p102 : 0 ≤ (x9_1 : Int) := of_decide_eq_true k91_
       have q102 : x9_1 < (l0.length : Int) := of_decide_eq_true k91_
       obtain ⟨ad102, e102, hx102_0, hx102_1⟩ := at_Rule HR0.out x9_1 p102 q102
       cases e102
       replace hx102_0 := (HB.out.cell (World.block_lt_of_cell? w _ hx102_0)).trans hx102_0
       replace hx102_1 := (HB.out.cell (World.block_lt_of_cell? w _ hx102_1)).trans hx102_1
       replace p102 := eq_true p102
       replace q102 := eq_true q102
       go_wp2_with (first | ((with_reducible refine gate_dst (N := 6) rfl ?_); refine box_event ?hg (N := 6) ?hd (cs := #[.int .i64 0, .int .i64 0]) (t := 33) ?hr ?_; (case hd => rfl); (case hg => rfl); (case hr => exact k94_); intro gb103 hg w12 hbox hb; have BK103 := Aside0.mk (hbox); have GW103 := Aside0.mk ((by rw [hg]; exact (below_size k71_) : w.heap.size ≤ gb103)); have GE103 := Aside0.mk ((by rw [hg]; exact (below_size k71_) : w.heap.size ≤ gb103)); replace HB := Aside0.mk (below_step k71_ hb); have NB101_103 := Aside0.mk (BK101.ne hg); have NB103_101 := Aside0.mk (BK101.ne hg).symm; replace BK101 := BK101.mw hb; clear hb hbox hg; have hnb13 := NB103_101.out; have hnc13 := NB101_103.out; have hcz14_0 : w12.cell? ⟨gb103, 0, none⟩ = some (.int .i64 0) := (blk_cell BK103.out 0).trans rfl; have hcz14_1 : w12.cell? ⟨gb103, 1, none⟩ = some (.int .i64 0) := (blk_cell BK103.out 1).trans rfl; have hfz14_0 := blk_frozen BK103.out 0; have hfz14_1 := blk_frozen BK103.out 1; have hcz15_0 : w12.cell? ⟨gb101, 0, none⟩ = some (.int .i64 a1_0) := (blk_cell BK101.out 0).trans rfl; have hcz15_1 : w12.cell? ⟨gb101, 1, none⟩ = some (.int .i64 a1_1) := (blk_cell BK101.out 1).trans rfl; have hfz15_0 := blk_frozen BK101.out 0; have hfz15_1 := blk_frozen BK101.out 1))
       go_roundg k1
       case measure => have := HK1.out; omega
       case rel => exact ⟨(wrap64 (x9_1 + 1)), k92_, H', ⟨k96_⟩, ⟨k19_⟩, ⟨by apply_rules only [HB.out, below_alloc, pw_below_drewN, below_drew1, below_set, GE101.out, GE103.out]⟩⟩
     ·rw [if_neg c6] at H
      exact absurd H (by simp)
    ·rw [if_neg c5] at H
     exact absurd H (by simp)
   ·rw [if_neg c4] at H
    have c4b0 : decide (x9_1 < (l0.length : Int)) = false := decide_eq_false c4
    clear c4
    obtain rfl := Option.some.inj H
    go_wp2
    go_ret
    exact ⟨k70_, k71_⟩
end Go.Proofs.YtbnmajedmajfoaaGreatDoor.P
namespace Go.Proofs.YtbnmajedmajfoaaGreatDoor.P
open Go.RowKit Go.Proofs.YtbnmajedmajfoaaGreatDoorW.PrintWords Go.Proofs.YtbnmajedmajfoaaGreatDoorW.PrintLast Go.Proofs.YtbnmajedmajfoaaGreatDoorW.PrintMore
attribute [local go_sem] max2_int min2_int max_two min_two max_three min_three max_four min_four
set_option linter.unusedVariables false
set_option linter.unusedSimpArgs false
def sureHas (k : Nat) (x : SRule) (a : List SRule) : Bool := spec_pzHas.f k a x.f0 x.f1 == some true
def spec_SureRules.f (k : Nat) (a0_0 : ByteArray) (a0_1 : Int) : Option (List SRule × Bool) := (spec_pzAnswers.f k a0_0 a0_1).bind fun b => if b.2 = true then (if b.1.length = 0 then some ([], false) else (if (rd_Rules b.1 0).length < 8796093022207 ∧ ((rd_Rules b.1 0).all fun x => b.1.all fun a => (spec_pzHas.f k a x.f0 x.f1).isSome) = true then some ((rd_Rules b.1 0).filter (fun x => b.1.all (sureHas k x)), true) else none)) else some ([], false)
theorem sure_take (l : List SRule) (p : SRule → Bool) (j : Nat) (h : j < l.length) : (l.take (j + 1)).filter p = (l.take j).filter p ++ (if p (rd_Rule l (j : Int)) = true then [rd_Rule l (j : Int)] else []) := by
  rw [List.take_succ_eq_append_getElem h, List.filter_append]
  congr 1
  have e_ : rd_Rule l (j : Int) = l[j] := by simp [rd_Rule, List.getD, h]
  rw [e_]
  by_cases c : p l[j] = true
  · rw [if_pos c, List.filter_cons, if_pos c, List.filter_nil]
  · rw [if_neg c, List.filter_cons, if_neg c, List.filter_nil]
theorem sure_all (L : List (List SRule)) (p : List SRule → Bool) (j : Nat) (h : j < L.length) : (L.take (j + 1)).all p = ((L.take j).all p && p (rd_Rules L (j : Int))) := by
  rw [List.take_succ_eq_append_getElem h, List.all_append, show rd_Rules L (j : Int) = L[j] by simp [rd_Rules, List.getD, h]]
  simp
set_option maxHeartbeats 8000000 in
set_option maxRecDepth 100000 in
theorem spec_SureRules.calls (k : Nat) (a0_0 : ByteArray) (a0_1 : Int) (r1 : List SRule) (r2 : Bool) (w : World) (h : spec_SureRules.f k a0_0 a0_1 = some (r1, r2)) :
    Calls Tryz.prog 12 #[.agg #[.string a0_0, .int .i64 a0_1]] w fun e w' => ∃ v0_ : Value, e = .returned (.tuple #[v0_, .bool r2]) ∧ Kd.R kRule 33 w' w.heap.size (fun _ => True) v0_ r1 ∧ Below w.heap.size w w' := by
  have hu := Tryz.underlying23
  have hu2 := Tryz.underlying33
  unfold spec_SureRules.f at h
  replace h := Option.bind_eq_some_iff.mp h
  obtain ⟨⟨L, t⟩, A0_, h⟩ := h
  have A1 := Aside0.mk A0_
  clear A0_
  replace h : (if t = true then (if L.length = 0 then some ([], false) else (if (rd_Rules L 0).length < 8796093022207 ∧ ((rd_Rules L 0).all fun x => L.all fun a => (spec_pzHas.f k a x.f0 x.f1).isSome) = true then some ((rd_Rules L 0).filter (fun x => L.all (sureHas k x)), true) else none)) else some ([], false)) = some (r1, r2) := h
  cases t with
  | false =>
    rw [if_neg (by decide)] at h
    simp only [Option.some.injEq, Prod.mk.injEq] at h
    obtain ⟨rfl, rfl⟩ := h
    go_enter Tryz.func12, Tryz.ntmps12
    go_wp2_with (first | ((with_reducible refine gate_dst (N := 1) rfl ?_); (try (refine gate_guard (by rfl) ?_; dsimp only)); refine box_event ?hg (N := 1) ?hd (cs := #[.string a0_0, .int .i64 a0_1]) (t := 23) ?hr ?_; (case hd => rfl); (case hg => rfl); (case hr => exact k94_); intro gP hg w1 hbox hb; have BP1 := Aside0.mk hbox; have HB1 := Aside0.mk hb; have hcp0 : w1.cell? ⟨gP, 0, none⟩ = some (.string a0_0) := (blk_cell hbox 0).trans rfl; have hcp1 : w1.cell? ⟨gP, 1, none⟩ = some (.int .i64 a0_1) := (blk_cell hbox 1).trans rfl; clear hbox hb hg) | ((with_reducible refine gate_callee (f := 36) rfl ?_); refine goesL_ (some 14) rfl rfl Tryz.func36 (by kernel_rfl) rfl #[.agg #[.string a0_0, .int .i64 a0_1]] rfl k73_ ?_; (with_reducible refine (spec_pzAnswers.calls k a0_0 a0_1 L false _ A1.out).mono ?_); rintro e wA ⟨v8, rfl, ho, hb⟩; refine ⟨_, rfl, ?_⟩; have HBA := Aside0.mk (below_step HB1.out hb); obtain ⟨AL, cL, eL⟩ := Kd.S_slice ho; subst eL; have HSA := Aside0.mk ho; clear ho hb hcp0 hcp1 BP1 HB1))
    go_ret2
    exact ⟨_, rfl, Kd.R_nil _ _ _ _ _, HBA.out⟩
  | true =>
    rw [if_pos rfl] at h
    by_cases c1_ : L.length = 0
    · rw [if_pos c1_] at h
      simp only [Option.some.injEq, Prod.mk.injEq] at h
      obtain ⟨rfl, rfl⟩ := h
      have c1b : ((L.length : Int) == 0) = true := beq_iff_eq.2 (by omega)
      clear c1_
      go_enter Tryz.func12, Tryz.ntmps12
      go_wp2_with (first | ((with_reducible refine gate_dst (N := 1) rfl ?_); (try (refine gate_guard (by rfl) ?_; dsimp only)); refine box_event ?hg (N := 1) ?hd (cs := #[.string a0_0, .int .i64 a0_1]) (t := 23) ?hr ?_; (case hd => rfl); (case hg => rfl); (case hr => exact k94_); intro gP hg w1 hbox hb; have BP1 := Aside0.mk hbox; have HB1 := Aside0.mk hb; have hcp0 : w1.cell? ⟨gP, 0, none⟩ = some (.string a0_0) := (blk_cell hbox 0).trans rfl; have hcp1 : w1.cell? ⟨gP, 1, none⟩ = some (.int .i64 a0_1) := (blk_cell hbox 1).trans rfl; clear hbox hb hg) | ((with_reducible refine gate_callee (f := 36) rfl ?_); refine goesL_ (some 14) rfl rfl Tryz.func36 (by kernel_rfl) rfl #[.agg #[.string a0_0, .int .i64 a0_1]] rfl k73_ ?_; (with_reducible refine (spec_pzAnswers.calls k a0_0 a0_1 L true _ A1.out).mono ?_); rintro e wA ⟨v8, rfl, ho, hb⟩; refine ⟨_, rfl, ?_⟩; have HBA := Aside0.mk (below_step HB1.out hb); obtain ⟨AL, cL, eL⟩ := Kd.S_slice ho; subst eL; have HSA := Aside0.mk ho; clear ho hb hcp0 hcp1 BP1 HB1))
      go_ret2
      exact ⟨_, rfl, Kd.R_nil _ _ _ _ _, HBA.out⟩
    · rw [if_neg c1_] at h
      have c1b : ((L.length : Int) == 0) = false := beq_eq_false_iff_ne.2 (by omega)
      have HL0 := Aside0.mk (Nat.pos_of_ne_zero c1_)
      by_cases c2_ : (rd_Rules L 0).length < 8796093022207 ∧ ((rd_Rules L 0).all fun x => L.all fun a => (spec_pzHas.f k a x.f0 x.f1).isSome) = true
      · rw [if_pos c2_] at h
        obtain ⟨row, hrow⟩ : ∃ l_, l_ = rd_Rules L 0 := ⟨_, rfl⟩
        rw [← hrow] at h c2_
        have HLB := Aside0.mk c2_.1
        have HSO := Aside0.mk c2_.2
        have HROW := Aside0.mk hrow
        have HFIN := Aside0.mk h
        clear h c2_ c1_ hrow
        go_enter Tryz.func12, Tryz.ntmps12
        go_wp2_with (first | ((with_reducible refine gate_dst (N := 1) rfl ?_); (try (refine gate_guard (by rfl) ?_; dsimp only)); refine box_event ?hg (N := 1) ?hd (cs := #[.string a0_0, .int .i64 a0_1]) (t := 23) ?hr ?_; (case hd => rfl); (case hg => rfl); (case hr => exact k94_); intro gP hg w1 hbox hb; have BP1 := Aside0.mk hbox; have HB1 := Aside0.mk hb; have hcp0 : w1.cell? ⟨gP, 0, none⟩ = some (.string a0_0) := (blk_cell hbox 0).trans rfl; have hcp1 : w1.cell? ⟨gP, 1, none⟩ = some (.int .i64 a0_1) := (blk_cell hbox 1).trans rfl; clear hbox hb hg) | ((with_reducible refine gate_callee (f := 36) rfl ?_); refine goesL_ (some 14) rfl rfl Tryz.func36 (by kernel_rfl) rfl #[.agg #[.string a0_0, .int .i64 a0_1]] rfl k73_ ?_; (with_reducible refine (spec_pzAnswers.calls k a0_0 a0_1 L true _ A1.out).mono ?_); rintro e wA ⟨v8, rfl, ho, hb⟩; refine ⟨_, rfl, ?_⟩; have HBA := Aside0.mk (below_step HB1.out hb); obtain ⟨AL, cL, eL⟩ := Kd.S_slice ho; subst eL; have HSA := Aside0.mk ho; clear ho hb hcp0 hcp1 BP1 HB1; have HLL := Aside0.mk (show L.length ≤ 9223372036854775807 from Kd.C_max (Kd.S_reads' HSA.out).2.2); obtain ⟨ad, AR, cR, eR, hxR, hlR, hiR⟩ := at_Rules (Kd.S_reads' HSA.out).2.2 0 (by omega) (by have := HL0.out; omega); cases eR; (try rw [show ((0 : Int)).toNat = 0 from rfl] at hxR); (try rw [Addr.add_zero'] at hxR); rw [← HROW.out] at hxR hlR hiR; have HIR := Aside0.mk hiR; have qL_ : (0 < L.length) = True := eq_true HL0.out; have qLz_ : ((0 : Int) < (L.length : Int)) = True := eq_true (by have := HL0.out; omega); clear hiR hlR))
        go_loopg [6, 28] row.length (fun gg v6 v28 wx => ∃ i : Nat, v28 = .int .i64 i ∧ i ≤ row.length ∧ row.length - i ≤ gg ∧ Aside0 (Kd.R kRule 33 wx wA.heap.size (fun _ => True) v6 ((row.take i).filter (fun x => L.all (sureHas k x)))) ∧ Aside0 (Below wA.heap.size wA wx))
        case atStart => exact ⟨0, rfl, Nat.zero_le _, Nat.le_refl _, ⟨Kd.R_nil _ _ _ _ _⟩, ⟨Below.refl _ _⟩⟩
        case round =>
          clear hxR
          obtain ⟨i, rfl, hi, hgg, HO, HW⟩ := hrel
          have hjb : row.length < 8796093022207 := HLB.out
          by_cases hlt : i < row.length
          · have c1z : (i : Int) < (row.length : Int) := by omega
            have c1y : decide ((i : Int) < (row.length : Int)) = true := decide_eq_true c1z
            have c1c : decide (i < row.length) = true := decide_eq_true hlt
            obtain ⟨ad2, e_, hx0, hx1⟩ := at_Rule (Kd.C_below HIR.out HW.out) (i : Int) (by omega) (by omega)
            cases e_
            simp only [Int.toNat_natCast] at hx0 hx1
            have HT := Aside0.mk (sure_take row (fun x => L.all (sureHas k x)) i hlt)
            have HXM := Aside0.mk (show ∀ a ∈ L, (spec_pzHas.f k a (rd_Rule row (i : Int)).f0 (rd_Rule row (i : Int)).f1).isSome = true from fun a ha => List.all_eq_true.1 (List.all_eq_true.1 HSO.out (rd_Rule row (i : Int)) (by rw [show rd_Rule row (i : Int) = row[i] by simp [rd_Rule, List.getD, hlt]]; exact List.getElem_mem hlt)) a ha)
            obtain ⟨x, hx_⟩ : ∃ x_, x_ = rd_Rule row (i : Int) := ⟨_, rfl⟩
            rw [← hx_] at hx0 hx1 HT HXM
            clear hx_
            obtain ⟨Y, hY⟩ : ∃ l_, l_ = (row.take i).filter (fun x => L.all (sureHas k x)) := ⟨_, rfl⟩
            have HYL := Aside0.mk (show Y.length ≤ row.length by rw [hY]; exact Nat.le_trans (List.length_filter_le _ _) (by rw [List.length_take]; omega))
            have HO1 := Aside0.mk (show Kd.R kRule 33 wr wA.heap.size (fun _ => True) u6 Y by rw [hY]; exact HO.out)
            have HY := Aside0.mk hY
            clear hY HO
            go_wp2_with (first | ((with_reducible refine gate_dst (N := 8) rfl ?_); (try (refine gate_guard (by rfl) ?_; dsimp only)); refine box_event ?hg (N := 8) ?hd (cs := #[.int .i64 0, .int .i64 0]) (t := 33) ?hr ?_; (case hd => rfl); (case hg => rfl); (case hr => exact k94_); intro g8 hg w20 hbox hb; have BK := Aside0.mk hbox; have HB0 := Aside0.mk hb; have G8 := Aside0.mk hg; have hcz0 : w20.cell? ⟨g8, 0, none⟩ = some (.int .i64 0) := (blk_cell hbox 0).trans rfl; have hcz1 : w20.cell? ⟨g8, 1, none⟩ = some (.int .i64 0) := (blk_cell hbox 1).trans rfl; have hfz0 := blk_frozen hbox 0; have hfz1 := blk_frozen hbox 1; clear hbox hb hg))
            have BK8 := Aside0.mk (show ((w20.setCell ⟨g8, 0, none⟩ (.int .i64 x.f0)).setCell ⟨g8, 1, none⟩ (.int .i64 x.f1)).heap[g8]? = _ from blk_put (cs' := #[.int .i64 x.f0, .int .i64 x.f1]) (blk_put (cs' := #[.int .i64 x.f0, .int .i64 0]) BK.out 0 _ rfl) 1 _ rfl)
            have HBr8 := Aside0.mk (show Below wr.heap.size wr ((w20.setCell ⟨g8, 0, none⟩ (.int .i64 x.f0)).setCell ⟨g8, 1, none⟩ (.int .i64 x.f1)) from below_set (below_set HB0.out (Nat.le_of_eq G8.out.symm)) (Nat.le_of_eq G8.out.symm))
            clear hcz0 hcz1 hfz0 hfz1 BK HB0
            generalize ((w20.setCell ⟨g8, 0, none⟩ (.int .i64 x.f0)).setCell ⟨g8, 1, none⟩ (.int .i64 x.f1)) = w8 at BK8 HBr8 ⊢
            have hcA : w8.cell? ⟨g8, 0, none⟩ = some (.int .i64 x.f0) := (blk_cell BK8.out 0).trans rfl
            have hcB : w8.cell? ⟨g8, 1, none⟩ = some (.int .i64 x.f1) := (blk_cell BK8.out 1).trans rfl
            have HO8 := Aside0.mk (Kd.R_below (Kd.R_elderB HO1.out g8 (Nat.le_of_eq G8.out.symm)) HBr8.out)
            have HB8 := Aside0.mk (below_step HW.out HBr8.out)
            clear HO1
            go_loopg [9, 34] L.length (fun gb v9 v34 wx => ∃ j : Nat, v34 = .int .i64 j ∧ v9 = .bool ((L.take j).all (sureHas k x)) ∧ j ≤ L.length ∧ L.length - j ≤ gb ∧ Aside0 (Below w8.heap.size w8 wx))
            case atStart => exact ⟨0, rfl, rfl, Nat.zero_le _, Nat.le_refl _, ⟨Below.refl _ _⟩⟩
            case round =>
              clear hcA hcB
              obtain ⟨j, rfl, rfl, hj, hgb, HW2⟩ := hrel
              have BKr := Aside0.mk (blk_below BK8.out HW2.out)
              have hcA : wr.cell? ⟨g8, 0, none⟩ = some (.int .i64 x.f0) := (blk_cell BKr.out 0).trans rfl
              have hcB : wr.cell? ⟨g8, 1, none⟩ = some (.int .i64 x.f1) := (blk_cell BKr.out 1).trans rfl
              have hLb : L.length ≤ 9223372036854775807 := HLL.out
              by_cases hlt2 : j < L.length
              · have c2z : (j : Int) < (L.length : Int) := by omega
                have c2y : decide ((j : Int) < (L.length : Int)) = true := decide_eq_true c2z
                have c2c : decide (j < L.length) = true := decide_eq_true hlt2
                obtain ⟨ad3, A3, c3, e3_, hx3, hl3, hi3⟩ := at_Rules (Kd.S_reads' (Kd.S_below HSA.out (below_step HB8.out HW2.out))).2.2 (j : Int) (by omega) (by omega)
                cases e3_
                simp only [Int.toNat_natCast] at hx3
                have HC3 := Aside0.mk hi3
                have HL3 := Aside0.mk hl3
                obtain ⟨b, hb_⟩ : ∃ b, spec_pzHas.f k (rd_Rules L (j : Int)) x.f0 x.f1 = some b := Option.isSome_iff_exists.1 (HXM.out _ (by rw [show rd_Rules L (j : Int) = L[j] by simp [rd_Rules, List.getD, hlt2]]; exact List.getElem_mem hlt2))
                have HA3 := Aside0.mk hb_
                have HS3 := Aside0.mk (sure_all L (sureHas k x) j hlt2)
                have HP3 := Aside0.mk (show sureHas k x (rd_Rules L (j : Int)) = b by unfold sureHas; rw [hb_]; cases b <;> rfl)
                clear hi3 hl3 hb_
                obtain ⟨row3, hrow3⟩ : ∃ l_, l_ = rd_Rules L (j : Int) := ⟨_, rfl⟩
                rw [← hrow3] at HC3 HL3 HA3 HS3 HP3 hx3
                clear hrow3
                cases hsure : (L.take j).all (sureHas k x) with
                | true =>
                  have HSU := Aside0.mk hsure
                  clear hsure
                  go_wp2_with (first | ((with_reducible refine gate_callee (f := 42) rfl ?_); (try (refine gate_guard (by rfl) ?_; dsimp only)); refine goesL_ (some 42) rfl rfl Tryz.func42 (by kernel_rfl) rfl #[.slice A3 row3.length c3, .agg #[.int .i64 x.f0, .int .i64 x.f1]] rfl k73_ ?_; (with_reducible refine (spec_pzHas.calls k _ _ row3 x.f0 x.f1 b _ ?side1 ?side2 HA3.out).mono ?_); (case side1 => exact HC3.out); (case side2 => exact HL3.out); rintro e wH ⟨rfl, hbH⟩; refine ⟨_, rfl, ?_⟩; have HBH := Aside0.mk hbH; clear hbH))
                  go_roundg (L.length - (j + 1))
                  case measure => omega
                  case rel => exact ⟨j + 1, by go_num, by rw [HS3.out, HSU.out, HP3.out]; rfl, by omega, Nat.le_refl _, ⟨below_step HW2.out HBH.out⟩⟩
                | false =>
                  have HSU := Aside0.mk hsure
                  clear hsure
                  go_wp2
                  go_roundg (L.length - (j + 1))
                  case measure => omega
                  case rel => exact ⟨j + 1, by go_num, by rw [HS3.out, HSU.out]; rfl, by omega, Nat.le_refl _, HW2⟩
              · obtain rfl : j = L.length := by omega
                have c2y : decide ((L.length : Int) < (L.length : Int)) = false := decide_eq_false (by omega)
                have c2c : decide (L.length < L.length) = false := decide_eq_false (by omega)
                rw [List.take_length]
                have HO9 := Aside0.mk (Kd.R_below HO8.out HW2.out)
                have HB9 := Aside0.mk (below_step HB8.out HW2.out)
                cases hsure : L.all (sureHas k x) with
                | true =>
                  have HSU := Aside0.mk hsure
                  clear hsure
                  go_wp2_with (first | ((with_reducible refine gate_builtin (b := .append) (xs := #[.tmp 46, .tmp 48]) rfl ?_); at_builtin; refine Kd.R_append kRule (w0 := wA) wA.heap.size rfl (.tmp 46) (.tmp 48) 24 33 (.agg #[(.int .i64 0), (.int .i64 0)]) 16 rfl Tryz.underlying24 infoE_Rule rfl (by decide) (by omega) u6 Y x [.int .i64 x.f0, .int .i64 x.f1] (fun k_ => k_ ≠ g8) (fun _ => False) rfl rfl ?aP (fun _ hk => hk.elim) ?aF ?aO ?aB ?aS ?aL ?_; (case aP => exact kRule_mkM _ _ _ x); (case aB => exact (by repeat (first | (with_reducible first | exact HB9.out | apply below_alloc | apply pw_below_drewN | apply below_drew1) | exact HB9.out))); (case aF => exact (fun k_ hk => Kd.freshB (g := g8) (by (with_reducible repeat (first | refine blk_drewN ?_ _ | refine blk_drew ?_ | refine blk_alloc ?_ _)); exact BKr.out) k_ hk)); (case aO => exact (by (with_reducible repeat (first | apply Kd.R_alloc | apply Kd.R_drewN | apply Kd.R_drew)); exact Kd.R_mono HO9.out (fun _ hk => hk.2))); (case aS => exact (below_size (by repeat (first | (with_reducible first | exact HB9.out | apply below_alloc | apply pw_below_drewN | apply below_drew1) | exact HB9.out)))); (case aL => have h_ := HLB.out; have h2_ := HYL.out; omega); intro v45 w11 ho hb hg hat; have HOB := Aside0.mk ho; have HBN := Aside0.mk hb; clear ho hb hg hat))
                  go_roundg (row.length - (i + 1))
                  case measure => omega
                  case rel => exact ⟨i + 1, by go_num, by omega, Nat.le_refl _, ⟨by rw [HT.out, if_pos HSU.out, ← HY.out]; exact Kd.R_mono HOB.out (fun _ _ => trivial)⟩, HBN⟩
                | false =>
                  have HSU := Aside0.mk hsure
                  clear hsure
                  go_wp2
                  go_roundg (row.length - (i + 1))
                  case measure => omega
                  case rel => exact ⟨i + 1, by go_num, by omega, Nat.le_refl _, ⟨by rw [HT.out, if_neg (by rw [HSU.out]; decide), List.append_nil, ← HY.out]; exact Kd.R_mono HO9.out (fun _ _ => trivial)⟩, HB9⟩
          · obtain rfl : i = row.length := by omega
            have c1y : decide ((row.length : Int) < (row.length : Int)) = false := decide_eq_false (by omega)
            have c1c : decide (row.length < row.length) = false := decide_eq_false (by omega)
            have h_ := HFIN.out
            simp only [Option.some.injEq, Prod.mk.injEq] at h_
            obtain ⟨rfl, rfl⟩ := h_
            have HR := Aside0.mk (show Kd.R kRule 33 wr wA.heap.size (fun _ => True) u6 (row.filter (fun x => L.all (sureHas k x))) by have h2_ := HO.out; rw [List.take_length] at h2_; exact h2_)
            go_wp2
            go_ret2
            exact ⟨_, rfl, Kd.R_lower HR.out HBA.out.size, below_step HBA.out HW.out⟩
      · rw [if_neg c2_] at h
        exact absurd h (by simp)
end Go.Proofs.YtbnmajedmajfoaaGreatDoor.P
namespace Go.Proofs.YtbnmajedmajfoaaGreatDoor.P
open Go.RowKit Go.Proofs.YtbnmajedmajfoaaGreatDoorW.PrintWords Go.Proofs.YtbnmajedmajfoaaGreatDoorW.PrintLast Go.Proofs.YtbnmajedmajfoaaGreatDoorW.PrintMore
attribute [local go_sem] max2_int min2_int max_two min_two max_three min_three max_four min_four
set_option linter.unusedVariables false
set_option linter.unusedSimpArgs false
def impl_RulesThatFit.f (k : Nat) (a0_0 : ByteArray) (a0_1 : Int) : Option ((List (SRule)) × Bool) := (impl_isPuzzle.f a0_0 a0_1).bind fun t102 => (if t102 = true then ((impl_fitting.f k a0_0).bind fun t103 => (some (t103, true))) else (some (([] : List (SRule)), false)))
set_option maxHeartbeats 8000000 in
set_option maxRecDepth 100000 in
theorem impl_RulesThatFit.calls (k : Nat) (a0_0 : ByteArray) (a0_1 : Int) (r1 : List (SRule)) (r2 : Bool) (w : World) (h : impl_RulesThatFit.f k a0_0 a0_1 = some (r1, r2)) :
  Calls Tryz.prog 13 #[.agg #[.string a0_0, .int .i64 a0_1]] w fun e w' => ∃ v0_ : Value, e = .returned (.tuple #[v0_, .bool r2]) ∧ Kd.R kRule 33 w' w.heap.size (fun _ => True) v0_ r1 ∧ Below w.heap.size w w' := by
 have hu23 := Tryz.underlying23
 have HB := Aside0.mk (Below.refl w.heap.size w)
 have H : ((impl_isPuzzle.f a0_0 a0_1).bind fun t102 => (if t102 = true then ((impl_fitting.f k a0_0).bind fun t103 => (some (t103, true))) else (some (([] : List (SRule)), false)))) = some (r1, r2) := h
 clear h
 obtain ⟨t102, A2, H⟩ := obnd_ H
 (try dsimp only at H)
 by_cases c3 : t102 = true
 ·subst c3
  rw [if_pos rfl] at H
  obtain ⟨t103, A4, H⟩ := obnd_ H
  (try dsimp only at H)
  simp only [Option.some.injEq, Prod.mk.injEq] at H
  obtain ⟨rfl, rfl⟩ := H
  go_enter Tryz.func13, Tryz.ntmps13
  go_wp2_with (first | ((with_reducible refine gate_dst (N := 1) rfl ?_); refine box_event ?hg (N := 1) ?hd (cs := #[.string a0_0, .int .i64 a0_1]) (t := 23) ?hr ?_; (case hd => rfl); (case hg => rfl); (case hr => exact k94_); intro gb101 hg w5 hbox hb; have BK101 := Aside0.mk (hbox); have GW101 := Aside0.mk (HB.ge hg); have GE101 := Aside0.mk (HB.ge hg); replace HB := HB.mw hb; clear hb hbox hg; have hcz6_0 : w5.cell? ⟨gb101, 0, none⟩ = some (.string a0_0) := (blk_cell BK101.out 0).trans rfl; have hcz6_1 : w5.cell? ⟨gb101, 1, none⟩ = some (.int .i64 a0_1) := (blk_cell BK101.out 1).trans rfl; have hfz6_0 := blk_frozen BK101.out 0; have hfz6_1 := blk_frozen BK101.out 1) | ((with_reducible refine gate_callee (f := 43) rfl ?_); refine goesL_ (some 5) rfl rfl Tryz.func43 (by kernel_rfl) rfl #[.agg #[.string a0_0, .int .i64 a0_1]] rfl k59_ ?_; (with_reducible refine (impl_isPuzzle.calls a0_0 a0_1 true _ A2.out).mono ?_); rintro e w7 ⟨rfl, hb⟩; refine ⟨_, rfl, ?_⟩; replace BK101 := BK101.mw hb; replace HB := Aside0.mk (below_step k71_ hb); (try clear hb); have hcz8_0 : w7.cell? ⟨gb101, 0, none⟩ = some (.string a0_0) := (blk_cell BK101.out 0).trans rfl; have hcz8_1 : w7.cell? ⟨gb101, 1, none⟩ = some (.int .i64 a0_1) := (blk_cell BK101.out 1).trans rfl; have hfz8_0 := blk_frozen BK101.out 0; have hfz8_1 := blk_frozen BK101.out 1) | ((with_reducible refine gate_callee (f := 44) rfl ?_); refine goesL_ (some 9) rfl rfl Tryz.func44 (by kernel_rfl) rfl #[.string a0_0] rfl k59_ ?_; (with_reducible refine (impl_fitting.calls k a0_0 t103 _ A4.out).mono ?_); rintro e w9 ⟨v104, rfl, ho0, hb⟩; refine ⟨_, rfl, ?_⟩; have HO105 := Aside0.mk (Kd.R_lower ho0 (below_size k71_)); replace BK101 := BK101.mw hb; replace HB := Aside0.mk (below_step k71_ hb); (try clear hb ho0)))
  go_ret2
  exact ⟨_, k70_, by (with_reducible repeat (first | apply Kd.R_alloc | apply Kd.R_drewN | apply Kd.R_drew)); exact HO105.out, k71_⟩
 ·replace c3 := Bool.eq_false_iff.mpr c3
  subst c3
  rw [if_neg (show ¬ (false = true) by decide)] at H
  simp only [Option.some.injEq, Prod.mk.injEq] at H
  obtain ⟨rfl, rfl⟩ := H
  go_enter Tryz.func13, Tryz.ntmps13
  go_wp2_with (first | ((with_reducible refine gate_dst (N := 1) rfl ?_); refine box_event ?hg (N := 1) ?hd (cs := #[.string a0_0, .int .i64 a0_1]) (t := 23) ?hr ?_; (case hd => rfl); (case hg => rfl); (case hr => exact k94_); intro gb101 hg w10 hbox hb; have BK101 := Aside0.mk (hbox); have GW101 := Aside0.mk (HB.ge hg); have GE101 := Aside0.mk (HB.ge hg); replace HB := HB.mw hb; clear hb hbox hg; have hcz11_0 : w10.cell? ⟨gb101, 0, none⟩ = some (.string a0_0) := (blk_cell BK101.out 0).trans rfl; have hcz11_1 : w10.cell? ⟨gb101, 1, none⟩ = some (.int .i64 a0_1) := (blk_cell BK101.out 1).trans rfl; have hfz11_0 := blk_frozen BK101.out 0; have hfz11_1 := blk_frozen BK101.out 1) | ((with_reducible refine gate_callee (f := 43) rfl ?_); refine goesL_ (some 5) rfl rfl Tryz.func43 (by kernel_rfl) rfl #[.agg #[.string a0_0, .int .i64 a0_1]] rfl k59_ ?_; (with_reducible refine (impl_isPuzzle.calls a0_0 a0_1 false _ A2.out).mono ?_); rintro e w12 ⟨rfl, hb⟩; refine ⟨_, rfl, ?_⟩; replace BK101 := BK101.mw hb; replace HB := Aside0.mk (below_step k71_ hb); (try clear hb)))
  go_ret2
  exact ⟨_, k70_, k57_, k71_⟩
end Go.Proofs.YtbnmajedmajfoaaGreatDoor.P
namespace Go.Proofs.YtbnmajedmajfoaaGreatDoor.P
open Go.RowKit Go.Proofs.YtbnmajedmajfoaaGreatDoorW.PrintWords Go.Proofs.YtbnmajedmajfoaaGreatDoorW.PrintLast Go.Proofs.YtbnmajedmajfoaaGreatDoorW.PrintMore
attribute [local go_sem] max2_int min2_int max_two min_two max_three min_three max_four min_four
set_option linter.unusedVariables false
set_option linter.unusedSimpArgs false
def spec_RulesThatFit.f (k : Nat) (a0_0 : ByteArray) (a0_1 : Int) : Option ((List (SRule)) × Bool) := (spec_pzGood.f k a0_0 a0_1).bind fun t102 => (if t102 = true then ((spec_pzFit.f k a0_0).bind fun t103 => (some (t103, true))) else (some (([] : List (SRule)), false)))
set_option maxHeartbeats 8000000 in
set_option maxRecDepth 100000 in
theorem spec_RulesThatFit.calls (k : Nat) (a0_0 : ByteArray) (a0_1 : Int) (r1 : List (SRule)) (r2 : Bool) (w : World) (h : spec_RulesThatFit.f k a0_0 a0_1 = some (r1, r2)) :
  Calls Tryz.prog 14 #[.agg #[.string a0_0, .int .i64 a0_1]] w fun e w' => ∃ v0_ : Value, e = .returned (.tuple #[v0_, .bool r2]) ∧ Kd.R kRule 33 w' w.heap.size (fun _ => True) v0_ r1 ∧ Below w.heap.size w w' := by
 have hu23 := Tryz.underlying23
 have HB := Aside0.mk (Below.refl w.heap.size w)
 have H : ((spec_pzGood.f k a0_0 a0_1).bind fun t102 => (if t102 = true then ((spec_pzFit.f k a0_0).bind fun t103 => (some (t103, true))) else (some (([] : List (SRule)), false)))) = some (r1, r2) := h
 clear h
 obtain ⟨t102, A2, H⟩ := obnd_ H
 (try dsimp only at H)
 by_cases c3 : t102 = true
 ·subst c3
  rw [if_pos rfl] at H
  obtain ⟨t103, A4, H⟩ := obnd_ H
  (try dsimp only at H)
  simp only [Option.some.injEq, Prod.mk.injEq] at H
  obtain ⟨rfl, rfl⟩ := H
  go_enter Tryz.func14, Tryz.ntmps14
  go_wp2_with (first | ((with_reducible refine gate_dst (N := 1) rfl ?_); refine box_event ?hg (N := 1) ?hd (cs := #[.string a0_0, .int .i64 a0_1]) (t := 23) ?hr ?_; (case hd => rfl); (case hg => rfl); (case hr => exact k94_); intro gb101 hg w5 hbox hb; have BK101 := Aside0.mk (hbox); have GW101 := Aside0.mk (HB.ge hg); have GE101 := Aside0.mk (HB.ge hg); replace HB := HB.mw hb; clear hb hbox hg; have hcz6_0 : w5.cell? ⟨gb101, 0, none⟩ = some (.string a0_0) := (blk_cell BK101.out 0).trans rfl; have hcz6_1 : w5.cell? ⟨gb101, 1, none⟩ = some (.int .i64 a0_1) := (blk_cell BK101.out 1).trans rfl; have hfz6_0 := blk_frozen BK101.out 0; have hfz6_1 := blk_frozen BK101.out 1) | ((with_reducible refine gate_callee (f := 45) rfl ?_); refine goesL_ (some 5) rfl rfl Tryz.func45 (by kernel_rfl) rfl #[.agg #[.string a0_0, .int .i64 a0_1]] rfl k59_ ?_; (with_reducible refine (spec_pzGood.calls k a0_0 a0_1 true _ A2.out).mono ?_); rintro e w7 ⟨rfl, hb⟩; refine ⟨_, rfl, ?_⟩; replace BK101 := BK101.mw hb; replace HB := Aside0.mk (below_step k71_ hb); (try clear hb); have hcz8_0 : w7.cell? ⟨gb101, 0, none⟩ = some (.string a0_0) := (blk_cell BK101.out 0).trans rfl; have hcz8_1 : w7.cell? ⟨gb101, 1, none⟩ = some (.int .i64 a0_1) := (blk_cell BK101.out 1).trans rfl; have hfz8_0 := blk_frozen BK101.out 0; have hfz8_1 := blk_frozen BK101.out 1) | ((with_reducible refine gate_callee (f := 46) rfl ?_); refine goesL_ (some 9) rfl rfl Tryz.func46 (by kernel_rfl) rfl #[.string a0_0] rfl k59_ ?_; (with_reducible refine (spec_pzFit.calls k a0_0 t103 _ A4.out).mono ?_); rintro e w9 ⟨v104, rfl, ho0, hb⟩; refine ⟨_, rfl, ?_⟩; have HO105 := Aside0.mk (Kd.R_lower ho0 (below_size k71_)); replace BK101 := BK101.mw hb; replace HB := Aside0.mk (below_step k71_ hb); (try clear hb ho0)))
  go_ret2
  exact ⟨_, k70_, by (with_reducible repeat (first | apply Kd.R_alloc | apply Kd.R_drewN | apply Kd.R_drew)); exact HO105.out, k71_⟩
 ·replace c3 := Bool.eq_false_iff.mpr c3
  subst c3
  rw [if_neg (show ¬ (false = true) by decide)] at H
  simp only [Option.some.injEq, Prod.mk.injEq] at H
  obtain ⟨rfl, rfl⟩ := H
  go_enter Tryz.func14, Tryz.ntmps14
  go_wp2_with (first | ((with_reducible refine gate_dst (N := 1) rfl ?_); refine box_event ?hg (N := 1) ?hd (cs := #[.string a0_0, .int .i64 a0_1]) (t := 23) ?hr ?_; (case hd => rfl); (case hg => rfl); (case hr => exact k94_); intro gb101 hg w10 hbox hb; have BK101 := Aside0.mk (hbox); have GW101 := Aside0.mk (HB.ge hg); have GE101 := Aside0.mk (HB.ge hg); replace HB := HB.mw hb; clear hb hbox hg; have hcz11_0 : w10.cell? ⟨gb101, 0, none⟩ = some (.string a0_0) := (blk_cell BK101.out 0).trans rfl; have hcz11_1 : w10.cell? ⟨gb101, 1, none⟩ = some (.int .i64 a0_1) := (blk_cell BK101.out 1).trans rfl; have hfz11_0 := blk_frozen BK101.out 0; have hfz11_1 := blk_frozen BK101.out 1) | ((with_reducible refine gate_callee (f := 45) rfl ?_); refine goesL_ (some 5) rfl rfl Tryz.func45 (by kernel_rfl) rfl #[.agg #[.string a0_0, .int .i64 a0_1]] rfl k59_ ?_; (with_reducible refine (spec_pzGood.calls k a0_0 a0_1 false _ A2.out).mono ?_); rintro e w12 ⟨rfl, hb⟩; refine ⟨_, rfl, ?_⟩; replace BK101 := BK101.mw hb; replace HB := Aside0.mk (below_step k71_ hb); (try clear hb)))
  go_ret2
  exact ⟨_, k70_, k57_, k71_⟩
end Go.Proofs.YtbnmajedmajfoaaGreatDoor.P
namespace Go.Proofs.YtbnmajedmajfoaaGreatDoor.P
open Go.RowKit Go.Proofs.YtbnmajedmajfoaaGreatDoorW.PrintWords Go.Proofs.YtbnmajedmajfoaaGreatDoorW.PrintLast Go.Proofs.YtbnmajedmajfoaaGreatDoorW.PrintMore
attribute [local go_sem] max2_int min2_int max_two min_two max_three min_three max_four min_four
set_option linter.unusedVariables false
set_option linter.unusedSimpArgs false
def hintDel (i : Nat) (x : SRule) : Bool := Int.tmod (wrap64 ((i : Int) + 1)) x.f0 != x.f1
def impl_HintOf.l0 : Nat → ByteArray → List SRule → Nat → Option (Int × Int × Int × Bool)
  | 0, _, _, _ => none
  | k + 1, s, rules, i => if i < s.size then (if i < 1000000 then (if bt s i = 120 then (if rules.length < 8796093022207 ∧ rules.all (fun x => x.f0 != 0) = true then (if (rules.filter (fun x => !hintDel i x)).length = 1 then some (wrap64 ((i : Int) + 1), (rd_Rule (rules.filter (fun x => !hintDel i x)) 0).f0, (rd_Rule (rules.filter (fun x => !hintDel i x)) 0).f1, true) else impl_HintOf.l0 k s rules (i + 1)) else none) else impl_HintOf.l0 k s rules (i + 1)) else none) else some (0, 0, 0, false)
def impl_HintOf.f (k : Nat) (a0_0 : ByteArray) (a0_1 : Int) : Option (Int × Int × Int × Bool) := (impl_isPuzzle.f a0_0 a0_1).bind fun t => if t = true then ((impl_fitting.f k a0_0).bind fun rules => impl_HintOf.l0 k a0_0 rules 0) else some (0, 0, 0, false)
set_option maxHeartbeats 8000000 in
set_option maxRecDepth 100000 in
theorem hint1_calls (i : Nat) (B : Nat) (x : SRule) (W : World) (hx : x.f0 ≠ 0) (hn : W.cell? ⟨B, 0, none⟩ = some (.int .i64 (i : Int))) :
    Calls Tryz.prog 47 #[.agg #[.int .i64 x.f0, .int .i64 x.f1], .pointer (some ⟨B, 0, none⟩)] W fun e w' => e = .returned (.bool (hintDel i x)) ∧ Below W.heap.size W w' := by
  have hu := Tryz.underlying33
  have h1 : (x.f0 == 0) = false := beq_eq_false_iff_ne.2 hx
  have h2 : (x.f0 != 0) = true := bne_iff_ne.2 hx
  have hB : B < W.heap.size := World.block_lt_of_cell? W _ hn
  unfold hintDel
  go_enter Tryz.func47, Tryz.ntmps47
  go_wp2
  go_quiet (fail)
  go_wp2
  go_ret
  exact ⟨rfl, pw_below_drewN (below_alloc (Below.refl _ _) _) _⟩
set_option maxHeartbeats 8000000 in
set_option maxRecDepth 100000 in
theorem impl_HintOf.calls (k : Nat) (a0_0 : ByteArray) (a0_1 : Int) (r1 r2 r3 : Int) (r4 : Bool) (w : World) (h : impl_HintOf.f k a0_0 a0_1 = some (r1, r2, r3, r4)) :
    Calls Tryz.prog 15 #[.agg #[.string a0_0, .int .i64 a0_1]] w fun e w' => e = .returned (.tuple #[.int .i64 r1, .agg #[.int .i64 r2, .int .i64 r3], .bool r4]) ∧ Below w.heap.size w w' := by
  have hu := Tryz.underlying23
  have hu2 := Tryz.underlying33
  unfold impl_HintOf.f at h
  replace h := Option.bind_eq_some_iff.mp h
  obtain ⟨t, A0_, h⟩ := h
  have A1 := Aside0.mk A0_
  clear A0_
  cases t with
  | false =>
    rw [if_neg (by decide)] at h
    simp only [Option.some.injEq, Prod.mk.injEq] at h
    obtain ⟨rfl, rfl, rfl, rfl⟩ := h
    go_enter Tryz.func15, Tryz.ntmps15
    go_wp2_with (first | ((with_reducible refine gate_dst (N := 1) rfl ?_); (try (refine gate_guard (by rfl) ?_; dsimp only)); refine box_event ?hg (N := 1) ?hd (cs := #[.string a0_0, .int .i64 a0_1]) (t := 23) ?hr ?_; (case hd => rfl); (case hg => rfl); (case hr => exact k94_); intro gP hg w1 hbox hb; have BP1 := Aside0.mk hbox; have HB1 := Aside0.mk hb; have GP := Aside0.mk (show w.heap.size ≤ gP by rw [hg]; exact Nat.le_refl _); have hcp0 : w1.cell? ⟨gP, 0, none⟩ = some (.string a0_0) := (blk_cell hbox 0).trans rfl; have hcp1 : w1.cell? ⟨gP, 1, none⟩ = some (.int .i64 a0_1) := (blk_cell hbox 1).trans rfl; clear hbox hb hg) | ((with_reducible refine gate_dst (N := 3) rfl ?_); (try (refine gate_guard (by rfl) ?_; dsimp only)); refine box_event ?hg (N := 3) ?hd (cs := #[.int .i64 0, .int .i64 0]) (t := 33) ?hr ?_; (case hd => rfl); (case hg => rfl); (case hr => exact k94_); intro gQ hg w2 hbox hb; have BQ2 := Aside0.mk hbox; have BP2 := Aside0.mk (blk_below BP1.out hb); have HB2 := Aside0.mk (below_step HB1.out hb); have GQ := Aside0.mk (show gP < gQ by rw [hg]; exact blk_lt BP1.out); have hcq0 : w2.cell? ⟨gP, 0, none⟩ = some (.string a0_0) := (blk_cell BP2.out 0).trans rfl; have hcq1 : w2.cell? ⟨gP, 1, none⟩ = some (.int .i64 a0_1) := (blk_cell BP2.out 1).trans rfl; clear hcp0 hcp1 BP1 HB1; clear hbox hb hg) | ((with_reducible refine gate_callee (f := 43) rfl ?_); refine goesL_ (some 9) rfl rfl Tryz.func43 (by kernel_rfl) rfl #[.agg #[.string a0_0, .int .i64 a0_1]] rfl k73_ ?_; (with_reducible refine (impl_isPuzzle.calls a0_0 a0_1 false _ A1.out).mono ?_); rintro e w3 ⟨rfl, hb⟩; refine ⟨_, rfl, ?_⟩; have BP3 := Aside0.mk (blk_below BP2.out hb); have BQ3 := Aside0.mk (blk_below BQ2.out hb); have HB3 := Aside0.mk (below_step HB2.out hb); have hcr0 : w3.cell? ⟨gP, 0, none⟩ = some (.string a0_0) := (blk_cell BP3.out 0).trans rfl; have hqz0 : w3.cell? ⟨gQ, 0, none⟩ = some (.int .i64 0) := (blk_cell BQ3.out 0).trans rfl; have hqz1 : w3.cell? ⟨gQ, 1, none⟩ = some (.int .i64 0) := (blk_cell BQ3.out 1).trans rfl; have hqf0 := blk_frozen BQ3.out 0; have hqf1 := blk_frozen BQ3.out 1; clear BP2 BQ2 HB2 hcq0 hcq1; clear hb))
    refine bodyPost_ret (results_list (rs := [.tmp 2, .cell 3 33, .tmp 4]) rfl (by simp) (.tmp (.cell gQ 33 #[.int .i64 0, .int .i64 0] (0, 0) _ rfl (by first | exact BQ3.out | exact blk_put (cs' := #[.int .i64 0, .int .i64 0]) (blk_put (cs' := #[.int .i64 0, .int .i64 0]) BQ3.out 0 _ rfl) 1 _ rfl) Tryz.underlying33 rfl (by kernel_rfl) (.tmp .nil)))) rfl ?_
    exact ⟨rfl, by first | exact HB3.out | exact below_set (below_set HB3.out k93_) k93_⟩
  | true =>
    rw [if_pos rfl] at h
    replace h := Option.bind_eq_some_iff.mp h
    obtain ⟨rules, A0_, h⟩ := h
    have A2 := Aside0.mk A0_
    have H' := Aside0.mk h
    clear A0_ h
    go_enter Tryz.func15, Tryz.ntmps15
    go_wp2_with (first | ((with_reducible refine gate_dst (N := 1) rfl ?_); (try (refine gate_guard (by rfl) ?_; dsimp only)); refine box_event ?hg (N := 1) ?hd (cs := #[.string a0_0, .int .i64 a0_1]) (t := 23) ?hr ?_; (case hd => rfl); (case hg => rfl); (case hr => exact k94_); intro gP hg w1 hbox hb; have BP1 := Aside0.mk hbox; have HB1 := Aside0.mk hb; have GP := Aside0.mk (show w.heap.size ≤ gP by rw [hg]; exact Nat.le_refl _); have hcp0 : w1.cell? ⟨gP, 0, none⟩ = some (.string a0_0) := (blk_cell hbox 0).trans rfl; have hcp1 : w1.cell? ⟨gP, 1, none⟩ = some (.int .i64 a0_1) := (blk_cell hbox 1).trans rfl; clear hbox hb hg) | ((with_reducible refine gate_dst (N := 3) rfl ?_); (try (refine gate_guard (by rfl) ?_; dsimp only)); refine box_event ?hg (N := 3) ?hd (cs := #[.int .i64 0, .int .i64 0]) (t := 33) ?hr ?_; (case hd => rfl); (case hg => rfl); (case hr => exact k94_); intro gQ hg w2 hbox hb; have BQ2 := Aside0.mk hbox; have BP2 := Aside0.mk (blk_below BP1.out hb); have HB2 := Aside0.mk (below_step HB1.out hb); have GQ := Aside0.mk (show gP < gQ by rw [hg]; exact blk_lt BP1.out); have hcq0 : w2.cell? ⟨gP, 0, none⟩ = some (.string a0_0) := (blk_cell BP2.out 0).trans rfl; have hcq1 : w2.cell? ⟨gP, 1, none⟩ = some (.int .i64 a0_1) := (blk_cell BP2.out 1).trans rfl; clear hcp0 hcp1 BP1 HB1; clear hbox hb hg) | ((with_reducible refine gate_callee (f := 43) rfl ?_); refine goesL_ (some 9) rfl rfl Tryz.func43 (by kernel_rfl) rfl #[.agg #[.string a0_0, .int .i64 a0_1]] rfl k73_ ?_; (with_reducible refine (impl_isPuzzle.calls a0_0 a0_1 true _ A1.out).mono ?_); rintro e w3 ⟨rfl, hb⟩; refine ⟨_, rfl, ?_⟩; have BP3 := Aside0.mk (blk_below BP2.out hb); have BQ3 := Aside0.mk (blk_below BQ2.out hb); have HB3 := Aside0.mk (below_step HB2.out hb); have hcr0 : w3.cell? ⟨gP, 0, none⟩ = some (.string a0_0) := (blk_cell BP3.out 0).trans rfl; have hqz0 : w3.cell? ⟨gQ, 0, none⟩ = some (.int .i64 0) := (blk_cell BQ3.out 0).trans rfl; have hqz1 : w3.cell? ⟨gQ, 1, none⟩ = some (.int .i64 0) := (blk_cell BQ3.out 1).trans rfl; have hqf0 := blk_frozen BQ3.out 0; have hqf1 := blk_frozen BQ3.out 1; clear BP2 BQ2 HB2 hcq0 hcq1; clear hb) | ((with_reducible refine gate_callee (f := 44) rfl ?_); refine goesL_ (some 14) rfl rfl Tryz.func44 (by kernel_rfl) rfl #[.string a0_0] rfl k73_ ?_; (with_reducible refine (impl_fitting.calls k a0_0 rules _ A2.out).mono ?_); rintro e w4 ⟨v14, rfl, ho, hb⟩; refine ⟨_, rfl, ?_⟩; have BP4 := Aside0.mk (blk_below BP3.out hb); have BQ4 := Aside0.mk (blk_below BQ3.out hb); have HB4 := Aside0.mk (below_step HB3.out hb); obtain ⟨A5, c5, e5⟩ := Kd.R_slice ho; subst e5; have HL4 := Aside0.mk (Kd.R_lower ho HB3.out.size); have hcs0 : w4.cell? ⟨gP, 0, none⟩ = some (.string a0_0) := (blk_cell BP4.out 0).trans rfl; clear BP3 BQ3 HB3 hcr0 hqz0 hqz1 hqf0 hqf1; clear ho hb))
    go_loopg [18] k (fun kq v18 wx => ∃ i : Nat, v18 = .int .i64 i ∧ Aside0 (impl_HintOf.l0 kq a0_0 rules i = some (r1, r2, r3, r4)) ∧ Aside0 (kq ≤ k) ∧ Aside0 (wx.heap[gP]? = some (.cells #[.string a0_0, .int .i64 a0_1] 23 (0, 0))) ∧ Aside0 (wx.heap[gQ]? = some (.cells #[.int .i64 0, .int .i64 0] 33 (0, 0))) ∧ Aside0 (Kd.R kRule 33 wx w.heap.size (fun _ => True) (.slice A5 rules.length c5) rules) ∧ Aside0 (Below w.heap.size w wx))
    case atStart => exact ⟨0, rfl, H', ⟨Nat.le_refl _⟩, BP4, BQ4, HL4, HB4⟩
    case round =>
      clear H' BP4 BQ4 HL4 HB4 hcs0
      obtain ⟨i, rfl, HA_, HK, BP, BQ, HL, HB⟩ := hrel
      have hcP0 : wr.cell? ⟨gP, 0, none⟩ = some (.string a0_0) := (blk_cell BP.out 0).trans rfl
      cases gk with
      | zero => exact absurd HA_.out (by simp [impl_HintOf.l0])
      | succ k1 =>
        have H := HA_.out
        clear HA_
        simp only [impl_HintOf.l0] at H
        by_cases c1_ : i < a0_0.size
        · rw [if_pos c1_] at H
          have c1z : (i : Int) < (a0_0.size : Int) := by omega
          have c1b : decide ((i : Int) < (a0_0.size : Int)) = true := decide_eq_true c1z
          have c1c : decide (i < a0_0.size) = true := decide_eq_true c1_
          have hbt : ∀ h : i < a0_0.size, ((a0_0[i]'h).toNat : Int) = bt a0_0 i := bt_at a0_0 (i : Int)
          by_cases c0_ : i < 1000000
          · rw [if_pos c0_] at H
            have c0z : (i : Int) < 1000000 := by omega
            by_cases c2_ : bt a0_0 i = 120
            · rw [if_pos c2_] at H
              have c2b : (bt a0_0 i != 120) = false := bne_eq_false_iff_eq.2 c2_
              have c2c : (bt a0_0 i == 120) = true := beq_iff_eq.2 c2_
              clear c2_
              by_cases c3_ : rules.length < 8796093022207 ∧ rules.all (fun x => x.f0 != 0) = true
              · rw [if_pos c3_] at H
                have HLB := Aside0.mk c3_.1
                have HNZ := Aside0.mk c3_.2
                clear c3_
                by_cases c4_ : (rules.filter (fun x => !hintDel i x)).length = 1
                · rw [if_pos c4_] at H
                  obtain ⟨cr, hcr⟩ : ∃ l_, l_ = rules.filter (fun x => !hintDel i x) := ⟨_, rfl⟩
                  rw [← hcr] at c4_ H
                  have HFIN := Aside0.mk H
                  clear H
                  have HCR := Aside0.mk hcr
                  have c4b : ((cr.length : Int) == 1) = true := beq_iff_eq.2 (by omega)
                  have HC4 := Aside0.mk c4_
                  clear hcr c4_
                  go_wp2_with (first | ((with_reducible refine gate_dst (N := 6) rfl ?_); (try (refine gate_guard (by rfl) ?_; dsimp only)); refine box_event ?hg (N := 6) ?hd (cs := #[.int .i64 0]) (t := 3) ?hr ?_; (case hd => rfl); (case hg => rfl); (case hr => exact k94_); intro g6 hg w6 hbox hb; have B6_ := Aside0.mk (show (w6.setCell ⟨g6, 0, none⟩ (.int .i64 (i : Int))).heap[g6]? = _ from blk_put (cs' := #[.int .i64 (i : Int)]) hbox 0 (.int .i64 (i : Int)) rfl); have HBx6 := Aside0.mk (show Below wr.heap.size wr (w6.setCell ⟨g6, 0, none⟩ (.int .i64 (i : Int))) from below_set hb (Nat.le_of_eq hg.symm)); have hc6 : w6.cell? ⟨g6, 0, none⟩ = some (.int .i64 0) := (blk_cell hbox 0).trans rfl; have hf6 := blk_frozen hbox 0; have hcP6 : w6.cell? ⟨gP, 0, none⟩ = some (.string a0_0) := (blk_cell (blk_below BP.out hb) 0).trans rfl; have hne6 : gP ≠ g6 := (by rw [hg]; exact Nat.ne_of_lt (blk_lt BP.out)); have hne6' : ¬ g6 = gP := fun e_ => hne6 e_.symm; clear hbox hb hg) | ((with_reducible refine gate_dst (N := 26) rfl ?_); refine Kd.R_lit kRule _ 33 ?hg (N := 26) ?hd (xs := ([] : List SRule)) (inner := []) (ok := fun _ => True) (okp := fun _ => True) ?hr ?hp (fun _ hk => hk) trivial (Below.refl _ _) (Nat.le_refl _) (by simp) ?_; (case hd => rfl); (case hg => rfl); (case hr => exact k94_); (case hp => exact Reps.none _ _); intro v26 w26 ho hb hg_ hnew_; clear hg_ hnew_; have HL0 := Aside0.mk (Kd.R_lower ho HBx6.out.size); have HB26 := Aside0.mk (below_step HBx6.out hb); have B26 := Aside0.mk (blk_below B6_.out hb); clear ho hb hc6 hf6 hcP6) | ((with_reducible refine gate_builtin (b := .append) (xs := #[.tmp 26, .tmp 27]) rfl ?_); at_builtin; refine Kd.R_append_rows kRule (w0 := wr) wr.heap.size rfl (.tmp 26) (.tmp 27) 24 33 (.agg #[(.int .i64 0), (.int .i64 0)]) 16 rfl Tryz.underlying24 infoE_Rule rfl (by decide) (by omega) v26 ([] : List SRule) rules _ _ _ (fun k_ => k_ ≠ g6) (fun _ => False) rfl rfl ?aO ?aR (fun _ _ h => h) (fun _ h => h.elim) ?aF ?aB ?aS ?aL ?_; (case aO => exact Kd.R_mono (Kd.R_types HL0.out B26.out (by decide)) (fun _ hk => hk.2)); (case aF => exact (fun k_ hk => by have := blk_lt B26.out; omega)); (case aR => exact (Kd.R_reads' (Kd.R_below HL.out HB26.out)).2.2); (case aB => exact HB26.out); (case aS => exact below_size HB26.out); (case aL => have h_ := HLB.out; simp only [List.length_nil]; omega); intro v28 w28 ho hb hg_ hat_; simp only [List.nil_append] at ho; have B28 := Aside0.mk (blk_grown B26.out hg_ (fun e_ => by have := Kd.R_ne HL0.out B26.out (by decide); exact this e_)); clear hg_ hat_; have HL28 := Aside0.mk ho; have HB28 := Aside0.mk hb; clear HL0 HB26 ho hb; obtain ⟨A28, c28, e28⟩ := Kd.R_slice HL28.out; subst e28) | ((with_reducible refine gate_callee (f := 37) rfl ?_); refine goesL_ (some 30) rfl rfl Tryz.func37 (by kernel_rfl) rfl #[.slice A28 rules.length c28, .func (.func 47) #[] #[.pointer (some ⟨g6, 0, none⟩)]] rfl k73_ ?_; refine (delR_calls (hintDel i) 47 #[.pointer (some ⟨g6, 0, none⟩)] (enters_of Tryz.func47 (by kernel_rfl) rfl) A28 c28 wr.heap.size (fun k_ => k_ ≠ g6) rules _ HB28.out.size HL28.out ?sP).mono ?_; (case sP => exact (fun W_ x hx hg_ => hint1_calls i g6 x W_ (by have h_ := List.all_eq_true.1 HNZ.out x hx; simpa using h_) ((blk_cell (blk_grown B28.out hg_ (fun e_ => HL28.out.1 g6 e_.symm rfl)) 0).trans rfl))); rintro e w30 ⟨rfl, hR_, hg_⟩; refine ⟨_, rfl, ?_⟩; have HBx := Aside0.mk (HB28.out.grown hg_ HB28.out.size (Kd.R_base HL28.out)); have B30 := Aside0.mk (blk_grown B28.out hg_ (fun e_ => HL28.out.1 g6 e_.symm rfl)); rw [← HCR.out] at hR_ ⊢; have HR30 := Aside0.mk hR_; have hcG30 : w30.cell? ⟨g6, 0, none⟩ = some (.int .i64 (i : Int)) := (blk_cell B30.out 0).trans rfl; clear hR_ hg_ HL28 HB28 B28 B26 B6_ HBx6))
                  obtain ⟨ad, e_, hx0, hx1⟩ := at_Rule (Kd.R_reads' HR30.out).2.2 (0 : Int) (by omega) (by have := HC4.out; omega)
                  subst e_
                  have HXi := Aside0.mk (show w30.drew.cell? ⟨g6, 0, none⟩ = _ from hcG30)
                  have HX0 := Aside0.mk (show w30.drew.cell? ad = _ from hx0)
                  have HX1 := Aside0.mk (show w30.drew.cell? ⟨ad.block, ad.off + 1, none⟩ = _ from hx1)
                  have HBS := Aside0.mk (below_drew1 HBx.out)
                  have BQ := Aside0.mk (blk_drew (blk_below BQ.out HBx.out))
                  have hln_ : 0 < cr.length := (by have := HC4.out; omega)
                  clear hx0 hx1 hcG30
                  refine start_ (n := 8) (S := fun w' => w'.cell? ⟨g6, 0, none⟩ = some (.int .i64 (i : Int)) ∧ w'.cell? ad = some (.int .i64 (rd_Rule cr 0).f0) ∧ w'.cell? ⟨ad.block, ad.off + 1, none⟩ = some (.int .i64 (rd_Rule cr 0).f1)) (ds := [6]) #[false, false, false, false, false, false, false, false] (by kernel_rfl) rfl rfl ⟨HXi.out, HX0.out, HX1.out⟩ (fun hHeld => ?_)
                  generalize w30.drew = wS at HXi HX0 HX1 HBS BQ hHeld ⊢
                  refine pure_ (i := 2) (N := some 36) (v := ?_) (a' := ?_) #[false, false, true, false, false, false, false, false] rfl rfl (by kernel_rfl) (fun _ _ _ h => h) (Or.inl ⟨by rfl, ?_⟩) ?_ ?_
                  rotate_left
                  · intro w'
                    go_simp
                    with_reducible rfl
                  rotate_left
                  · simp only [Act.put, List.setIfInBounds_toArray, List.set_cons_zero, List.set_cons_succ, i64_w, i32_w]
                    rfl
                  refine pure_ (i := 3) (N := some 37) (v := ?_) (a' := ?_) #[false, false, true, true, false, false, false, false] rfl rfl (by kernel_rfl) (fun _ _ _ h => h) (Or.inl ⟨by rfl, ?_⟩) ?_ ?_
                  rotate_left
                  · intro w'
                    go_simp
                    with_reducible rfl
                  rotate_left
                  · simp only [Act.put, List.setIfInBounds_toArray, List.set_cons_zero, List.set_cons_succ, i64_w, i32_w]
                    rfl
                  refine take_ (i := 0) (N := some 34) (v := ?_) (a' := ?_) #[true, false, true, true, false, false, false, false] rfl rfl (by kernel_rfl) (fun _ _ _ h => h) (Or.inl ⟨by rfl, ?_⟩) hHeld ?_ ?_
                  rotate_left
                  · rintro w' ⟨s0, s1, s2⟩
                    go_simp
                    with_reducible rfl
                  rotate_left
                  · simp only [Act.put, List.setIfInBounds_toArray, List.set_cons_zero, List.set_cons_succ, i64_w, i32_w]
                    rfl
                  refine pure_ (i := 1) (N := some 35) (v := ?_) (a' := ?_) #[true, true, true, true, false, false, false, false] rfl rfl (by kernel_rfl) (fun _ _ _ h => h) (Or.inl ⟨by rfl, ?_⟩) ?_ ?_
                  rotate_left
                  · intro w'
                    go_simp
                    with_reducible rfl
                  rotate_left
                  · simp only [Act.put, List.setIfInBounds_toArray, List.set_cons_zero, List.set_cons_succ, i64_w, i32_w]
                    rfl
                  refine pure_ (i := 5) (N := some 2) (v := ?_) (a' := ?_) #[true, true, true, true, false, true, false, false] rfl rfl (by kernel_rfl) (fun _ _ _ h => h) (Or.inl ⟨by rfl, ?_⟩) ?_ ?_
                  rotate_left
                  · intro w'
                    go_simp
                    with_reducible rfl
                  rotate_left
                  · simp only [Act.put, List.setIfInBounds_toArray, List.set_cons_zero, List.set_cons_succ, i64_w, i32_w]
                    rfl
                  refine take_ (i := 4) (N := some 38) (v := ?_) (a' := ?_) #[true, true, true, true, true, true, false, false] rfl rfl (by kernel_rfl) (fun _ _ _ h => h) (Or.inl ⟨by rfl, ?_⟩) hHeld ?_ ?_
                  rotate_left
                  · rintro w' ⟨s0, s1, s2⟩
                    go_simp
                    with_reducible rfl
                  rotate_left
                  · simp only [Act.put, List.setIfInBounds_toArray, List.set_cons_zero, List.set_cons_succ, i64_w, i32_w]
                    rfl
                  refine last_ (i := 6) (N := none) #[true, true, true, true, true, true, true, false] rfl rfl (by kernel_rfl) (by decide) (fun K hK => ?_)
                  have hr0_ : wS.cell? ⟨gQ, 0, none⟩ = some (.int .i64 0) := (blk_cell BQ.out 0).trans rfl
                  have hr1_ : wS.cell? ⟨gQ, 1, none⟩ = some (.int .i64 0) := (blk_cell BQ.out 1).trans rfl
                  have hrf0_ := blk_frozen BQ.out 0
                  have hrf1_ := blk_frozen BQ.out 1
                  refine skip_ (w1 := ?_) (by rfl) rfl ?_ ?_
                  rotate_left
                  · go_simp
                    rfl
                  refine hK.out _ _ ?_
                  clear hK K
                  refine pure_ (i := 7) (N := some 4) (v := ?_) (a' := ?_) #[true, true, true, true, true, true, true, true] rfl rfl (by kernel_rfl) (fun _ _ _ h => h) (Or.inl ⟨by rfl, ?_⟩) ?_ ?_
                  rotate_left
                  · intro w'
                    go_simp
                    with_reducible rfl
                  rotate_left
                  · simp only [Act.put, List.setIfInBounds_toArray, List.set_cons_zero, List.set_cons_succ, i64_w, i32_w]
                    rfl
                  refine done_ (by kernel_rfl) ?_
                  go_wp2
                  refine bodyPost_ret (results_list (rs := [.tmp 2, .cell 3 33, .tmp 4]) rfl (by simp) (.tmp (.cell gQ 33 #[.int .i64 (rd_Rule cr 0).f0, .int .i64 (rd_Rule cr 0).f1] (0, 0) _ rfl (blk_put (cs' := #[.int .i64 (rd_Rule cr 0).f0, .int .i64 (rd_Rule cr 0).f1]) (blk_put (cs' := #[.int .i64 (rd_Rule cr 0).f0, .int .i64 0]) BQ.out 0 _ rfl) 1 _ rfl) Tryz.underlying33 rfl (by kernel_rfl) (.tmp .nil)))) rfl ?_
                  have h_ := HFIN.out
                  simp only [Option.some.injEq, Prod.mk.injEq] at h_
                  obtain ⟨rfl, rfl, rfl, rfl⟩ := h_
                  exact ⟨rfl, below_set (below_set (below_step HB.out HBS.out) k93_) k93_⟩
                · rw [if_neg c4_] at H
                  have H' := Aside0.mk H
                  clear H
                  obtain ⟨cr, hcr⟩ : ∃ l_, l_ = rules.filter (fun x => !hintDel i x) := ⟨_, rfl⟩
                  rw [← hcr] at c4_
                  have HCR := Aside0.mk hcr
                  have c4b : ((cr.length : Int) == 1) = false := beq_eq_false_iff_ne.2 (by omega)
                  clear hcr c4_
                  go_wp2_with (first | ((with_reducible refine gate_dst (N := 6) rfl ?_); (try (refine gate_guard (by rfl) ?_; dsimp only)); refine box_event ?hg (N := 6) ?hd (cs := #[.int .i64 0]) (t := 3) ?hr ?_; (case hd => rfl); (case hg => rfl); (case hr => exact k94_); intro g6 hg w6 hbox hb; have B6_ := Aside0.mk (show (w6.setCell ⟨g6, 0, none⟩ (.int .i64 (i : Int))).heap[g6]? = _ from blk_put (cs' := #[.int .i64 (i : Int)]) hbox 0 (.int .i64 (i : Int)) rfl); have HBx6 := Aside0.mk (show Below wr.heap.size wr (w6.setCell ⟨g6, 0, none⟩ (.int .i64 (i : Int))) from below_set hb (Nat.le_of_eq hg.symm)); have hc6 : w6.cell? ⟨g6, 0, none⟩ = some (.int .i64 0) := (blk_cell hbox 0).trans rfl; have hf6 := blk_frozen hbox 0; have hcP6 : w6.cell? ⟨gP, 0, none⟩ = some (.string a0_0) := (blk_cell (blk_below BP.out hb) 0).trans rfl; have hne6 : gP ≠ g6 := (by rw [hg]; exact Nat.ne_of_lt (blk_lt BP.out)); have hne6' : ¬ g6 = gP := fun e_ => hne6 e_.symm; clear hbox hb hg) | ((with_reducible refine gate_dst (N := 26) rfl ?_); refine Kd.R_lit kRule _ 33 ?hg (N := 26) ?hd (xs := ([] : List SRule)) (inner := []) (ok := fun _ => True) (okp := fun _ => True) ?hr ?hp (fun _ hk => hk) trivial (Below.refl _ _) (Nat.le_refl _) (by simp) ?_; (case hd => rfl); (case hg => rfl); (case hr => exact k94_); (case hp => exact Reps.none _ _); intro v26 w26 ho hb hg_ hnew_; clear hg_ hnew_; have HL0 := Aside0.mk (Kd.R_lower ho HBx6.out.size); have HB26 := Aside0.mk (below_step HBx6.out hb); have B26 := Aside0.mk (blk_below B6_.out hb); clear ho hb hc6 hf6 hcP6) | ((with_reducible refine gate_builtin (b := .append) (xs := #[.tmp 26, .tmp 27]) rfl ?_); at_builtin; refine Kd.R_append_rows kRule (w0 := wr) wr.heap.size rfl (.tmp 26) (.tmp 27) 24 33 (.agg #[(.int .i64 0), (.int .i64 0)]) 16 rfl Tryz.underlying24 infoE_Rule rfl (by decide) (by omega) v26 ([] : List SRule) rules _ _ _ (fun k_ => k_ ≠ g6) (fun _ => False) rfl rfl ?aO ?aR (fun _ _ h => h) (fun _ h => h.elim) ?aF ?aB ?aS ?aL ?_; (case aO => exact Kd.R_mono (Kd.R_types HL0.out B26.out (by decide)) (fun _ hk => hk.2)); (case aF => exact (fun k_ hk => by have := blk_lt B26.out; omega)); (case aR => exact (Kd.R_reads' (Kd.R_below HL.out HB26.out)).2.2); (case aB => exact HB26.out); (case aS => exact below_size HB26.out); (case aL => have h_ := HLB.out; simp only [List.length_nil]; omega); intro v28 w28 ho hb hg_ hat_; simp only [List.nil_append] at ho; have B28 := Aside0.mk (blk_grown B26.out hg_ (fun e_ => by have := Kd.R_ne HL0.out B26.out (by decide); exact this e_)); clear hg_ hat_; have HL28 := Aside0.mk ho; have HB28 := Aside0.mk hb; clear HL0 HB26 ho hb; obtain ⟨A28, c28, e28⟩ := Kd.R_slice HL28.out; subst e28) | ((with_reducible refine gate_callee (f := 37) rfl ?_); refine goesL_ (some 30) rfl rfl Tryz.func37 (by kernel_rfl) rfl #[.slice A28 rules.length c28, .func (.func 47) #[] #[.pointer (some ⟨g6, 0, none⟩)]] rfl k73_ ?_; refine (delR_calls (hintDel i) 47 #[.pointer (some ⟨g6, 0, none⟩)] (enters_of Tryz.func47 (by kernel_rfl) rfl) A28 c28 wr.heap.size (fun k_ => k_ ≠ g6) rules _ HB28.out.size HL28.out ?sP).mono ?_; (case sP => exact (fun W_ x hx hg_ => hint1_calls i g6 x W_ (by have h_ := List.all_eq_true.1 HNZ.out x hx; simpa using h_) ((blk_cell (blk_grown B28.out hg_ (fun e_ => HL28.out.1 g6 e_.symm rfl)) 0).trans rfl))); rintro e w30 ⟨rfl, hR_, hg_⟩; refine ⟨_, rfl, ?_⟩; have HBx := Aside0.mk (HB28.out.grown hg_ HB28.out.size (Kd.R_base HL28.out)); have B30 := Aside0.mk (blk_grown B28.out hg_ (fun e_ => HL28.out.1 g6 e_.symm rfl)); rw [← HCR.out] at hR_ ⊢; have HR30 := Aside0.mk hR_; have hcG30 : w30.cell? ⟨g6, 0, none⟩ = some (.int .i64 (i : Int)) := (blk_cell B30.out 0).trans rfl; clear hR_ hg_ HL28 HB28 B28 B26 B6_ HBx6))
                  go_roundg k1
                  case measure => have := HK.out; omega
                  case rel => exact ⟨i + 1, by go_num, H', ⟨by have := HK.out; omega⟩, ⟨blk_below BP.out HBx.out⟩, ⟨blk_below BQ.out HBx.out⟩, ⟨Kd.R_below HL.out HBx.out⟩, ⟨below_step HB.out HBx.out⟩⟩
              · rw [if_neg c3_] at H
                exact absurd H (by simp)
            · rw [if_neg c2_] at H
              have c2b : (bt a0_0 i != 120) = true := bne_iff_ne.2 c2_
              have c2c : (bt a0_0 i == 120) = false := beq_eq_false_iff_ne.2 c2_
              clear c2_
              have H' := Aside0.mk H
              clear H
              go_wp2_with (first | ((with_reducible refine gate_dst (N := 6) rfl ?_); (try (refine gate_guard (by rfl) ?_; dsimp only)); refine box_event ?hg (N := 6) ?hd (cs := #[.int .i64 0]) (t := 3) ?hr ?_; (case hd => rfl); (case hg => rfl); (case hr => exact k94_); intro g6 hg w6 hbox hb; have B6_ := Aside0.mk (show (w6.setCell ⟨g6, 0, none⟩ (.int .i64 (i : Int))).heap[g6]? = _ from blk_put (cs' := #[.int .i64 (i : Int)]) hbox 0 (.int .i64 (i : Int)) rfl); have HBx6 := Aside0.mk (show Below wr.heap.size wr (w6.setCell ⟨g6, 0, none⟩ (.int .i64 (i : Int))) from below_set hb (Nat.le_of_eq hg.symm)); have hc6 : w6.cell? ⟨g6, 0, none⟩ = some (.int .i64 0) := (blk_cell hbox 0).trans rfl; have hf6 := blk_frozen hbox 0; have hcP6 : w6.cell? ⟨gP, 0, none⟩ = some (.string a0_0) := (blk_cell (blk_below BP.out hb) 0).trans rfl; have hne6 : gP ≠ g6 := (by rw [hg]; exact Nat.ne_of_lt (blk_lt BP.out)); have hne6' : ¬ g6 = gP := fun e_ => hne6 e_.symm; clear hbox hb hg))
              go_roundg k1
              case measure => have := HK.out; omega
              case rel => exact ⟨i + 1, by go_num, H', ⟨by have := HK.out; omega⟩, ⟨blk_below BP.out HBx6.out⟩, ⟨blk_below BQ.out HBx6.out⟩, ⟨Kd.R_below HL.out HBx6.out⟩, ⟨below_step HB.out HBx6.out⟩⟩
          · rw [if_neg c0_] at H
            exact absurd H (by simp)
        · rw [if_neg c1_] at H
          have c1b : decide ((i : Int) < (a0_0.size : Int)) = false := decide_eq_false (by omega)
          have c1c : decide (i < a0_0.size) = false := decide_eq_false c1_
          clear c1_
          simp only [Option.some.injEq, Prod.mk.injEq] at H
          obtain ⟨rfl, rfl, rfl, rfl⟩ := H
          have hqz0 : wr.cell? ⟨gQ, 0, none⟩ = some (.int .i64 0) := (blk_cell BQ.out 0).trans rfl
          have hqz1 : wr.cell? ⟨gQ, 1, none⟩ = some (.int .i64 0) := (blk_cell BQ.out 1).trans rfl
          have hqf0 := blk_frozen BQ.out 0
          have hqf1 := blk_frozen BQ.out 1
          go_wp2
          refine bodyPost_ret (results_list (rs := [.tmp 2, .cell 3 33, .tmp 4]) rfl (by simp) (.tmp (.cell gQ 33 #[.int .i64 0, .int .i64 0] (0, 0) _ rfl (blk_put (cs' := #[.int .i64 0, .int .i64 0]) (blk_put (cs' := #[.int .i64 0, .int .i64 0]) BQ.out 0 _ rfl) 1 _ rfl) Tryz.underlying33 rfl (by kernel_rfl) (.tmp .nil)))) rfl ?_
          exact ⟨rfl, below_set (below_set HB.out k93_) k93_⟩
end Go.Proofs.YtbnmajedmajfoaaGreatDoor.P
namespace Go.Proofs.YtbnmajedmajfoaaGreatDoor.P
open Go.RowKit Go.Proofs.YtbnmajedmajfoaaGreatDoorW.PrintWords Go.Proofs.YtbnmajedmajfoaaGreatDoorW.PrintLast Go.Proofs.YtbnmajedmajfoaaGreatDoorW.PrintMore
attribute [local go_sem] max2_int min2_int max_two min_two max_three min_three max_four min_four
set_option linter.unusedVariables false
set_option linter.unusedSimpArgs false
def hintHit (i : Nat) (x : SRule) : Bool := spec_siRest.f (wrap64 ((i : Int) + 1)) x.f0 == some x.f1
def spec_HintOf.l0 : Nat → ByteArray → List SRule → Nat → Option (Int × Int × Int × Bool)
  | 0, _, _, _ => none
  | k + 1, s, fit, pos => if pos < s.size then (if bt s pos < 128 then (if bt s pos = 120 then (if fit.length < 8796093022207 ∧ fit.all (fun x => (spec_siRest.f (wrap64 ((pos : Int) + 1)) x.f0).isSome) = true then (if (fit.filter (hintHit pos)).length = 1 then some (wrap64 ((pos : Int) + 1), (rd_Rule (fit.filter (hintHit pos)) 0).f0, (rd_Rule (fit.filter (hintHit pos)) 0).f1, true) else spec_HintOf.l0 k s fit (pos + 1)) else none) else spec_HintOf.l0 k s fit (pos + 1)) else none) else some (0, 0, 0, false)
def spec_HintOf.f (k : Nat) (a0_0 : ByteArray) (a0_1 : Int) : Option (Int × Int × Int × Bool) := (spec_pzGood.f k a0_0 a0_1).bind fun t => if t = true then ((spec_pzFit.f k a0_0).bind fun fit => spec_HintOf.l0 k a0_0 fit 0) else some (0, 0, 0, false)
theorem hint_take (fit : List SRule) (p : SRule → Bool) (j : Nat) (h : j < fit.length) : (fit.take (j + 1)).filter p = (fit.take j).filter p ++ (if p (rd_Rule fit (j : Int)) = true then [rd_Rule fit (j : Int)] else []) := by
  rw [List.take_succ_eq_append_getElem h, List.filter_append]
  congr 1
  have e_ : rd_Rule fit (j : Int) = fit[j] := by simp [rd_Rule, List.getD, h]
  rw [e_]
  by_cases c : p fit[j] = true
  · rw [if_pos c, List.filter_cons, if_pos c, List.filter_nil]
  · rw [if_neg c, List.filter_cons, if_neg c, List.filter_nil]
set_option maxHeartbeats 8000000 in
set_option maxRecDepth 100000 in
theorem spec_HintOf.calls (k : Nat) (a0_0 : ByteArray) (a0_1 : Int) (r1 r2 r3 : Int) (r4 : Bool) (w : World) (h : spec_HintOf.f k a0_0 a0_1 = some (r1, r2, r3, r4)) :
    Calls Tryz.prog 16 #[.agg #[.string a0_0, .int .i64 a0_1]] w fun e w' => e = .returned (.tuple #[.int .i64 r1, .agg #[.int .i64 r2, .int .i64 r3], .bool r4]) ∧ Below w.heap.size w w' := by
  have hu := Tryz.underlying23
  have hu2 := Tryz.underlying33
  unfold spec_HintOf.f at h
  replace h := Option.bind_eq_some_iff.mp h
  obtain ⟨t, A0_, h⟩ := h
  have A1 := Aside0.mk A0_
  clear A0_
  cases t with
  | false =>
    rw [if_neg (by decide)] at h
    simp only [Option.some.injEq, Prod.mk.injEq] at h
    obtain ⟨rfl, rfl, rfl, rfl⟩ := h
    go_enter Tryz.func16, Tryz.ntmps16
    go_wp2_with (first | ((with_reducible refine gate_dst (N := 1) rfl ?_); (try (refine gate_guard (by rfl) ?_; dsimp only)); refine box_event ?hg (N := 1) ?hd (cs := #[.string a0_0, .int .i64 a0_1]) (t := 23) ?hr ?_; (case hd => rfl); (case hg => rfl); (case hr => exact k94_); intro gP hg w1 hbox hb; have BP1 := Aside0.mk hbox; have HB1 := Aside0.mk hb; have GP := Aside0.mk (show w.heap.size ≤ gP by rw [hg]; exact Nat.le_refl _); have hcp0 : w1.cell? ⟨gP, 0, none⟩ = some (.string a0_0) := (blk_cell hbox 0).trans rfl; have hcp1 : w1.cell? ⟨gP, 1, none⟩ = some (.int .i64 a0_1) := (blk_cell hbox 1).trans rfl; clear hbox hb hg) | ((with_reducible refine gate_dst (N := 3) rfl ?_); (try (refine gate_guard (by rfl) ?_; dsimp only)); refine box_event ?hg (N := 3) ?hd (cs := #[.int .i64 0, .int .i64 0]) (t := 33) ?hr ?_; (case hd => rfl); (case hg => rfl); (case hr => exact k94_); intro gQ hg w2 hbox hb; have BQ2 := Aside0.mk hbox; have BP2 := Aside0.mk (blk_below BP1.out hb); have HB2 := Aside0.mk (below_step HB1.out hb); have GQ := Aside0.mk (show gP < gQ by rw [hg]; exact blk_lt BP1.out); have hcq0 : w2.cell? ⟨gP, 0, none⟩ = some (.string a0_0) := (blk_cell BP2.out 0).trans rfl; have hcq1 : w2.cell? ⟨gP, 1, none⟩ = some (.int .i64 a0_1) := (blk_cell BP2.out 1).trans rfl; clear hcp0 hcp1 BP1 HB1; clear hbox hb hg) | ((with_reducible refine gate_callee (f := 45) rfl ?_); refine goesL_ (some 11) rfl rfl Tryz.func45 (by kernel_rfl) rfl #[.agg #[.string a0_0, .int .i64 a0_1]] rfl k73_ ?_; (with_reducible refine (spec_pzGood.calls k a0_0 a0_1 false _ A1.out).mono ?_); rintro e w3 ⟨rfl, hb⟩; refine ⟨_, rfl, ?_⟩; have BP3 := Aside0.mk (blk_below BP2.out hb); have BQ3 := Aside0.mk (blk_below BQ2.out hb); have HB3 := Aside0.mk (below_step HB2.out hb); have hcr0 : w3.cell? ⟨gP, 0, none⟩ = some (.string a0_0) := (blk_cell BP3.out 0).trans rfl; have hqz0 : w3.cell? ⟨gQ, 0, none⟩ = some (.int .i64 0) := (blk_cell BQ3.out 0).trans rfl; have hqz1 : w3.cell? ⟨gQ, 1, none⟩ = some (.int .i64 0) := (blk_cell BQ3.out 1).trans rfl; have hqf0 := blk_frozen BQ3.out 0; have hqf1 := blk_frozen BQ3.out 1; clear BP2 BQ2 HB2 hcq0 hcq1; clear hb))
    refine bodyPost_ret (results_list (rs := [.tmp 2, .cell 3 33, .tmp 4]) rfl (by simp) (.tmp (.cell gQ 33 #[.int .i64 0, .int .i64 0] (0, 0) _ rfl (by first | exact BQ3.out | exact blk_put (cs' := #[.int .i64 0, .int .i64 0]) (blk_put (cs' := #[.int .i64 0, .int .i64 0]) BQ3.out 0 _ rfl) 1 _ rfl) Tryz.underlying33 rfl (by kernel_rfl) (.tmp .nil)))) rfl ?_
    exact ⟨rfl, by first | exact HB3.out | exact below_set (below_set HB3.out k93_) k93_⟩
  | true =>
    rw [if_pos rfl] at h
    replace h := Option.bind_eq_some_iff.mp h
    obtain ⟨fit, A0_, h⟩ := h
    have A2 := Aside0.mk A0_
    have H' := Aside0.mk h
    clear A0_ h
    go_enter Tryz.func16, Tryz.ntmps16
    go_wp2_with (first | ((with_reducible refine gate_dst (N := 1) rfl ?_); (try (refine gate_guard (by rfl) ?_; dsimp only)); refine box_event ?hg (N := 1) ?hd (cs := #[.string a0_0, .int .i64 a0_1]) (t := 23) ?hr ?_; (case hd => rfl); (case hg => rfl); (case hr => exact k94_); intro gP hg w1 hbox hb; have BP1 := Aside0.mk hbox; have HB1 := Aside0.mk hb; have GP := Aside0.mk (show w.heap.size ≤ gP by rw [hg]; exact Nat.le_refl _); have hcp0 : w1.cell? ⟨gP, 0, none⟩ = some (.string a0_0) := (blk_cell hbox 0).trans rfl; have hcp1 : w1.cell? ⟨gP, 1, none⟩ = some (.int .i64 a0_1) := (blk_cell hbox 1).trans rfl; clear hbox hb hg) | ((with_reducible refine gate_dst (N := 3) rfl ?_); (try (refine gate_guard (by rfl) ?_; dsimp only)); refine box_event ?hg (N := 3) ?hd (cs := #[.int .i64 0, .int .i64 0]) (t := 33) ?hr ?_; (case hd => rfl); (case hg => rfl); (case hr => exact k94_); intro gQ hg w2 hbox hb; have BQ2 := Aside0.mk hbox; have BP2 := Aside0.mk (blk_below BP1.out hb); have HB2 := Aside0.mk (below_step HB1.out hb); have GQ := Aside0.mk (show gP < gQ by rw [hg]; exact blk_lt BP1.out); have hcq0 : w2.cell? ⟨gP, 0, none⟩ = some (.string a0_0) := (blk_cell BP2.out 0).trans rfl; have hcq1 : w2.cell? ⟨gP, 1, none⟩ = some (.int .i64 a0_1) := (blk_cell BP2.out 1).trans rfl; clear hcp0 hcp1 BP1 HB1; clear hbox hb hg) | ((with_reducible refine gate_callee (f := 45) rfl ?_); refine goesL_ (some 11) rfl rfl Tryz.func45 (by kernel_rfl) rfl #[.agg #[.string a0_0, .int .i64 a0_1]] rfl k73_ ?_; (with_reducible refine (spec_pzGood.calls k a0_0 a0_1 true _ A1.out).mono ?_); rintro e w3 ⟨rfl, hb⟩; refine ⟨_, rfl, ?_⟩; have BP3 := Aside0.mk (blk_below BP2.out hb); have BQ3 := Aside0.mk (blk_below BQ2.out hb); have HB3 := Aside0.mk (below_step HB2.out hb); have hcr0 : w3.cell? ⟨gP, 0, none⟩ = some (.string a0_0) := (blk_cell BP3.out 0).trans rfl; have hqz0 : w3.cell? ⟨gQ, 0, none⟩ = some (.int .i64 0) := (blk_cell BQ3.out 0).trans rfl; have hqz1 : w3.cell? ⟨gQ, 1, none⟩ = some (.int .i64 0) := (blk_cell BQ3.out 1).trans rfl; have hqf0 := blk_frozen BQ3.out 0; have hqf1 := blk_frozen BQ3.out 1; clear BP2 BQ2 HB2 hcq0 hcq1; clear hb) | ((with_reducible refine gate_callee (f := 46) rfl ?_); refine goesL_ (some 16) rfl rfl Tryz.func46 (by kernel_rfl) rfl #[.string a0_0] rfl k73_ ?_; (with_reducible refine (spec_pzFit.calls k a0_0 fit _ A2.out).mono ?_); rintro e w4 ⟨v16, rfl, ho, hb⟩; refine ⟨_, rfl, ?_⟩; have BP4 := Aside0.mk (blk_below BP3.out hb); have BQ4 := Aside0.mk (blk_below BQ3.out hb); have HB4 := Aside0.mk (below_step HB3.out hb); obtain ⟨A5, c5, e5⟩ := Kd.R_slice ho; subst e5; have HL4 := Aside0.mk (Kd.R_lower ho HB3.out.size); have hcs0 : w4.cell? ⟨gP, 0, none⟩ = some (.string a0_0) := (blk_cell BP4.out 0).trans rfl; clear BP3 BQ3 HB3 hcr0 hqz0 hqz1 hqf0 hqf1; clear ho hb))
    have GI := Aside0.mk (show w.heap.size ≤ w4.heap.size from HB4.out.size)
    have GPI := Aside0.mk (blk_lt BP4.out)
    go_loopg [] k (fun kq wx => ∃ pos : Nat, wx.heap[w4.heap.size]? = some (.stringIter a0_0 pos) ∧ Aside0 (Below w4.heap.size w4 wx) ∧ Aside0 (spec_HintOf.l0 kq a0_0 fit pos = some (r1, r2, r3, r4)) ∧ Aside0 (kq ≤ k))
    case atStart => exact ⟨0, by have h_ := World.iter_heap w4 a0_0 0; simpa using h_, ⟨(Below.refl _ w4).alloc (Nat.le_refl _) _⟩, H', ⟨Nat.le_refl _⟩⟩
    case round =>
      clear H' hcs0
      obtain ⟨pos, hit, HBI, HA_, HK⟩ := hrel
      cases gk with
      | zero => exact absurd HA_.out (by simp [spec_HintOf.l0])
      | succ k1 =>
        have H := HA_.out
        clear HA_
        simp only [spec_HintOf.l0] at H
        by_cases hps : pos < a0_0.size
        · rw [if_pos hps] at H
          by_cases ha : bt a0_0 pos < 128
          · rw [if_pos ha] at H
            have hnx : ∀ ty, (Instr.next (.pointer (some ⟨w4.heap.size, 0, none⟩)) true ty).run Tryz.prog wr = _ := fun ty => Lib.run_next_ascii_at wr w4.heap.size a0_0 pos ty hit hps (by have := bt_get a0_0 pos hps; omega)
            have hit2 := Lib.iterAt_heap wr w4.heap.size a0_0 pos (pos + 1) hit
            have hbw2 := Lib.below_iterAt HBI.out (k := w4.heap.size) (Nat.le_refl _) a0_0 (pos + 1)
            obtain ⟨W, hWd⟩ : ∃ W, wr.iterAt w4.heap.size a0_0 (pos + 1) = W := ⟨_, rfl⟩
            rw [hWd] at hnx hit2 hbw2
            clear hit hWd HBI ha
            have HBW := Aside0.mk hbw2
            have HI := Aside0.mk hit2
            clear hbw2 hit2
            have hcP : W.cell? ⟨gP, 0, none⟩ = some (.string a0_0) := (blk_cell (blk_below BP4.out HBW.out) 0).trans rfl
            have hx6 := bt_get a0_0 pos
            have p6 := eq_true (show 0 ≤ ((pos : Nat) : Int) by omega)
            have q6 := eq_true (show ((pos : Nat) : Int) < (a0_0.size : Int) by omega)
            by_cases c2_ : bt a0_0 pos = 120
            · rw [if_pos c2_] at H
              have c2b : (bt a0_0 pos != 120) = false := bne_eq_false_iff_eq.2 c2_
              have c2c : (bt a0_0 pos == 120) = true := beq_iff_eq.2 c2_
              clear c2_
              by_cases c3_ : fit.length < 8796093022207 ∧ fit.all (fun x => (spec_siRest.f (wrap64 ((pos : Int) + 1)) x.f0).isSome) = true
              · rw [if_pos c3_] at H
                have HLB := Aside0.mk c3_.1
                have HSO := Aside0.mk c3_.2
                have H' := Aside0.mk H
                clear c3_ H
                go_wp2
                go_loopg [7, 30] fit.length (fun gg v7 v30 wx => ∃ j : Nat, v30 = .int .i64 j ∧ j ≤ fit.length ∧ fit.length - j ≤ gg ∧ Aside0 (Kd.R kRule 33 wx W.heap.size (fun _ => True) v7 ((fit.take j).filter (hintHit pos))) ∧ Aside0 (Below W.heap.size W wx))
                case atStart => exact ⟨0, rfl, Nat.zero_le _, Nat.le_refl _, ⟨Kd.R_nil _ _ _ _ _⟩, ⟨Below.refl _ _⟩⟩
                case round =>
                  clear hcP hnx
                  obtain ⟨j, rfl, hj, hgg, HO, HW2⟩ := hrel
                  have HC := Aside0.mk (Kd.R_reads' (Kd.R_below HL4.out (below_step HBW.out HW2.out))).2.2
                  have hjb : fit.length < 8796093022207 := HLB.out
                  by_cases hlt : j < fit.length
                  · have c1z : (j : Int) < (fit.length : Int) := by omega
                    have c1b : decide ((j : Int) < (fit.length : Int)) = true := decide_eq_true c1z
                    have c1c : decide (j < fit.length) = true := decide_eq_true hlt
                    obtain ⟨ad, e_, hx0, hx1⟩ := at_Rule HC.out (j : Int) (by omega) (by omega)
                    cases e_
                    simp only [Int.toNat_natCast] at hx0 hx1
                    obtain ⟨q, hq⟩ : ∃ q, spec_siRest.f (wrap64 ((pos : Int) + 1)) (rd_Rule fit (j : Int)).f0 = some q := by
                      have h_ := List.all_eq_true.1 HSO.out (rd_Rule fit (j : Int)) (by rw [show rd_Rule fit (j : Int) = fit[j] by simp [rd_Rule, List.getD, hlt]]; exact List.getElem_mem hlt)
                      exact Option.isSome_iff_exists.1 h_
                    have HM := Aside0.mk (fun W => spec_siRest.calls (wrap64 ((pos : Int) + 1)) (rd_Rule fit (j : Int)).f0 q W hq)
                    have HT := Aside0.mk (hint_take fit (hintHit pos) j hlt)
                    have HH := Aside0.mk (show hintHit pos (rd_Rule fit (j : Int)) = (q == (rd_Rule fit (j : Int)).f1) by unfold hintHit; rw [hq]; rfl)
                    clear hq
                    obtain ⟨Y, hY⟩ : ∃ l_, l_ = (fit.take j).filter (hintHit pos) := ⟨_, rfl⟩
                    have HY := Aside0.mk hY
                    have HYL := Aside0.mk (show Y.length ≤ fit.length by rw [hY]; exact Nat.le_trans (List.length_filter_le _ _) (by rw [List.length_take]; omega))
                    have HO1 := Aside0.mk (show Kd.R kRule 33 wr W.heap.size (fun _ => True) u7 Y by rw [hY]; exact HO.out)
                    clear hY HO
                    by_cases hqr : q = (rd_Rule fit (j : Int)).f1
                    · have cqb : (q == (rd_Rule fit (j : Int)).f1) = true := beq_iff_eq.2 hqr
                      clear hqr
                      have HH2 := Aside0.mk (HH.out.trans cqb)
                      go_wp2_with (first | ((with_reducible refine gate_dst (N := 9) rfl ?_); (try (refine gate_guard (by rfl) ?_; dsimp only)); refine box_event ?hg (N := 9) ?hd (cs := #[.int .i64 0, .int .i64 0]) (t := 33) ?hr ?_; (case hd => rfl); (case hg => rfl); (case hr => exact k94_); intro g9 hg w20 hbox hb; have BK := Aside0.mk hbox; have HB0 := Aside0.mk hb; have G9 := Aside0.mk hg; have hcz0 : w20.cell? ⟨g9, 0, none⟩ = some (.int .i64 0) := (blk_cell hbox 0).trans rfl; have hcz1 : w20.cell? ⟨g9, 1, none⟩ = some (.int .i64 0) := (blk_cell hbox 1).trans rfl; have hfz0 := blk_frozen hbox 0; have hfz1 := blk_frozen hbox 1; clear hbox hb hg))
                      have BK8 := Aside0.mk (show ((w20.setCell ⟨g9, 0, none⟩ (.int .i64 (rd_Rule fit (j : Int)).f0)).setCell ⟨g9, 1, none⟩ (.int .i64 (rd_Rule fit (j : Int)).f1)).heap[g9]? = _ from blk_put (cs' := #[.int .i64 (rd_Rule fit (j : Int)).f0, .int .i64 (rd_Rule fit (j : Int)).f1]) (blk_put (cs' := #[.int .i64 (rd_Rule fit (j : Int)).f0, .int .i64 0]) BK.out 0 _ rfl) 1 _ rfl)
                      have HBr8 := Aside0.mk (show Below wr.heap.size wr ((w20.setCell ⟨g9, 0, none⟩ (.int .i64 (rd_Rule fit (j : Int)).f0)).setCell ⟨g9, 1, none⟩ (.int .i64 (rd_Rule fit (j : Int)).f1)) from below_set (below_set HB0.out (Nat.le_of_eq G9.out.symm)) (Nat.le_of_eq G9.out.symm))
                      clear hcz0 hcz1 hfz0 hfz1 BK HB0
                      generalize ((w20.setCell ⟨g9, 0, none⟩ (.int .i64 (rd_Rule fit (j : Int)).f0)).setCell ⟨g9, 1, none⟩ (.int .i64 (rd_Rule fit (j : Int)).f1)) = w8 at BK8 HBr8 ⊢
                      have hcA : w8.cell? ⟨g9, 0, none⟩ = some (.int .i64 (rd_Rule fit (j : Int)).f0) := (blk_cell BK8.out 0).trans rfl
                      have hcB : w8.cell? ⟨g9, 1, none⟩ = some (.int .i64 (rd_Rule fit (j : Int)).f1) := (blk_cell BK8.out 1).trans rfl
                      have HO8 := Aside0.mk (Kd.R_below (Kd.R_elderB HO1.out g9 (Nat.le_of_eq G9.out.symm)) HBr8.out)
                      have HB8 := Aside0.mk (below_step HW2.out HBr8.out)
                      clear HO1
                      go_wp2
                      go_quiet ((go_at_call 48; exact Calls.quiet_of ((HM.out _).mono (fun e w' h => ⟨h.1, h.2.out⟩))))
                      go_wp2_with (first | ((with_reducible refine gate_builtin (b := .append) (xs := #[.tmp 42, .tmp 44]) rfl ?_); at_builtin; refine Kd.R_append kRule (w0 := W) W.heap.size rfl (.tmp 42) (.tmp 44) 24 33 (.agg #[(.int .i64 0), (.int .i64 0)]) 16 rfl Tryz.underlying24 infoE_Rule rfl (by decide) (by omega) u7 Y (rd_Rule fit (j : Int)) [.int .i64 (rd_Rule fit (j : Int)).f0, .int .i64 (rd_Rule fit (j : Int)).f1] (fun k_ => k_ ≠ g9) (fun _ => False) rfl rfl ?aP (fun _ hk => hk.elim) ?aF ?aO ?aB ?aS ?aL ?_; (case aP => exact kRule_mkM _ _ _ (rd_Rule fit (j : Int))); (case aB => exact (by repeat (first | (with_reducible first | exact HB8.out | apply below_alloc | apply pw_below_drewN | apply below_drew1) | exact HB8.out))); (case aF => exact (fun k_ hk => Kd.freshB (g := g9) (by (with_reducible repeat (first | refine blk_drewN ?_ _ | refine blk_drew ?_ | refine blk_alloc ?_ _)); exact BK8.out) k_ hk)); (case aO => exact (by (with_reducible repeat (first | apply Kd.R_alloc | apply Kd.R_drewN | apply Kd.R_drew)); exact Kd.R_mono HO8.out (fun _ hk => hk.2))); (case aS => exact (below_size (by repeat (first | (with_reducible first | exact HB8.out | apply below_alloc | apply pw_below_drewN | apply below_drew1) | exact HB8.out)))); (case aL => have h_ := HLB.out; have h2_ := HYL.out; omega); intro v45 w11 ho hb hg hat; have HOB := Aside0.mk ho; have HBN := Aside0.mk hb; clear ho hb hg hat))
                      go_roundg (fit.length - (j + 1))
                      case measure => omega
                      case rel => exact ⟨j + 1, by go_num, by omega, Nat.le_refl _, ⟨by rw [HT.out, if_pos HH2.out, ← HY.out]; exact Kd.R_mono HOB.out (fun _ _ => trivial)⟩, HBN⟩
                    · have cqb : (q == (rd_Rule fit (j : Int)).f1) = false := beq_eq_false_iff_ne.2 hqr
                      clear hqr
                      have HH2 := Aside0.mk (HH.out.trans cqb)
                      go_wp2_with (first | ((with_reducible refine gate_dst (N := 9) rfl ?_); (try (refine gate_guard (by rfl) ?_; dsimp only)); refine box_event ?hg (N := 9) ?hd (cs := #[.int .i64 0, .int .i64 0]) (t := 33) ?hr ?_; (case hd => rfl); (case hg => rfl); (case hr => exact k94_); intro g9 hg w20 hbox hb; have BK := Aside0.mk hbox; have HB0 := Aside0.mk hb; have G9 := Aside0.mk hg; have hcz0 : w20.cell? ⟨g9, 0, none⟩ = some (.int .i64 0) := (blk_cell hbox 0).trans rfl; have hcz1 : w20.cell? ⟨g9, 1, none⟩ = some (.int .i64 0) := (blk_cell hbox 1).trans rfl; have hfz0 := blk_frozen hbox 0; have hfz1 := blk_frozen hbox 1; clear hbox hb hg))
                      have BK8 := Aside0.mk (show ((w20.setCell ⟨g9, 0, none⟩ (.int .i64 (rd_Rule fit (j : Int)).f0)).setCell ⟨g9, 1, none⟩ (.int .i64 (rd_Rule fit (j : Int)).f1)).heap[g9]? = _ from blk_put (cs' := #[.int .i64 (rd_Rule fit (j : Int)).f0, .int .i64 (rd_Rule fit (j : Int)).f1]) (blk_put (cs' := #[.int .i64 (rd_Rule fit (j : Int)).f0, .int .i64 0]) BK.out 0 _ rfl) 1 _ rfl)
                      have HBr8 := Aside0.mk (show Below wr.heap.size wr ((w20.setCell ⟨g9, 0, none⟩ (.int .i64 (rd_Rule fit (j : Int)).f0)).setCell ⟨g9, 1, none⟩ (.int .i64 (rd_Rule fit (j : Int)).f1)) from below_set (below_set HB0.out (Nat.le_of_eq G9.out.symm)) (Nat.le_of_eq G9.out.symm))
                      clear hcz0 hcz1 hfz0 hfz1 BK HB0
                      generalize ((w20.setCell ⟨g9, 0, none⟩ (.int .i64 (rd_Rule fit (j : Int)).f0)).setCell ⟨g9, 1, none⟩ (.int .i64 (rd_Rule fit (j : Int)).f1)) = w8 at BK8 HBr8 ⊢
                      have hcA : w8.cell? ⟨g9, 0, none⟩ = some (.int .i64 (rd_Rule fit (j : Int)).f0) := (blk_cell BK8.out 0).trans rfl
                      have hcB : w8.cell? ⟨g9, 1, none⟩ = some (.int .i64 (rd_Rule fit (j : Int)).f1) := (blk_cell BK8.out 1).trans rfl
                      have HO8 := Aside0.mk (Kd.R_below (Kd.R_elderB HO1.out g9 (Nat.le_of_eq G9.out.symm)) HBr8.out)
                      have HB8 := Aside0.mk (below_step HW2.out HBr8.out)
                      clear HO1
                      go_wp2
                      go_quiet ((go_at_call 48; exact Calls.quiet_of ((HM.out _).mono (fun e w' h => ⟨h.1, h.2.out⟩))))
                      go_wp2
                      go_roundg (fit.length - (j + 1))
                      case measure => omega
                      case rel => exact ⟨j + 1, by go_num, by omega, Nat.le_refl _, ⟨by rw [HT.out, if_neg (by rw [HH2.out]; decide), List.append_nil, ← HY.out]; exact Kd.R_drewN (Kd.R_mono HO8.out (fun _ _ => trivial)) _⟩, ⟨pw_below_drewN HB8.out _⟩⟩
                  · obtain rfl : j = fit.length := by omega
                    have c1b : decide ((fit.length : Int) < (fit.length : Int)) = false := decide_eq_false (by omega)
                    have c1c : decide (fit.length < fit.length) = false := decide_eq_false (by omega)
                    obtain ⟨cr, hcr⟩ : ∃ l_, l_ = fit.filter (hintHit pos) := ⟨_, rfl⟩
                    have HR := Aside0.mk (show Kd.R kRule 33 wr W.heap.size (fun _ => True) u7 cr by rw [hcr]; have h_ := HO.out; rw [List.take_length] at h_; exact h_)
                    have H := H'.out
                    rw [← hcr] at H
                    clear hcr HO H'
                    obtain ⟨A7, c7, e7⟩ := Kd.R_slice HR.out
                    subst e7
                    by_cases c4_ : cr.length = 1
                    · rw [if_pos c4_] at H
                      have HFIN := Aside0.mk H
                      have HC4 := Aside0.mk c4_
                      have c4b : ((cr.length : Int) == 1) = true := beq_iff_eq.2 (by omega)
                      clear H c4_
                      go_wp2
                      obtain ⟨ad, e_, hx0, hx1⟩ := at_Rule (Kd.R_reads' HR.out).2.2 (0 : Int) (by omega) (by have := HC4.out; omega)
                      subst e_
                      have HX0 := Aside0.mk (show wr.drew.cell? ad = _ from hx0)
                      have HX1 := Aside0.mk (show wr.drew.cell? ⟨ad.block, ad.off + 1, none⟩ = _ from hx1)
                      have HBS := Aside0.mk (below_drew1 (Below.refl wr.heap.size wr))
                      have BQ := Aside0.mk (blk_drew (blk_below BQ4.out (below_step HBW.out HW2.out)))
                      have hln_ : 0 < cr.length := (by have := HC4.out; omega)
                      clear hx0 hx1
                      refine start_ (n := 8) (S := fun w' => w'.cell? ad = some (.int .i64 (rd_Rule cr 0).f0) ∧ w'.cell? ⟨ad.block, ad.off + 1, none⟩ = some (.int .i64 (rd_Rule cr 0).f1)) (ds := [6]) #[false, false, false, false, false, false, false, false] (by kernel_rfl) rfl rfl ⟨HX0.out, HX1.out⟩ (fun hHeld => ?_)
                      generalize wr.drew = wS at HX0 HX1 HBS BQ hHeld ⊢
                      refine pure_ (i := 0) (N := some 50) (v := ?_) (a' := ?_) #[true, false, false, false, false, false, false, false] rfl rfl (by kernel_rfl) (fun _ _ _ h => h) (Or.inl ⟨by rfl, ?_⟩) ?_ ?_
                      rotate_left
                      · intro w'
                        go_simp
                        with_reducible rfl
                      rotate_left
                      · simp only [Act.put, List.setIfInBounds_toArray, List.set_cons_zero, List.set_cons_succ, i64_w, i32_w]
                        rfl
                      refine pure_ (i := 1) (N := some 51) (v := ?_) (a' := ?_) #[true, true, false, false, false, false, false, false] rfl rfl (by kernel_rfl) (fun _ _ _ h => h) (Or.inl ⟨by rfl, ?_⟩) ?_ ?_
                      rotate_left
                      · intro w'
                        go_simp
                        with_reducible rfl
                      rotate_left
                      · simp only [Act.put, List.setIfInBounds_toArray, List.set_cons_zero, List.set_cons_succ, i64_w, i32_w]
                        rfl
                      refine pure_ (i := 2) (N := some 52) (v := ?_) (a' := ?_) #[true, true, true, false, false, false, false, false] rfl rfl (by kernel_rfl) (fun _ _ _ h => h) (Or.inl ⟨by rfl, ?_⟩) ?_ ?_
                      rotate_left
                      · intro w'
                        go_simp
                        with_reducible rfl
                      rotate_left
                      · simp only [Act.put, List.setIfInBounds_toArray, List.set_cons_zero, List.set_cons_succ, i64_w, i32_w]
                        rfl
                      refine pure_ (i := 3) (N := some 53) (v := ?_) (a' := ?_) #[true, true, true, true, false, false, false, false] rfl rfl (by kernel_rfl) (fun _ _ _ h => h) (Or.inl ⟨by rfl, ?_⟩) ?_ ?_
                      rotate_left
                      · intro w'
                        go_simp
                        with_reducible rfl
                      rotate_left
                      · simp only [Act.put, List.setIfInBounds_toArray, List.set_cons_zero, List.set_cons_succ, i64_w, i32_w]
                        rfl
                      refine pure_ (i := 5) (N := some 2) (v := ?_) (a' := ?_) #[true, true, true, true, false, true, false, false] rfl rfl (by kernel_rfl) (fun _ _ _ h => h) (Or.inl ⟨by rfl, ?_⟩) ?_ ?_
                      rotate_left
                      · intro w'
                        go_simp
                        with_reducible rfl
                      rotate_left
                      · simp only [Act.put, List.setIfInBounds_toArray, List.set_cons_zero, List.set_cons_succ, i64_w, i32_w]
                        rfl
                      refine take_ (i := 4) (N := some 54) (v := ?_) (a' := ?_) #[true, true, true, true, true, true, false, false] rfl rfl (by kernel_rfl) (fun _ _ _ h => h) (Or.inl ⟨by rfl, ?_⟩) hHeld ?_ ?_
                      rotate_left
                      · rintro w' ⟨s0, s1⟩
                        go_simp
                        with_reducible rfl
                      rotate_left
                      · simp only [Act.put, List.setIfInBounds_toArray, List.set_cons_zero, List.set_cons_succ, i64_w, i32_w]
                        rfl
                      refine last_ (i := 6) (N := none) #[true, true, true, true, true, true, true, false] rfl rfl (by kernel_rfl) (by decide) (fun K hK => ?_)
                      have hr0_ : wS.cell? ⟨gQ, 0, none⟩ = some (.int .i64 0) := (blk_cell BQ.out 0).trans rfl
                      have hr1_ : wS.cell? ⟨gQ, 1, none⟩ = some (.int .i64 0) := (blk_cell BQ.out 1).trans rfl
                      have hrf0_ := blk_frozen BQ.out 0
                      have hrf1_ := blk_frozen BQ.out 1
                      refine skip_ (w1 := ?_) (by rfl) rfl ?_ ?_
                      rotate_left
                      · go_simp
                        rfl
                      refine hK.out _ _ ?_
                      clear hK K
                      refine pure_ (i := 7) (N := some 4) (v := ?_) (a' := ?_) #[true, true, true, true, true, true, true, true] rfl rfl (by kernel_rfl) (fun _ _ _ h => h) (Or.inl ⟨by rfl, ?_⟩) ?_ ?_
                      rotate_left
                      · intro w'
                        go_simp
                        with_reducible rfl
                      rotate_left
                      · simp only [Act.put, List.setIfInBounds_toArray, List.set_cons_zero, List.set_cons_succ, i64_w, i32_w]
                        rfl
                      refine done_ (by kernel_rfl) ?_
                      go_wp2
                      refine bodyPost_ret (results_list (rs := [.tmp 2, .cell 3 33, .tmp 4]) rfl (by simp) (.tmp (.cell gQ 33 #[.int .i64 (rd_Rule cr 0).f0, .int .i64 (rd_Rule cr 0).f1] (0, 0) _ rfl (blk_put (cs' := #[.int .i64 (rd_Rule cr 0).f0, .int .i64 (rd_Rule cr 0).f1]) (blk_put (cs' := #[.int .i64 (rd_Rule cr 0).f0, .int .i64 0]) BQ.out 0 _ rfl) 1 _ rfl) Tryz.underlying33 rfl (by kernel_rfl) (.tmp .nil)))) rfl ?_
                      have h_ := HFIN.out
                      simp only [Option.some.injEq, Prod.mk.injEq] at h_
                      obtain ⟨rfl, rfl, rfl, rfl⟩ := h_
                      exact ⟨rfl, below_set (below_set (below_step (below_step (below_step HB4.out HBW.out) HW2.out) HBS.out) k93_) k93_⟩
                    · rw [if_neg c4_] at H
                      have H' := Aside0.mk H
                      have c4b : ((cr.length : Int) == 1) = false := beq_eq_false_iff_ne.2 (by omega)
                      clear H c4_
                      go_wp2
                      go_roundg k1
                      case measure => have := HK.out; omega
                      case rel => exact ⟨pos + 1, blk_below HI.out HW2.out, ⟨below_step HBW.out HW2.out⟩, H', ⟨by have := HK.out; omega⟩⟩
              · rw [if_neg c3_] at H
                exact absurd H (by simp)
            · rw [if_neg c2_] at H
              have c2b : (bt a0_0 pos != 120) = true := bne_iff_ne.2 c2_
              have c2c : (bt a0_0 pos == 120) = false := beq_eq_false_iff_ne.2 c2_
              clear c2_
              have H' := Aside0.mk H
              clear H
              go_wp2
              go_roundg k1
              case measure => have := HK.out; omega
              case rel => exact ⟨pos + 1, HI.out, HBW, H', ⟨by have := HK.out; omega⟩⟩
          · rw [if_neg ha] at H
            exact absurd H (by simp)
        · rw [if_neg hps] at H
          have hnx : ∀ ty, (Instr.next (.pointer (some ⟨w4.heap.size, 0, none⟩)) true ty).run Tryz.prog wr = _ := fun ty => Lib.run_next_end_at wr w4.heap.size a0_0 pos ty hit hps
          simp only [Option.some.injEq, Prod.mk.injEq] at H
          obtain ⟨rfl, rfl, rfl, rfl⟩ := H
          have BQ := Aside0.mk (blk_below BQ4.out HBI.out)
          have HB := Aside0.mk (below_step HB4.out HBI.out)
          have hqz0 : wr.cell? ⟨gQ, 0, none⟩ = some (.int .i64 0) := (blk_cell BQ.out 0).trans rfl
          have hqz1 : wr.cell? ⟨gQ, 1, none⟩ = some (.int .i64 0) := (blk_cell BQ.out 1).trans rfl
          have hqf0 := blk_frozen BQ.out 0
          have hqf1 := blk_frozen BQ.out 1
          go_wp2
          refine bodyPost_ret (results_list (rs := [.tmp 2, .cell 3 33, .tmp 4]) rfl (by simp) (.tmp (.cell gQ 33 #[.int .i64 0, .int .i64 0] (0, 0) _ rfl (blk_put (cs' := #[.int .i64 0, .int .i64 0]) (blk_put (cs' := #[.int .i64 0, .int .i64 0]) BQ.out 0 _ rfl) 1 _ rfl) Tryz.underlying33 rfl (by kernel_rfl) (.tmp .nil)))) rfl ?_
          exact ⟨rfl, below_set (below_set HB.out k93_) k93_⟩
end Go.Proofs.YtbnmajedmajfoaaGreatDoor.P
namespace Go.Proofs.YtbnmajedmajfoaaGreatDoor.P
open Go.RowKit Go.Proofs.YtbnmajedmajfoaaGreatDoorW.PrintWords Go.Proofs.YtbnmajedmajfoaaGreatDoorW.PrintLast Go.Proofs.YtbnmajedmajfoaaGreatDoorW.PrintMore
attribute [local go_sem] max2_int min2_int max_two min_two max_three min_three max_four min_four
set_option linter.unusedVariables false
set_option linter.unusedSimpArgs false
def lays171_ren : Go.Shelf.Ren := ⟨fun | 171 => 76 | 243 => 101 | 246 => 114 | 283 => 127 | 284 => 128 | 285 => 129 | 286 => 130 | 129 => 142 | 317 => 141 | 318 => 143 | 319 => 144 | 320 => 145 | 337 => 150 | 338 => 151 | n => n, fun | 3 => 3 | 9 => 9 | 2 => 2 | 4 => 4 | 171 => 128 | 0 => 0 | 53 => 73 | 37 => 50 | 5 => 5 | 173 => 131 | 212 => 146 | 51 => 147 | 20 => 20 | 213 => 148 | 46 => 113 | 232 => 158 | 233 => 159 | n => n, fun | 17 => 5 | 18 => 6 | 19 => 7 | n => n⟩
theorem lays171 : Go.Proofs.Lays.n171 Tryz.prog lays171_ren := {
  mixed := by kernel_rfl
  f129 := Tryz.func142.trans (congrArg some (by kernel_rfl))
  f171 := Tryz.func76.trans (congrArg some (by kernel_rfl))
  f243 := Tryz.func101.trans (congrArg some (by kernel_rfl))
  f246 := Tryz.func114.trans (congrArg some (by kernel_rfl))
  f283 := Tryz.func127.trans (congrArg some (by kernel_rfl))
  f284 := Tryz.func128.trans (congrArg some (by kernel_rfl))
  f285 := Tryz.func129.trans (congrArg some (by kernel_rfl))
  f286 := Tryz.func130.trans (congrArg some (by kernel_rfl))
  f317 := Tryz.func141.trans (congrArg some (by kernel_rfl))
  f318 := Tryz.func143.trans (congrArg some (by kernel_rfl))
  f319 := Tryz.func144.trans (congrArg some (by kernel_rfl))
  f320 := Tryz.func145.trans (congrArg some (by kernel_rfl))
  f337 := Tryz.func150.trans (congrArg some (by kernel_rfl))
  f338 := Tryz.func151.trans (congrArg some (by kernel_rfl))
  t0 := Tryz.underlying0
  a0 := Tryz.isAgg0
  z0 := Tryz.sizeOf0
  v0 := Tryz.zeroValue0
  t2 := Tryz.underlying2
  a2 := Tryz.isAgg2
  z2 := Tryz.sizeOf2
  v2 := Tryz.zeroValue2
  t3 := Tryz.underlying3
  a3 := Tryz.isAgg3
  z3 := Tryz.sizeOf3
  v3 := Tryz.zeroValue3
  t4 := Tryz.underlying4
  a4 := Tryz.isAgg4
  z4 := Tryz.sizeOf4
  v4 := Tryz.zeroValue4
  t5 := Tryz.underlying5
  a5 := Tryz.isAgg5
  z5 := Tryz.sizeOf5
  v5 := Tryz.zeroValue5
  t9 := Tryz.underlying9
  a9 := Tryz.isAgg9
  z9 := Tryz.sizeOf9
  v9 := Tryz.zeroValue9
  t20 := Tryz.underlying20
  a20 := Tryz.isAgg20
  z20 := Tryz.sizeOf20
  v20 := Tryz.zeroValue20
  t37 := Tryz.underlying50
  a37 := Tryz.isAgg50
  z37 := Tryz.sizeOf50
  v37 := Tryz.zeroValue50
  t46 := Tryz.underlying113
  a46 := Tryz.isAgg113
  z46 := Tryz.sizeOf113
  v46 := Tryz.zeroValue113
  t51 := Tryz.underlying147
  a51 := Tryz.isAgg147
  z51 := Tryz.sizeOf147
  v51 := Tryz.zeroValue147
  t53 := Tryz.underlying73
  a53 := Tryz.isAgg73
  z53 := Tryz.sizeOf73
  v53 := Tryz.zeroValue73
  t171 := Tryz.underlying128
  a171 := Tryz.isAgg128
  z171 := Tryz.sizeOf128
  v171 := Tryz.zeroValue128
  t173 := Tryz.underlying131
  a173 := Tryz.isAgg131
  z173 := Tryz.sizeOf131
  v173 := Tryz.zeroValue131
  t212 := Tryz.underlying146
  a212 := Tryz.isAgg146
  z212 := Tryz.sizeOf146
  v212 := Tryz.zeroValue146
  t213 := Tryz.underlying148
  a213 := Tryz.isAgg148
  z213 := Tryz.sizeOf148
  t232 := Tryz.underlying158
  a232 := Tryz.isAgg158
  z232 := Tryz.sizeOf158
  v232 := Tryz.zeroValue158
  t233 := Tryz.underlying159
  a233 := Tryz.isAgg159
  z233 := Tryz.sizeOf159
  v233 := Tryz.zeroValue159
  g17 := by kernel_rfl
  g18 := by kernel_rfl
  g19 := by kernel_rfl }
def strconv_Itoa.f (a0 : Int) : Option ByteArray := if 0 ≤ a0 ∧ a0 < 100 then some ⟨(Lib.decDigits a0.toNat).toArray⟩ else none
theorem strconv_Itoa.calls (a0 : Int) (r : ByteArray) (w : World) (h : strconv_Itoa.f a0 = some r) :
    Calls Tryz.prog 76 #[.int .i64 a0] w fun e w' => e = .returned (.string r) ∧ Below w.heap.size w w' := by
  unfold strconv_Itoa.f at h
  by_cases hc : 0 ≤ a0 ∧ a0 < 100
  · rw [if_pos hc] at h
    obtain rfl := Option.some.inj h
    obtain ⟨n, rfl⟩ : ∃ n : Nat, a0 = (n : Int) := ⟨a0.toNat, by omega⟩
    rw [Int.toNat_natCast]
    exact (Any.strconv_Itoa_small lays171 n (by omega) w).mono fun e w' ⟨he, hw⟩ => ⟨he, hw ▸ Below.refl _ _⟩
  · rw [if_neg hc] at h
    exact absurd h (by simp)
end Go.Proofs.YtbnmajedmajfoaaGreatDoor.P
namespace Go.Proofs.YtbnmajedmajfoaaGreatDoor.P
open Go.RowKit Go.Proofs.YtbnmajedmajfoaaGreatDoorW.PrintWords Go.Proofs.YtbnmajedmajfoaaGreatDoorW.PrintLast Go.Proofs.YtbnmajedmajfoaaGreatDoorW.PrintMore
attribute [local go_sem] max2_int min2_int max_two min_two max_three min_three max_four min_four
set_option linter.unusedVariables false
set_option linter.unusedSimpArgs false
def impl_puzzleText.f (a0_0 : ByteArray) (a0_1 : Int) : Option (ByteArray) := if a0_0.size + 1 ≤ 9223372036854775807 then ((strconv_Itoa.f a0_1).bind fun t102 => (if (a0_0 ++ (⟨#[58]⟩ : ByteArray)).size + t102.size ≤ 9223372036854775807 then (some ((a0_0 ++ (⟨#[58]⟩ : ByteArray)) ++ t102)) else (none))) else (none)
def impl_puzzleText.T1 : Bool × List (List Nat × List Nat) := (true, [([], []), ([0], [0]), ([1], [1]), ([], []), ([3], [3]), ([4], [4]), ([2, 5], [2, 5]), ([6, 5, 0, 1, 2, 3, 4, 5, 6], [6])])
def impl_puzzleText.B1 : List Nat := [0, 1, 3, 0, 8, 24, 63, 127]
theorem impl_puzzleText.tab1 : rtab .any (opsOf Tryz.f49 1) = impl_puzzleText.T1 := by kernel_rfl
theorem impl_puzzleText.bits1 : waitsOk impl_puzzleText.T1.2 impl_puzzleText.B1 = true := by kernel_rfl
set_option maxHeartbeats 8000000 in
set_option maxRecDepth 100000 in
theorem impl_puzzleText.calls (a0_0 : ByteArray) (a0_1 : Int) (r : ByteArray) (w : World) (h : impl_puzzleText.f a0_0 a0_1 = some r) :
  Calls Tryz.prog 49 #[.agg #[.string a0_0, .int .i64 a0_1]] w fun e w' => e = .returned (.string r) ∧ Below w.heap.size w w' := by
 have hu23 := Tryz.underlying23
 have HB := Aside0.mk (Below.refl w.heap.size w)
 have H : (if a0_0.size + 1 ≤ 9223372036854775807 then ((strconv_Itoa.f a0_1).bind fun t102 => (if (a0_0 ++ (⟨#[58]⟩ : ByteArray)).size + t102.size ≤ 9223372036854775807 then (some ((a0_0 ++ (⟨#[58]⟩ : ByteArray)) ++ t102)) else (none))) else (none)) = some r := h
 clear h
 by_cases c2 : a0_0.size + 1 ≤ 9223372036854775807
 ·rw [if_pos c2] at H
  have c2b0 := eq_true c2
  have c2b1 : decide (a0_0.size + 1 ≤ 9223372036854775807) = true := decide_eq_true c2
  try have c2b2 : (9223372036854775807 < a0_0.size + 1) = False := eq_false (Nat.not_lt.2 c2)
  obtain ⟨t102, A3, H⟩ := obnd_ H
  (try dsimp only at H)
  by_cases c4 : (a0_0 ++ (⟨#[58]⟩ : ByteArray)).size + t102.size ≤ 9223372036854775807
  ·rw [if_pos c4] at H
   have c4b0 := eq_true c4
   have c4b1 : decide ((a0_0 ++ (⟨#[58]⟩ : ByteArray)).size + t102.size ≤ 9223372036854775807) = true := decide_eq_true c4
   try have c4b2 : (9223372036854775807 < (a0_0 ++ (⟨#[58]⟩ : ByteArray)).size + t102.size) = False := eq_false (Nat.not_lt.2 c4)
   have c4b3 : (9223372036854775807 < a0_0.size + 1 + t102.size) = False := by have e_ : (a0_0 ++ (⟨#[58]⟩ : ByteArray)).size = a0_0.size + 1 := (ByteArray.size_append).trans rfl; rw [← e_]; exact c4b2
   obtain rfl := Option.some.inj H
   go_enter Tryz.func49, Tryz.ntmps49
   try go_wp2_with (first | ((with_reducible refine gate_dst (N := 1) rfl ?_); refine box_event ?hg (N := 1) ?hd (cs := #[.string a0_0, .int .i64 a0_1]) (t := 23) ?hr ?_; (case hd => rfl); (case hg => rfl); (case hr => exact k94_); intro gb101 hg w5 hbox hb; have BK101 := Aside0.mk (hbox); have GW101 := Aside0.mk (HB.ge hg); have GE101 := Aside0.mk (HB.ge hg); replace HB := HB.mw hb; clear hb hbox hg))
   replace BK101 := Aside0.mk (blk_drew BK101.out)
   replace HB := Aside0.mk (below_drew1 HB.out)
   refine start_ (n := 8) (S := fun w' => w'.cell? ⟨gb101, 0, none⟩ = some (.string a0_0) ∧ w'.cell? ⟨gb101, 1, none⟩ = some (.int .i64 a0_1)) (ds := []) (rA_ [0, 8]) (by kernel_rfl) rfl rfl ⟨(blk_cell BK101.out 0).trans rfl, (blk_cell BK101.out 1).trans rfl⟩ (fun hHeld => ?_); refine with_tabW impl_puzzleText.tab1 impl_puzzleText.bits1 (fun HT_ HW_ => ?_)
   generalize w5.drew = w6 at BK101 HB hHeld ⊢
   refine pu_ 0 3 [1, 7] ?_
   refine pu_ 3 6 [1, 2, 1, 4] ?_
   refine ta2_ 1 4 [2, 1, 1, 4] ?_
   refine pu_ 2 5 [4, 4] ?_
   refine ta2_ 4 7 [5, 3] ?_
   refine one_ (i := 5) (N := some 8) (rA_ [6, 2]) rfl rfl (one_of HT_.out (by kernel_rfl)) (by decide) (fun K hK => ?_)
   refine goes_ Tryz.func76 (by kernel_rfl) rfl #[.int .i64 a0_1] (by rfl) rfl rfl k59_ ?_
   with_reducible refine (strconv_Itoa.calls a0_1 t102 _ A3.out).mono ?_
   rintro e w7 ⟨rfl, hb⟩
   refine ⟨_, rfl, ?_⟩
   replace BK101 := BK101.mw hb
   replace HB := Aside0.mk (below_step k71_ hb)
   (try clear hb)
   (try clear hb2)
   (try clear hk)
   (try clear hi)
   refine hK.out _ _ ⟨(blk_cell BK101.out 0).trans rfl, (blk_cell BK101.out 1).trans rfl⟩ (fun hHeld => ?_)
   clear hK K
   refine nm_ 8 ?_
   refine pu_ 6 9 [7, 1] ?_
   refine pu_ 7 2 [8] ?_
   refine done_ (done_of HT_.out (by kernel_rfl)) ?_
   try go_wp2
   go_ret
   exact ⟨k70_, k71_⟩
  ·rw [if_neg c4] at H
   exact absurd H (by simp)
 ·rw [if_neg c2] at H
  exact absurd H (by simp)
end Go.Proofs.YtbnmajedmajfoaaGreatDoor.P
namespace Go.Proofs.YtbnmajedmajfoaaGreatDoor.P
open Go.RowKit Go.Proofs.YtbnmajedmajfoaaGreatDoorW.PrintWords Go.Proofs.YtbnmajedmajfoaaGreatDoorW.PrintLast Go.Proofs.YtbnmajedmajfoaaGreatDoorW.PrintMore
attribute [local go_sem] max2_int min2_int max_two min_two max_three min_three max_four min_four
set_option linter.unusedVariables false
set_option linter.unusedSimpArgs false
def impl_PuzzleText.f (a0_0 : ByteArray) (a0_1 : Int) : Option (ByteArray × Bool) := (impl_isPuzzle.f a0_0 a0_1).bind fun t102 => (if t102 = true then ((impl_puzzleText.f a0_0 a0_1).bind fun t103 => (some (t103, true))) else (some ((⟨#[]⟩ : ByteArray), false)))
set_option maxHeartbeats 8000000 in
set_option maxRecDepth 100000 in
theorem impl_PuzzleText.calls (a0_0 : ByteArray) (a0_1 : Int) (r1 : ByteArray) (r2 : Bool) (w : World) (h : impl_PuzzleText.f a0_0 a0_1 = some (r1, r2)) :
  Calls Tryz.prog 17 #[.agg #[.string a0_0, .int .i64 a0_1]] w fun e w' => e = .returned (.tuple #[.string r1, .bool r2]) ∧ Below w.heap.size w w' := by
 have hu23 := Tryz.underlying23
 have HB := Aside0.mk (Below.refl w.heap.size w)
 have H : ((impl_isPuzzle.f a0_0 a0_1).bind fun t102 => (if t102 = true then ((impl_puzzleText.f a0_0 a0_1).bind fun t103 => (some (t103, true))) else (some ((⟨#[]⟩ : ByteArray), false)))) = some (r1, r2) := h
 clear h
 obtain ⟨t102, A2, H⟩ := obnd_ H
 (try dsimp only at H)
 by_cases c3 : t102 = true
 ·subst c3
  rw [if_pos rfl] at H
  obtain ⟨t103, A4, H⟩ := obnd_ H
  (try dsimp only at H)
  simp only [Option.some.injEq, Prod.mk.injEq] at H
  obtain ⟨rfl, rfl⟩ := H
  go_enter Tryz.func17, Tryz.ntmps17
  go_wp2_with (first | ((with_reducible refine gate_dst (N := 1) rfl ?_); refine box_event ?hg (N := 1) ?hd (cs := #[.string a0_0, .int .i64 a0_1]) (t := 23) ?hr ?_; (case hd => rfl); (case hg => rfl); (case hr => exact k94_); intro gb101 hg w5 hbox hb; have BK101 := Aside0.mk (hbox); have GW101 := Aside0.mk (HB.ge hg); have GE101 := Aside0.mk (HB.ge hg); replace HB := HB.mw hb; clear hb hbox hg; have hcz6_0 : w5.cell? ⟨gb101, 0, none⟩ = some (.string a0_0) := (blk_cell BK101.out 0).trans rfl; have hcz6_1 : w5.cell? ⟨gb101, 1, none⟩ = some (.int .i64 a0_1) := (blk_cell BK101.out 1).trans rfl; have hfz6_0 := blk_frozen BK101.out 0; have hfz6_1 := blk_frozen BK101.out 1) | ((with_reducible refine gate_callee (f := 43) rfl ?_); refine goesL_ (some 5) rfl rfl Tryz.func43 (by kernel_rfl) rfl #[.agg #[.string a0_0, .int .i64 a0_1]] rfl k59_ ?_; (with_reducible refine (impl_isPuzzle.calls a0_0 a0_1 true _ A2.out).mono ?_); rintro e w7 ⟨rfl, hb⟩; refine ⟨_, rfl, ?_⟩; replace BK101 := BK101.mw hb; replace HB := Aside0.mk (below_step k71_ hb); (try clear hb); have hcz8_0 : w7.cell? ⟨gb101, 0, none⟩ = some (.string a0_0) := (blk_cell BK101.out 0).trans rfl; have hcz8_1 : w7.cell? ⟨gb101, 1, none⟩ = some (.int .i64 a0_1) := (blk_cell BK101.out 1).trans rfl; have hfz8_0 := blk_frozen BK101.out 0; have hfz8_1 := blk_frozen BK101.out 1) | ((with_reducible refine gate_callee (f := 49) rfl ?_); refine goesL_ (some 8) rfl rfl Tryz.func49 (by kernel_rfl) rfl #[.agg #[.string a0_0, .int .i64 a0_1]] rfl k59_ ?_; (with_reducible refine (impl_puzzleText.calls a0_0 a0_1 t103 _ A4.out).mono ?_); rintro e w9 ⟨rfl, hb⟩; refine ⟨_, rfl, ?_⟩; replace BK101 := BK101.mw hb; replace HB := Aside0.mk (below_step k71_ hb); (try clear hb)))
  go_ret2
  exact ⟨k70_, k71_⟩
 ·replace c3 := Bool.eq_false_iff.mpr c3
  subst c3
  rw [if_neg (show ¬ (false = true) by decide)] at H
  simp only [Option.some.injEq, Prod.mk.injEq] at H
  obtain ⟨rfl, rfl⟩ := H
  go_enter Tryz.func17, Tryz.ntmps17
  go_wp2_with (first | ((with_reducible refine gate_dst (N := 1) rfl ?_); refine box_event ?hg (N := 1) ?hd (cs := #[.string a0_0, .int .i64 a0_1]) (t := 23) ?hr ?_; (case hd => rfl); (case hg => rfl); (case hr => exact k94_); intro gb101 hg w10 hbox hb; have BK101 := Aside0.mk (hbox); have GW101 := Aside0.mk (HB.ge hg); have GE101 := Aside0.mk (HB.ge hg); replace HB := HB.mw hb; clear hb hbox hg; have hcz11_0 : w10.cell? ⟨gb101, 0, none⟩ = some (.string a0_0) := (blk_cell BK101.out 0).trans rfl; have hcz11_1 : w10.cell? ⟨gb101, 1, none⟩ = some (.int .i64 a0_1) := (blk_cell BK101.out 1).trans rfl; have hfz11_0 := blk_frozen BK101.out 0; have hfz11_1 := blk_frozen BK101.out 1) | ((with_reducible refine gate_callee (f := 43) rfl ?_); refine goesL_ (some 5) rfl rfl Tryz.func43 (by kernel_rfl) rfl #[.agg #[.string a0_0, .int .i64 a0_1]] rfl k59_ ?_; (with_reducible refine (impl_isPuzzle.calls a0_0 a0_1 false _ A2.out).mono ?_); rintro e w12 ⟨rfl, hb⟩; refine ⟨_, rfl, ?_⟩; replace BK101 := BK101.mw hb; replace HB := Aside0.mk (below_step k71_ hb); (try clear hb)))
  go_ret2
  exact ⟨k70_, k71_⟩
end Go.Proofs.YtbnmajedmajfoaaGreatDoor.P
namespace Go.Proofs.YtbnmajedmajfoaaGreatDoor.P
open Go.RowKit Go.Proofs.YtbnmajedmajfoaaGreatDoorW.PrintWords Go.Proofs.YtbnmajedmajfoaaGreatDoorW.PrintLast Go.Proofs.YtbnmajedmajfoaaGreatDoorW.PrintMore
attribute [local go_sem] max2_int min2_int max_two min_two max_three min_three max_four min_four
set_option linter.unusedVariables false
set_option linter.unusedSimpArgs false
def spec_l1Num.f : Nat → Int → Option (ByteArray)
 | 0, _ => none
 | k + 1, a0 => if a0 < 10 then (some (strOfNums (([(wrap64 (48 + a0)) % 256] : List Int)))) else ((spec_l1Num.f k (wrap64 (Int.tdiv a0 10))).bind fun t104 => ((some (([(wrap64 (48 + (Int.tmod a0 10))) % 256] : List Int) : List Int)).bind fun y105 => (if t104.size + (strOfNums y105).size ≤ 9223372036854775807 then (some (t104 ++ (strOfNums y105))) else (none))))
def spec_l1Num.T3 : Bool × List (List Nat × List Nat) := (true, [([], []), ([0], [0]), ([1], [1]), ([], []), ([3], [3]), ([4], [4]), ([5], [5]), ([6], [6]), ([7], [7]), ([2, 8], [2, 8]), ([9, 2, 0, 1, 2, 3, 4, 5, 6, 7, 8, 9], [9])])
def spec_l1Num.B3 : List Nat := [0, 1, 3, 0, 8, 24, 56, 120, 248, 511, 1023]
theorem spec_l1Num.tab3 : rtab .any (opsOf Tryz.f50 3) = spec_l1Num.T3 := by kernel_rfl
theorem spec_l1Num.bits3 : waitsOk spec_l1Num.T3.2 spec_l1Num.B3 = true := by kernel_rfl
set_option maxHeartbeats 8000000 in
set_option maxRecDepth 100000 in
theorem spec_l1Num.calls (k : Nat) : ∀ (a0 : Int) (r : ByteArray) (w : World) (h : spec_l1Num.f k a0 = some r),
  Calls Tryz.prog 50 #[.int .i64 a0] w fun e w' => e = .returned (.string r) ∧ Below w.heap.size w w' := by
 induction k using Nat.strongRecOn with
 | _ k ih =>
 intro a0 r w h
 cases k with
 | zero => exact absurd h (by simp [spec_l1Num.f])
 | succ k =>
 simp only [spec_l1Num.f] at h
 have HB := Aside0.mk (Below.refl w.heap.size w)
 have H : (if a0 < 10 then (some (strOfNums (([(wrap64 (48 + a0)) % 256] : List Int)))) else ((spec_l1Num.f k (wrap64 (Int.tdiv a0 10))).bind fun t104 => ((some (([(wrap64 (48 + (Int.tmod a0 10))) % 256] : List Int) : List Int)).bind fun y105 => (if t104.size + (strOfNums y105).size ≤ 9223372036854775807 then (some (t104 ++ (strOfNums y105))) else (none))))) = some r := h
 clear h
 by_cases c2 : a0 < 10
 ·rw [if_pos c2] at H
  have c2b0 : decide (a0 < 10) = true := decide_eq_true c2
  clear c2
  obtain ⟨y101, hy_⟩ : ∃ y_ : List Int, y_ = (([(wrap64 (48 + a0)) % 256] : List Int)) := ⟨_, rfl⟩
  replace H : (some (strOfNums y101)) = some r := k35_
  have Ny101 := Aside0.mk hy_
  clear hy_
  obtain rfl := Option.some.inj H
  go_enter Tryz.func50, Tryz.ntmps50
  go_wp2_with (first | ((with_reducible refine gate_dst (N := 8) rfl ?_); refine Kd.R_lit (Kd.int .u8) _ 5 ?hg (N := 8) ?hd (xs := ([(wrap64 (48 + a0)) % 256] : List Int)) (inner := [.int .u8 ((wrap64 (48 + a0)) % 256)]) (ok := fun _ => True) (okp := fun _ => True) ?hr ?hp (fun _ hk => hk) trivial (Below.refl _ _) (Nat.le_refl _) (by simp) ?_; (case hd => rfl); (case hg => rfl); (case hr => exact k94_); (case hp => exact (Reps.one (show Kd.M (Kd.int .u8) _ _ _ ((wrap64 (48 + a0)) % 256) [.int .u8 ((wrap64 (48 + a0)) % 256)] from rfl) (Reps.none _ _))); intro v102 w3 ho4 hb hg_ hnew_; clear hg_ hnew_; (first | rw [← Ny101.out] at ho4 | (simp only [Int.reduceToNat] at ho4; rw [← Ny101.out] at ho4)); have HO103 := Aside0.mk (Kd.R_lower ho4 (below_size k74_)); replace HB := HB.mw hb; clear hb ho4; have hcv5 := own_string (P := Tryz.prog) Tryz.underlying50 Tryz.underlying5 Tryz.underlying9 (Kd.own_of_R HO103.out)))
  go_ret
  exact ⟨k70_, k74_⟩
 ·rw [if_neg c2] at H
  have c2b0 : decide (a0 < 10) = false := decide_eq_false c2
  clear c2
  obtain ⟨t104, A6, H⟩ := obnd_ H
  (try dsimp only at H)
  obtain ⟨y105, hy_⟩ : ∃ y_ : List Int, y_ = (([(wrap64 (48 + (Int.tmod a0 10))) % 256] : List Int)) := ⟨_, rfl⟩
  replace H : (if t104.size + (strOfNums y105).size ≤ 9223372036854775807 then (some (t104 ++ (strOfNums y105))) else (none)) = some r := k35_
  have Ny105 := Aside0.mk hy_
  clear hy_
  by_cases c7 : t104.size + (strOfNums y105).size ≤ 9223372036854775807
  ·rw [if_pos c7] at H
   have c7b0 := eq_true c7
   have c7b1 : decide (t104.size + (strOfNums y105).size ≤ 9223372036854775807) = true := decide_eq_true c7
   try have c7b2 : (9223372036854775807 < t104.size + (strOfNums y105).size) = False := eq_false (Nat.not_lt.2 c7)
   obtain rfl := Option.some.inj H
   go_enter Tryz.func50, Tryz.ntmps50
   try go_wp2
   replace HB := Aside0.mk (below_drew1 HB.out)
   refine start_ (n := 11) (S := fun w' => True) (ds := []) (rA_ [0, 11]) (by kernel_rfl) rfl rfl trivial (fun hHeld => ?_); refine with_tabW spec_l1Num.tab3 spec_l1Num.bits3 (fun HT_ HW_ => ?_)
   generalize w.drew = w8 at HB hHeld ⊢
   refine pu_ 0 10 [1, 10] ?_
   refine pu_ 1 11 [2, 9] ?_
   refine pu_ 3 13 [2, 1, 1, 7] ?_
   refine pu_ 4 14 [2, 1, 2, 6] ?_
   refine pu_ 5 15 [2, 1, 3, 5] ?_
   refine pu_ 6 16 [2, 1, 4, 4] ?_
   refine join_ (σ := Value) 2 (rA_ [9, 2]) (fun s_ => [(12, .string t104), (17, s_), (18, .string (strOfNums y105))]) (fun s_ w' => (Kd.R (Kd.int .u8) 5 w' w.heap.size (fun _ => True) s_ y105) ∧ (Below w.heap.size w w')) ?_ ?_
   rotate_left
   ·intro hCont
    refine two_ (i := 2) (j := 7) (Ni := some 12) (Nj := some 17) (rA_ [7, 4]) (rA_ [2, 1, 5, 3]) rfl rfl rfl rfl (two_of HT_.out (by kernel_rfl)) (by decide) (by decide) (fun K hK => ?_) (fun K hK => ?_)
    ·skip
     refine goes_ Tryz.func50 (by kernel_rfl) rfl #[.int .i64 (wrap64 (Int.tdiv a0 10))] (by rfl) rfl rfl k59_ ?_
     with_reducible refine (ih k (by omega) (wrap64 (Int.tdiv a0 10)) t104 _ A6.out).mono ?_
     rintro e w9 ⟨rfl, hb⟩
     refine ⟨_, rfl, ?_⟩
     replace HB := HB.mw hb
     (try clear hb)
     (try clear hb2)
     (try clear hk)
     (try clear hi)
     refine hK.out _ _ trivial (fun hHeld => ?_)
     clear hK K
     refine nm_ 12 ?_
     refine one_ (i := 7) (N := some 17) (rA_ [8, 3]) rfl rfl (one_of HT_.out (by kernel_rfl)) (by decide) (fun K hK => ?_)
     refine Kd.R_lit_step (Kd.int .u8) _ 5 ?hg (N := 17) ?hd (xs := ([(wrap64 (48 + (Int.tmod a0 10))) % 256] : List Int)) (inner := [.int .u8 ((wrap64 (48 + (Int.tmod a0 10))) % 256)]) (ok := fun _ => True) (okp := fun _ => True) ?hr ?hp (fun _ hk => hk) trivial (Below.refl _ _) (Nat.le_refl _) (by simp) ?_; (case hd => rfl); (case hg => rfl); (case hr => exact k94_); (case hp => exact (Reps.one (show Kd.M (Kd.int .u8) _ _ _ ((wrap64 (48 + (Int.tmod a0 10))) % 256) [.int .u8 ((wrap64 (48 + (Int.tmod a0 10))) % 256)] from rfl) (Reps.none _ _)))
     intro v106 w10 ho11 hb hg_ hnew_
     clear hg_ hnew_
     (first | rw [← Ny105.out] at ho11 | (simp only [Int.reduceToNat] at ho11; rw [← Ny105.out] at ho11))
     have HO107 := Aside0.mk (Kd.R_lower ho11 (below_size k74_))
     replace HB := HB.mw hb
     clear hb ho11
     refine hK.out _ _ trivial (fun hHeld => ?_)
     clear hK K
     refine nm_ 17 ?_
     refine one_ (i := 8) (N := some 18) (rA_ [9, 2]) rfl rfl (one_of HT_.out (by kernel_rfl)) (by decide) (fun K hK => ?_)
     have hcv12 := own_string (P := Tryz.prog) Tryz.underlying50 Tryz.underlying5 Tryz.underlying9 (Kd.own_of_R HO107.out)
     refine value_ (w1 := ?_) (v := ?_) (by rfl) rfl ?_ ?_
     rotate_left 2
     ·go_simp
      constructor
      ·rfl
      ·rfl
     clear hcv12
     refine hK.out _ _ trivial (fun hHeld => ?_)
     clear hK K
     refine nm_ 18 ?_
     exact norm_ k69_ (hCont (v106) _ ⟨(by apply_rules only [HO107.out, Kd.R_alloc, Kd.R_drewN, Kd.R_drew]), k74_⟩)
    ·skip
     refine Kd.R_lit_step (Kd.int .u8) _ 5 ?hg (N := 17) ?hd (xs := ([(wrap64 (48 + (Int.tmod a0 10))) % 256] : List Int)) (inner := [.int .u8 ((wrap64 (48 + (Int.tmod a0 10))) % 256)]) (ok := fun _ => True) (okp := fun _ => True) ?hr ?hp (fun _ hk => hk) trivial (Below.refl _ _) (Nat.le_refl _) (by simp) ?_; (case hd => rfl); (case hg => rfl); (case hr => exact k94_); (case hp => exact (Reps.one (show Kd.M (Kd.int .u8) _ _ _ ((wrap64 (48 + (Int.tmod a0 10))) % 256) [.int .u8 ((wrap64 (48 + (Int.tmod a0 10))) % 256)] from rfl) (Reps.none _ _)))
     intro v106 w9 ho10 hb hg_ hnew_
     clear hg_ hnew_
     (first | rw [← Ny105.out] at ho10 | (simp only [Int.reduceToNat] at ho10; rw [← Ny105.out] at ho10))
     have HO107 := Aside0.mk (Kd.R_lower ho10 (below_size k74_))
     replace HB := HB.mw hb
     clear hb ho10
     refine hK.out _ _ trivial (fun hHeld => ?_)
     clear hK K
     refine nm_ 17 ?_
     refine two_ (i := 2) (j := 8) (Ni := some 12) (Nj := some 18) (rA_ [8, 3]) (rA_ [2, 1, 6, 2]) rfl rfl rfl rfl (two_of HT_.out (by kernel_rfl)) (by decide) (by decide) (fun K hK => ?_) (fun K hK => ?_)
     ·skip
      refine goes_ Tryz.func50 (by kernel_rfl) rfl #[.int .i64 (wrap64 (Int.tdiv a0 10))] (by rfl) rfl rfl k59_ ?_
      with_reducible refine (ih k (by omega) (wrap64 (Int.tdiv a0 10)) t104 _ A6.out).mono ?_
      rintro e w11 ⟨rfl, hb⟩
      refine ⟨_, rfl, ?_⟩
      replace HO107 := HO107.mw hb
      replace HB := HB.mw hb
      (try clear hb)
      (try clear hb2)
      (try clear hk)
      (try clear hi)
      refine hK.out _ _ trivial (fun hHeld => ?_)
      clear hK K
      refine nm_ 12 ?_
      refine one_ (i := 8) (N := some 18) (rA_ [9, 2]) rfl rfl (one_of HT_.out (by kernel_rfl)) (by decide) (fun K hK => ?_)
      have hcv12 := own_string (P := Tryz.prog) Tryz.underlying50 Tryz.underlying5 Tryz.underlying9 (Kd.own_of_R HO107.out)
      refine value_ (w1 := ?_) (v := ?_) (by rfl) rfl ?_ ?_
      rotate_left 2
      ·go_simp
       constructor
       ·rfl
       ·rfl
      clear hcv12
      refine hK.out _ _ trivial (fun hHeld => ?_)
      clear hK K
      refine nm_ 18 ?_
      exact norm_ k69_ (hCont (v106) _ ⟨(by apply_rules only [HO107.out, Kd.R_alloc, Kd.R_drewN, Kd.R_drew]), k74_⟩)
     ·skip
      have hcv11 := own_string (P := Tryz.prog) Tryz.underlying50 Tryz.underlying5 Tryz.underlying9 (Kd.own_of_R HO107.out)
      refine value_ (w1 := ?_) (v := ?_) (by rfl) rfl ?_ ?_
      rotate_left 2
      ·go_simp
       constructor
       ·rfl
       ·rfl
      clear hcv11
      refine hK.out _ _ trivial (fun hHeld => ?_)
      clear hK K
      refine nm_ 18 ?_
      refine one_ (i := 2) (N := some 12) (rA_ [9, 2]) rfl rfl (one_of HT_.out (by kernel_rfl)) (by decide) (fun K hK => ?_)
      refine goes_ Tryz.func50 (by kernel_rfl) rfl #[.int .i64 (wrap64 (Int.tdiv a0 10))] (by rfl) rfl rfl k59_ ?_
      with_reducible refine (ih k (by omega) (wrap64 (Int.tdiv a0 10)) t104 _ A6.out).mono ?_
      rintro e w12 ⟨rfl, hb⟩
      refine ⟨_, rfl, ?_⟩
      replace HO107 := HO107.mw hb
      replace HB := HB.mw hb
      (try clear hb)
      (try clear hb2)
      (try clear hk)
      (try clear hi)
      refine hK.out _ _ trivial (fun hHeld => ?_)
      clear hK K
      refine nm_ 12 ?_
      exact norm_ k69_ (hCont (v106) _ ⟨(by apply_rules only [HO107.out, Kd.R_alloc, Kd.R_drewN, Kd.R_drew]), k74_⟩)
   rintro v106 w13 ⟨h0_, h1_⟩
   have n0_ : Aside0 (Kd.R (Kd.int .u8) 5 w13 w.heap.size (fun _ => True) v106 y105) := ⟨h0_⟩
   have n1_ : Aside0 (Below w.heap.size w w13) := ⟨h1_⟩
   clear HB
   clear h0_ h1_
   have HO107 := n0_
   have HB := n1_
   clear n0_ n1_
   have hHeld := trivial
   refine norm_ (a' := ?_) ?_ ?_
   rotate_left
   ·simp only [putAll, Act.put, List.setIfInBounds_toArray, List.set_cons_zero, List.set_cons_succ]
    rfl
   refine pu_ 9 19 [10, 1] ?_
   refine pu_ 10 2 [11] ?_
   refine done_ (done_of HT_.out (by kernel_rfl)) ?_
   try go_wp2
   go_ret
   exact ⟨k70_, k74_⟩
  ·rw [if_neg c7] at H
   exact absurd H (by simp)
end Go.Proofs.YtbnmajedmajfoaaGreatDoor.P
namespace Go.Proofs.YtbnmajedmajfoaaGreatDoor.P
open Go.RowKit Go.Proofs.YtbnmajedmajfoaaGreatDoorW.PrintWords Go.Proofs.YtbnmajedmajfoaaGreatDoorW.PrintLast Go.Proofs.YtbnmajedmajfoaaGreatDoorW.PrintMore
attribute [local go_sem] max2_int min2_int max_two min_two max_three min_three max_four min_four
set_option linter.unusedVariables false
set_option linter.unusedSimpArgs false
def spec_PuzzleText.f (k : Nat) (a0_0 : ByteArray) (a0_1 : Int) : Option (ByteArray × Bool) := (spec_pzGood.f k a0_0 a0_1).bind fun t102 => (if t102 = true then (if a0_0.size + 1 ≤ 9223372036854775807 then ((spec_l1Num.f k a0_1).bind fun t103 => (if (a0_0 ++ (⟨#[58]⟩ : ByteArray)).size + t103.size ≤ 9223372036854775807 then (some ((a0_0 ++ (⟨#[58]⟩ : ByteArray)) ++ t103, true)) else (none))) else (none)) else (some ((⟨#[]⟩ : ByteArray), false)))
def spec_PuzzleText.T3 : Bool × List (List Nat × List Nat) := (true, [([], []), ([0], [0]), ([1], [1]), ([], []), ([3], [3]), ([4], [4]), ([2, 5], [2, 5]), ([6, 5, 0, 1, 2, 3, 4, 5, 6], [6]), ([7, 0, 1, 2, 3, 4, 5, 6, 7], [])])
def spec_PuzzleText.B3 : List Nat := [0, 1, 3, 0, 8, 24, 63, 127, 255]
theorem spec_PuzzleText.tab3 : rtab .any (opsOf Tryz.f18 3) = spec_PuzzleText.T3 := by kernel_rfl
theorem spec_PuzzleText.bits3 : waitsOk spec_PuzzleText.T3.2 spec_PuzzleText.B3 = true := by kernel_rfl
set_option maxHeartbeats 8000000 in
set_option maxRecDepth 100000 in
theorem spec_PuzzleText.calls (k : Nat) (a0_0 : ByteArray) (a0_1 : Int) (r1 : ByteArray) (r2 : Bool) (w : World) (h : spec_PuzzleText.f k a0_0 a0_1 = some (r1, r2)) :
  Calls Tryz.prog 18 #[.agg #[.string a0_0, .int .i64 a0_1]] w fun e w' => e = .returned (.tuple #[.string r1, .bool r2]) ∧ Below w.heap.size w w' := by
 have hu23 := Tryz.underlying23
 have HB := Aside0.mk (Below.refl w.heap.size w)
 have H : ((spec_pzGood.f k a0_0 a0_1).bind fun t102 => (if t102 = true then (if a0_0.size + 1 ≤ 9223372036854775807 then ((spec_l1Num.f k a0_1).bind fun t103 => (if (a0_0 ++ (⟨#[58]⟩ : ByteArray)).size + t103.size ≤ 9223372036854775807 then (some ((a0_0 ++ (⟨#[58]⟩ : ByteArray)) ++ t103, true)) else (none))) else (none)) else (some ((⟨#[]⟩ : ByteArray), false)))) = some (r1, r2) := h
 clear h
 obtain ⟨t102, A2, H⟩ := obnd_ H
 (try dsimp only at H)
 by_cases c3 : t102 = true
 ·subst c3
  rw [if_pos rfl] at H
  by_cases c4 : a0_0.size + 1 ≤ 9223372036854775807
  ·rw [if_pos c4] at H
   have c4b0 := eq_true c4
   have c4b1 : decide (a0_0.size + 1 ≤ 9223372036854775807) = true := decide_eq_true c4
   try have c4b2 : (9223372036854775807 < a0_0.size + 1) = False := eq_false (Nat.not_lt.2 c4)
   obtain ⟨t103, A5, H⟩ := obnd_ H
   (try dsimp only at H)
   by_cases c6 : (a0_0 ++ (⟨#[58]⟩ : ByteArray)).size + t103.size ≤ 9223372036854775807
   ·rw [if_pos c6] at H
    have c6b0 := eq_true c6
    have c6b1 : decide ((a0_0 ++ (⟨#[58]⟩ : ByteArray)).size + t103.size ≤ 9223372036854775807) = true := decide_eq_true c6
    try have c6b2 : (9223372036854775807 < (a0_0 ++ (⟨#[58]⟩ : ByteArray)).size + t103.size) = False := eq_false (Nat.not_lt.2 c6)
    have c6b3 : (9223372036854775807 < a0_0.size + 1 + t103.size) = False := by have e_ : (a0_0 ++ (⟨#[58]⟩ : ByteArray)).size = a0_0.size + 1 := (ByteArray.size_append).trans rfl; rw [← e_]; exact c6b2
    simp only [Option.some.injEq, Prod.mk.injEq] at H
    obtain ⟨rfl, rfl⟩ := H
    go_enter Tryz.func18, Tryz.ntmps18
    try go_wp2_with (first | ((with_reducible refine gate_dst (N := 1) rfl ?_); refine box_event ?hg (N := 1) ?hd (cs := #[.string a0_0, .int .i64 a0_1]) (t := 23) ?hr ?_; (case hd => rfl); (case hg => rfl); (case hr => exact k94_); intro gb101 hg w7 hbox hb; have BK101 := Aside0.mk (hbox); have GW101 := Aside0.mk (HB.ge hg); have GE101 := Aside0.mk (HB.ge hg); replace HB := HB.mw hb; clear hb hbox hg; have hcz8_0 : w7.cell? ⟨gb101, 0, none⟩ = some (.string a0_0) := (blk_cell BK101.out 0).trans rfl; have hcz8_1 : w7.cell? ⟨gb101, 1, none⟩ = some (.int .i64 a0_1) := (blk_cell BK101.out 1).trans rfl; have hfz8_0 := blk_frozen BK101.out 0; have hfz8_1 := blk_frozen BK101.out 1) | ((with_reducible refine gate_callee (f := 45) rfl ?_); refine goesL_ (some 5) rfl rfl Tryz.func45 (by kernel_rfl) rfl #[.agg #[.string a0_0, .int .i64 a0_1]] rfl k59_ ?_; (with_reducible refine (spec_pzGood.calls k a0_0 a0_1 true _ A2.out).mono ?_); rintro e w9 ⟨rfl, hb⟩; refine ⟨_, rfl, ?_⟩; replace BK101 := BK101.mw hb; replace HB := Aside0.mk (below_step k71_ hb); (try clear hb)))
    replace BK101 := Aside0.mk (blk_drew BK101.out)
    replace HB := Aside0.mk (below_drew1 HB.out)
    refine start_ (n := 9) (S := fun w' => w'.cell? ⟨gb101, 0, none⟩ = some (.string a0_0) ∧ w'.cell? ⟨gb101, 1, none⟩ = some (.int .i64 a0_1)) (ds := []) (rA_ [0, 9]) (by kernel_rfl) rfl rfl ⟨(blk_cell BK101.out 0).trans rfl, (blk_cell BK101.out 1).trans rfl⟩ (fun hHeld => ?_); refine with_tabW spec_PuzzleText.tab3 spec_PuzzleText.bits3 (fun HT_ HW_ => ?_)
    generalize w9.drew = w10 at BK101 HB hHeld ⊢
    refine pu_ 0 7 [1, 8] ?_
    refine pu_ 3 10 [1, 2, 1, 5] ?_
    refine ta2_ 1 8 [2, 1, 1, 5] ?_
    refine pu_ 2 9 [4, 5] ?_
    refine ta2_ 4 11 [5, 4] ?_
    refine one_ (i := 5) (N := some 12) (rA_ [6, 3]) rfl rfl (one_of HT_.out (by kernel_rfl)) (by decide) (fun K hK => ?_)
    refine goes_ Tryz.func50 (by kernel_rfl) rfl #[.int .i64 a0_1] (by rfl) rfl rfl k59_ ?_
    with_reducible refine (spec_l1Num.calls k a0_1 t103 _ A5.out).mono ?_
    rintro e w11 ⟨rfl, hb⟩
    refine ⟨_, rfl, ?_⟩
    replace BK101 := BK101.mw hb
    replace HB := Aside0.mk (below_step k71_ hb)
    (try clear hb)
    (try clear hb2)
    (try clear hk)
    (try clear hi)
    refine hK.out _ _ ⟨(blk_cell BK101.out 0).trans rfl, (blk_cell BK101.out 1).trans rfl⟩ (fun hHeld => ?_)
    clear hK K
    refine nm_ 12 ?_
    refine pu_ 6 13 [7, 2] ?_
    refine pu_ 7 2 [8, 1] ?_
    refine pu_ 8 3 [9] ?_
    refine done_ (done_of HT_.out (by kernel_rfl)) ?_
    try go_wp2
    go_ret2
    exact ⟨k70_, k71_⟩
   ·rw [if_neg c6] at H
    exact absurd H (by simp)
  ·rw [if_neg c4] at H
   exact absurd H (by simp)
 ·replace c3 := Bool.eq_false_iff.mpr c3
  subst c3
  rw [if_neg (show ¬ (false = true) by decide)] at H
  simp only [Option.some.injEq, Prod.mk.injEq] at H
  obtain ⟨rfl, rfl⟩ := H
  go_enter Tryz.func18, Tryz.ntmps18
  go_wp2_with (first | ((with_reducible refine gate_dst (N := 1) rfl ?_); refine box_event ?hg (N := 1) ?hd (cs := #[.string a0_0, .int .i64 a0_1]) (t := 23) ?hr ?_; (case hd => rfl); (case hg => rfl); (case hr => exact k94_); intro gb101 hg w12 hbox hb; have BK101 := Aside0.mk (hbox); have GW101 := Aside0.mk (HB.ge hg); have GE101 := Aside0.mk (HB.ge hg); replace HB := HB.mw hb; clear hb hbox hg; have hcz13_0 : w12.cell? ⟨gb101, 0, none⟩ = some (.string a0_0) := (blk_cell BK101.out 0).trans rfl; have hcz13_1 : w12.cell? ⟨gb101, 1, none⟩ = some (.int .i64 a0_1) := (blk_cell BK101.out 1).trans rfl; have hfz13_0 := blk_frozen BK101.out 0; have hfz13_1 := blk_frozen BK101.out 1) | ((with_reducible refine gate_callee (f := 45) rfl ?_); refine goesL_ (some 5) rfl rfl Tryz.func45 (by kernel_rfl) rfl #[.agg #[.string a0_0, .int .i64 a0_1]] rfl k59_ ?_; (with_reducible refine (spec_pzGood.calls k a0_0 a0_1 false _ A2.out).mono ?_); rintro e w14 ⟨rfl, hb⟩; refine ⟨_, rfl, ?_⟩; replace BK101 := BK101.mw hb; replace HB := Aside0.mk (below_step k71_ hb); (try clear hb)))
  go_ret2
  exact ⟨k70_, k71_⟩
end Go.Proofs.YtbnmajedmajfoaaGreatDoor.P
namespace Go.Proofs.YtbnmajedmajfoaaGreatDoor.P
open Go.RowKit Go.Proofs.YtbnmajedmajfoaaGreatDoorW.PrintWords Go.Proofs.YtbnmajedmajfoaaGreatDoorW.PrintLast Go.Proofs.YtbnmajedmajfoaaGreatDoorW.PrintMore
attribute [local go_sem] max2_int min2_int max_two min_two max_three min_three max_four min_four
set_option linter.unusedVariables false
set_option linter.unusedSimpArgs false
attribute [local go_sem high] eqA33
def laws_gRules.l0 : Nat → List (SRule) → List (SRule) → Int → Int → Option (Bool)
 | 0, _, _, _, _ => none
 | k + 1, x0, x1, x12, x13 => if x13 < x12 then (if 0 ≤ x13 then (if x13 < (x0.length : Int) then (if x13 < (x1.length : Int) then (if (!(((rd_Rule x0 x13).f0) == ((rd_Rule x1 x13).f0)) || (!(((rd_Rule x0 x13).f1) == ((rd_Rule x1 x13).f1)))) = true then (some false) else (laws_gRules.l0 k x0 x1 x12 (wrap64 (x13 + 1)))) else (none)) else (none)) else (none)) else (some true)
def laws_gRules.f (k : Nat) (l0 : List (SRule)) (l1 : List (SRule)) : Option (Bool) := if (l0.length : Int) = (l1.length : Int) then (laws_gRules.l0 k l0 l1 (l0.length : Int) 0) else (some false)
set_option maxHeartbeats 8000000 in
set_option maxRecDepth 100000 in
theorem laws_gRules.calls (k : Nat) (A0 : Option Addr) (c0 : Nat) (l0 : List (SRule)) (A1 : Option Addr) (c1 : Nat) (l1 : List (SRule)) (r : Bool) (w : World) (hr0 : Kd.C kRule w A0 l0.length l0) (hc0 : l0.length ≤ c0) (hr1 : Kd.C kRule w A1 l1.length l1) (hc1 : l1.length ≤ c1) (h : laws_gRules.f k l0 l1 = some r) :
  Calls Tryz.prog 20 #[.slice A0 l0.length c0, .slice A1 l1.length c1] w fun e w' => e = .returned (.bool r) ∧ Drawn0 w w' := by
 have hu33 := Tryz.underlying33
 have HR0 := Aside0.mk hr0
 have HC0 := Aside0.mk hc0
 clear hr0 hc0
 have HR1 := Aside0.mk hr1
 have HC1 := Aside0.mk hc1
 clear hr1 hc1
 have H : (if (l0.length : Int) = (l1.length : Int) then (laws_gRules.l0 k l0 l1 (l0.length : Int) 0) else (some false)) = some r := h
 clear h
 by_cases c3 : (l0.length : Int) = (l1.length : Int)
 ·rw [if_pos c3] at H
  have c3b0 : ((l0.length : Int) == (l1.length : Int)) = true := beq_iff_eq.mpr c3
  have c3b1 : ((l0.length : Int) != (l1.length : Int)) = false := bne_eq_false_iff_eq.mpr c3
  have c3b2 : (l0.length == l1.length) = true := by first | simpa using c3 | (simp at c3 ⊢; omega)
  clear c3
  have H' := Aside0.mk H
  clear H
  go_enter Tryz.func20, Tryz.ntmps20
  go_wp2
  repeat (go_quiet (fail); try go_wp2)
  go_loopg [13] k (fun kq v13 w' => ∃ (x13_1 : Int), v13 = .int .i64 x13_1 ∧ Aside0 (laws_gRules.l0 kq l0 l1 (l0.length : Int) x13_1 = some r) ∧ Aside0 (kq ≤ k) ∧ Drawn0 w w')
  case atStart => exact ⟨(0), k92_, H', ⟨Nat.le_refl _⟩, k90_⟩
  case round =>
   clear H'
   (try clear c3); (try clear c3b0); (try clear c3b1); (try clear c3b2)
   obtain ⟨x13_1, rfl, HA, HK1, ⟨m1, rfl⟩⟩ := hrel
   cases gk with
   | zero => exact absurd HA.out (by simp [laws_gRules.l0])
   | succ k1 =>
    have H := HA.out
    clear HA
    simp only [laws_gRules.l0] at H
    by_cases c4 : x13_1 < (l0.length : Int)
    ·rw [if_pos c4] at H
     have c4b0 : decide (x13_1 < (l0.length : Int)) = true := decide_eq_true c4
     clear c4
     by_cases c5 : 0 ≤ x13_1
     ·rw [if_pos c5] at H
      have c5b0 : decide (0 ≤ x13_1) = true := decide_eq_true c5
      clear c5
      by_cases c6 : x13_1 < (l0.length : Int)
      ·rw [if_pos c6] at H
       have c6b0 : decide (x13_1 < (l0.length : Int)) = true := decide_eq_true c6
       clear c6
       by_cases c7 : x13_1 < (l1.length : Int)
       ·rw [if_pos c7] at H
        have c7b0 : decide (x13_1 < (l1.length : Int)) = true := decide_eq_true c7
        clear c7
        by_cases c8 : (!(((rd_Rule l0 x13_1).f0) == ((rd_Rule l1 x13_1).f0)) || (!(((rd_Rule l0 x13_1).f1) == ((rd_Rule l1 x13_1).f1)))) = true
        ·rw [if_pos c8] at H
         have c8b0 : (!(((rd_Rule l0 x13_1).f0) == ((rd_Rule l1 x13_1).f0)) || (!(((rd_Rule l0 x13_1).f1) == ((rd_Rule l1 x13_1).f1)))) = true := c8
         clear c8
         obtain rfl := Option.some.inj H
         have p101 : 0 ≤ (x13_1 : Int) := of_decide_eq_true k91_
         have q101 : x13_1 < (l0.length : Int) := of_decide_eq_true k91_
         obtain ⟨ad101, e101, hx101_0, hx101_1⟩ := at_Rule HR0.out x13_1 p101 q101
         cases e101
         replace p101 := eq_true p101
         replace q101 := eq_true q101
         have p102 : 0 ≤ (x13_1 : Int) := of_decide_eq_true k91_
         have q102 : x13_1 < (l1.length : Int) := of_decide_eq_true k91_
         obtain ⟨ad102, e102, hx102_0, hx102_1⟩ := at_Rule HR1.out x13_1 p102 q102
         cases e102
         replace p102 := eq_true p102
         replace q102 := eq_true q102
         go_wp2
         repeat (go_quiet (fail); try go_wp2)
         go_ret
         exact ⟨k92_, k90_⟩
        ·rw [if_neg c8] at H
         have c8b0 : (!(((rd_Rule l0 x13_1).f0) == ((rd_Rule l1 x13_1).f0)) || (!(((rd_Rule l0 x13_1).f1) == ((rd_Rule l1 x13_1).f1)))) = false := by simpa using c8
         clear c8
         have H' := Aside0.mk H
         clear H
         have p101 : 0 ≤ (x13_1 : Int) := of_decide_eq_true k91_
         have q101 : x13_1 < (l0.length : Int) := of_decide_eq_true k91_
         obtain ⟨ad101, e101, hx101_0, hx101_1⟩ := at_Rule HR0.out x13_1 p101 q101
         cases e101
         replace p101 := eq_true p101
         replace q101 := eq_true q101
         have p102 : 0 ≤ (x13_1 : Int) := of_decide_eq_true k91_
         have q102 : x13_1 < (l1.length : Int) := of_decide_eq_true k91_
         obtain ⟨ad102, e102, hx102_0, hx102_1⟩ := at_Rule HR1.out x13_1 p102 q102
         cases e102
         replace p102 := eq_true p102
         replace q102 := eq_true q102
         go_wp2
         repeat (go_quiet (fail); try go_wp2)
         go_roundg k1
         case measure => have := HK1.out; omega
         case rel => exact ⟨(wrap64 (x13_1 + 1)), k92_, H', ⟨k96_⟩, k90_⟩
       ·rw [if_neg c7] at H
        exact absurd H (by simp)
      ·rw [if_neg c6] at H
       exact absurd H (by simp)
     ·rw [if_neg c5] at H
      exact absurd H (by simp)
    ·rw [if_neg c4] at H
     have c4b0 : decide (x13_1 < (l0.length : Int)) = false := decide_eq_false c4
     clear c4
     obtain rfl := Option.some.inj H
     go_wp2
     repeat (go_quiet (fail); try go_wp2)
     go_ret
     exact ⟨k92_, k90_⟩
 ·rw [if_neg c3] at H
  have c3b0 : ((l0.length : Int) == (l1.length : Int)) = false := beq_eq_false_iff_ne.mpr c3
  have c3b1 : ((l0.length : Int) != (l1.length : Int)) = true := bne_iff_ne.mpr c3
  have c3b2 : (l0.length == l1.length) = false := by first | simpa using c3 | (simp at c3 ⊢; omega)
  obtain rfl := Option.some.inj H
  go_enter Tryz.func20, Tryz.ntmps20
  go_wp2
  repeat (go_quiet (fail); try go_wp2)
  go_ret
  exact ⟨k92_, k90_⟩
end Go.Proofs.YtbnmajedmajfoaaGreatDoor.P
namespace Go.Proofs.YtbnmajedmajfoaaGreatDoor.P
open Go.RowKit Go.Proofs.YtbnmajedmajfoaaGreatDoorW.PrintWords Go.Proofs.YtbnmajedmajfoaaGreatDoorW.PrintLast Go.Proofs.YtbnmajedmajfoaaGreatDoorW.PrintMore
attribute [local go_sem] max2_int min2_int max_two min_two max_three min_three max_four min_four
set_option linter.unusedVariables false
set_option linter.unusedSimpArgs false
def laws_gAnswers.l0 : Nat → List (List (SRule)) → List (List (SRule)) → Int → Int → Option (Bool)
 | 0, _, _, _, _ => none
 | k + 1, x0, x1, x12, x13 => if x13 < x12 then (if 0 ≤ x13 then (if x13 < (x0.length : Int) then (if x13 < (x1.length : Int) then ((laws_gRules.f k (rd_Rules x0 x13) (rd_Rules x1 x13)).bind fun t103 => (if t103 = true then (laws_gAnswers.l0 k x0 x1 x12 (wrap64 (x13 + 1))) else (some false))) else (none)) else (none)) else (none)) else (some true)
def laws_gAnswers.f (k : Nat) (l0 : List (List (SRule))) (l1 : List (List (SRule))) : Option (Bool) := if (l0.length : Int) = (l1.length : Int) then (laws_gAnswers.l0 k l0 l1 (l0.length : Int) 0) else (some false)
set_option maxHeartbeats 8000000 in
set_option maxRecDepth 100000 in
theorem laws_gAnswers.calls (k : Nat) (A0 : Option Addr) (c0 : Nat) (l0 : List (List (SRule))) (A1 : Option Addr) (c1 : Nat) (l1 : List (List (SRule))) (r : Bool) (w : World) (hr0 : Kd.C (Kd.slice 33 kRule) w A0 l0.length l0) (hc0 : l0.length ≤ c0) (hr1 : Kd.C (Kd.slice 33 kRule) w A1 l1.length l1) (hc1 : l1.length ≤ c1) (h : laws_gAnswers.f k l0 l1 = some r) :
  Calls Tryz.prog 19 #[.slice A0 l0.length c0, .slice A1 l1.length c1] w fun e w' => e = .returned (.bool r) ∧ Drawn0 w w' := by
 have HR0 := Aside0.mk hr0
 have HC0 := Aside0.mk hc0
 clear hr0 hc0
 have HR1 := Aside0.mk hr1
 have HC1 := Aside0.mk hc1
 clear hr1 hc1
 have H : (if (l0.length : Int) = (l1.length : Int) then (laws_gAnswers.l0 k l0 l1 (l0.length : Int) 0) else (some false)) = some r := h
 clear h
 by_cases c3 : (l0.length : Int) = (l1.length : Int)
 ·rw [if_pos c3] at H
  have c3b0 : ((l0.length : Int) == (l1.length : Int)) = true := beq_iff_eq.mpr c3
  have c3b1 : ((l0.length : Int) != (l1.length : Int)) = false := bne_eq_false_iff_eq.mpr c3
  have c3b2 : (l0.length == l1.length) = true := by first | simpa using c3 | (simp at c3 ⊢; omega)
  clear c3
  have H' := Aside0.mk H
  clear H
  go_enter Tryz.func19, Tryz.ntmps19
  go_wp2
  repeat (go_quiet (fail); try go_wp2)
  go_loopg [13] k (fun kq v13 w' => ∃ (x13_1 : Int), v13 = .int .i64 x13_1 ∧ Aside0 (laws_gAnswers.l0 kq l0 l1 (l0.length : Int) x13_1 = some r) ∧ Aside0 (kq ≤ k) ∧ Drawn0 w w')
  case atStart => exact ⟨(0), k92_, H', ⟨Nat.le_refl _⟩, k90_⟩
  case round =>
   clear H'
   (try clear c3); (try clear c3b0); (try clear c3b1); (try clear c3b2)
   obtain ⟨x13_1, rfl, HA, HK1, ⟨m1, rfl⟩⟩ := hrel
   cases gk with
   | zero => exact absurd HA.out (by simp [laws_gAnswers.l0])
   | succ k1 =>
    have H := HA.out
    clear HA
    simp only [laws_gAnswers.l0] at H
    by_cases c4 : x13_1 < (l0.length : Int)
    ·rw [if_pos c4] at H
     have c4b0 : decide (x13_1 < (l0.length : Int)) = true := decide_eq_true c4
     clear c4
     by_cases c5 : 0 ≤ x13_1
     ·rw [if_pos c5] at H
      have c5b0 : decide (0 ≤ x13_1) = true := decide_eq_true c5
      clear c5
      by_cases c6 : x13_1 < (l0.length : Int)
      ·rw [if_pos c6] at H
       have c6b0 : decide (x13_1 < (l0.length : Int)) = true := decide_eq_true c6
       clear c6
       by_cases c7 : x13_1 < (l1.length : Int)
       ·rw [if_pos c7] at H
        have c7b0 : decide (x13_1 < (l1.length : Int)) = true := decide_eq_true c7
        clear c7
        obtain ⟨t103, A8, H⟩ := obnd_ H
        (try dsimp only at H)
        by_cases c9 : t103 = true
        ·subst c9
         rw [if_pos rfl] at H
         have H' := Aside0.mk H
         clear H
         have p101 : 0 ≤ (x13_1 : Int) := of_decide_eq_true k91_
         have q101 : x13_1 < (l0.length : Int) := of_decide_eq_true k91_
         obtain ⟨ad101, A101_0, c101_0, e101, hx101_0, hl101_0, hi101_0⟩ := at_Rules HR0.out x13_1 p101 q101
         cases e101
         have HR101_0 := Aside0.mk hi101_0
         have HC101_0 := Aside0.mk hl101_0
         clear hi101_0 hl101_0
         replace p101 := eq_true p101
         replace q101 := eq_true q101
         have p102 : 0 ≤ (x13_1 : Int) := of_decide_eq_true k91_
         have q102 : x13_1 < (l1.length : Int) := of_decide_eq_true k91_
         obtain ⟨ad102, A102_0, c102_0, e102, hx102_0, hl102_0, hi102_0⟩ := at_Rules HR1.out x13_1 p102 q102
         cases e102
         have HR102_0 := Aside0.mk hi102_0
         have HC102_0 := Aside0.mk hl102_0
         clear hi102_0 hl102_0
         replace p102 := eq_true p102
         replace q102 := eq_true q102
         go_wp2_with (first | (go_at_call 20; (with_reducible refine (laws_gRules.calls k1 _ _ (rd_Rules l0 x13_1) _ _ (rd_Rules l1 x13_1) true _ ?side1 ?side2 ?side3 ?side4 A8.out).mono ?_); (case side1 => exact k53_); (case side2 => exact HC101_0.out); (case side3 => exact k54_); (case side4 => exact HC102_0.out); rintro e w' ⟨rfl, ⟨nd, rfl⟩⟩; (try first | exact ⟨rfl, _, World.drewN_drewN _ _ _⟩ | exact ⟨rfl, _, Eq.trans (World.drewN_drewN _ _ _) (congrArg (World.drewN _) (Nat.add_assoc _ _ _))⟩)))
         repeat (go_quiet (first | (go_at_call 20; (with_reducible refine (laws_gRules.calls k1 _ _ (rd_Rules l0 x13_1) _ _ (rd_Rules l1 x13_1) true _ ?side1 ?side2 ?side3 ?side4 A8.out).mono ?_); (case side1 => exact k53_); (case side2 => exact HC101_0.out); (case side3 => exact k54_); (case side4 => exact HC102_0.out); rintro e w' ⟨rfl, ⟨nd, rfl⟩⟩; (try first | exact ⟨rfl, _, World.drewN_drewN _ _ _⟩ | exact ⟨rfl, _, Eq.trans (World.drewN_drewN _ _ _) (congrArg (World.drewN _) (Nat.add_assoc _ _ _))⟩))); try go_wp2_with (first | (go_at_call 20; (with_reducible refine (laws_gRules.calls k1 _ _ (rd_Rules l0 x13_1) _ _ (rd_Rules l1 x13_1) true _ ?side1 ?side2 ?side3 ?side4 A8.out).mono ?_); (case side1 => exact k53_); (case side2 => exact HC101_0.out); (case side3 => exact k54_); (case side4 => exact HC102_0.out); rintro e w' ⟨rfl, ⟨nd, rfl⟩⟩; (try first | exact ⟨rfl, _, World.drewN_drewN _ _ _⟩ | exact ⟨rfl, _, Eq.trans (World.drewN_drewN _ _ _) (congrArg (World.drewN _) (Nat.add_assoc _ _ _))⟩))))
         go_roundg k1
         case measure => have := HK1.out; omega
         case rel => exact ⟨(wrap64 (x13_1 + 1)), k92_, H', ⟨k96_⟩, k90_⟩
        ·replace c9 := Bool.eq_false_iff.mpr c9
         subst c9
         rw [if_neg (show ¬ (false = true) by decide)] at H
         obtain rfl := Option.some.inj H
         have p101 : 0 ≤ (x13_1 : Int) := of_decide_eq_true k91_
         have q101 : x13_1 < (l0.length : Int) := of_decide_eq_true k91_
         obtain ⟨ad101, A101_0, c101_0, e101, hx101_0, hl101_0, hi101_0⟩ := at_Rules HR0.out x13_1 p101 q101
         cases e101
         have HR101_0 := Aside0.mk hi101_0
         have HC101_0 := Aside0.mk hl101_0
         clear hi101_0 hl101_0
         replace p101 := eq_true p101
         replace q101 := eq_true q101
         have p102 : 0 ≤ (x13_1 : Int) := of_decide_eq_true k91_
         have q102 : x13_1 < (l1.length : Int) := of_decide_eq_true k91_
         obtain ⟨ad102, A102_0, c102_0, e102, hx102_0, hl102_0, hi102_0⟩ := at_Rules HR1.out x13_1 p102 q102
         cases e102
         have HR102_0 := Aside0.mk hi102_0
         have HC102_0 := Aside0.mk hl102_0
         clear hi102_0 hl102_0
         replace p102 := eq_true p102
         replace q102 := eq_true q102
         go_wp2_with (first | (go_at_call 20; (with_reducible refine (laws_gRules.calls k1 _ _ (rd_Rules l0 x13_1) _ _ (rd_Rules l1 x13_1) false _ ?side1 ?side2 ?side3 ?side4 A8.out).mono ?_); (case side1 => exact k53_); (case side2 => exact HC101_0.out); (case side3 => exact k54_); (case side4 => exact HC102_0.out); rintro e w' ⟨rfl, ⟨nd, rfl⟩⟩; (try first | exact ⟨rfl, _, World.drewN_drewN _ _ _⟩ | exact ⟨rfl, _, Eq.trans (World.drewN_drewN _ _ _) (congrArg (World.drewN _) (Nat.add_assoc _ _ _))⟩)))
         repeat (go_quiet (first | (go_at_call 20; (with_reducible refine (laws_gRules.calls k1 _ _ (rd_Rules l0 x13_1) _ _ (rd_Rules l1 x13_1) false _ ?side1 ?side2 ?side3 ?side4 A8.out).mono ?_); (case side1 => exact k53_); (case side2 => exact HC101_0.out); (case side3 => exact k54_); (case side4 => exact HC102_0.out); rintro e w' ⟨rfl, ⟨nd, rfl⟩⟩; (try first | exact ⟨rfl, _, World.drewN_drewN _ _ _⟩ | exact ⟨rfl, _, Eq.trans (World.drewN_drewN _ _ _) (congrArg (World.drewN _) (Nat.add_assoc _ _ _))⟩))); try go_wp2_with (first | (go_at_call 20; (with_reducible refine (laws_gRules.calls k1 _ _ (rd_Rules l0 x13_1) _ _ (rd_Rules l1 x13_1) false _ ?side1 ?side2 ?side3 ?side4 A8.out).mono ?_); (case side1 => exact k53_); (case side2 => exact HC101_0.out); (case side3 => exact k54_); (case side4 => exact HC102_0.out); rintro e w' ⟨rfl, ⟨nd, rfl⟩⟩; (try first | exact ⟨rfl, _, World.drewN_drewN _ _ _⟩ | exact ⟨rfl, _, Eq.trans (World.drewN_drewN _ _ _) (congrArg (World.drewN _) (Nat.add_assoc _ _ _))⟩))))
         go_ret
         exact ⟨k92_, k90_⟩
       ·rw [if_neg c7] at H
        exact absurd H (by simp)
      ·rw [if_neg c6] at H
       exact absurd H (by simp)
     ·rw [if_neg c5] at H
      exact absurd H (by simp)
    ·rw [if_neg c4] at H
     have c4b0 : decide (x13_1 < (l0.length : Int)) = false := decide_eq_false c4
     clear c4
     obtain rfl := Option.some.inj H
     go_wp2
     repeat (go_quiet (fail); try go_wp2)
     go_ret
     exact ⟨k92_, k90_⟩
 ·rw [if_neg c3] at H
  have c3b0 : ((l0.length : Int) == (l1.length : Int)) = false := beq_eq_false_iff_ne.mpr c3
  have c3b1 : ((l0.length : Int) != (l1.length : Int)) = true := bne_iff_ne.mpr c3
  have c3b2 : (l0.length == l1.length) = false := by first | simpa using c3 | (simp at c3 ⊢; omega)
  obtain rfl := Option.some.inj H
  go_enter Tryz.func19, Tryz.ntmps19
  go_wp2
  repeat (go_quiet (fail); try go_wp2)
  go_ret
  exact ⟨k92_, k90_⟩
end Go.Proofs.YtbnmajedmajfoaaGreatDoor.P
namespace Go.Proofs.YtbnmajedmajfoaaGreatDoor.P
open Go.RowKit Go.Proofs.YtbnmajedmajfoaaGreatDoorW.PrintWords Go.Proofs.YtbnmajedmajfoaaGreatDoorW.PrintLast Go.Proofs.YtbnmajedmajfoaaGreatDoorW.PrintMore
attribute [local go_sem] max2_int min2_int max_two min_two max_three min_three max_four min_four
set_option linter.unusedVariables false
set_option linter.unusedSimpArgs false
def impl_IsPuzzle.f (a0_0 : ByteArray) (a0_1 : Int) : Option (Bool) := (impl_isPuzzle.f a0_0 a0_1).bind fun t102 => (some t102)
set_option maxHeartbeats 8000000 in
set_option maxRecDepth 100000 in
theorem impl_IsPuzzle.calls (a0_0 : ByteArray) (a0_1 : Int) (r : Bool) (w : World) (h : impl_IsPuzzle.f a0_0 a0_1 = some r) :
  Calls Tryz.prog 21 #[.agg #[.string a0_0, .int .i64 a0_1]] w fun e w' => e = .returned (.bool r) ∧ Below w.heap.size w w' := by
 have hu23 := Tryz.underlying23
 have HB := Aside0.mk (Below.refl w.heap.size w)
 have H : ((impl_isPuzzle.f a0_0 a0_1).bind fun t102 => (some t102)) = some r := h
 clear h
 obtain ⟨t102, A2, H⟩ := obnd_ H
 (try dsimp only at H)
 obtain rfl := Option.some.inj H
 go_enter Tryz.func21, Tryz.ntmps21
 go_wp2_with (first | ((with_reducible refine gate_dst (N := 1) rfl ?_); refine box_event ?hg (N := 1) ?hd (cs := #[.string a0_0, .int .i64 a0_1]) (t := 23) ?hr ?_; (case hd => rfl); (case hg => rfl); (case hr => exact k94_); intro gb101 hg w3 hbox hb; have BK101 := Aside0.mk (hbox); have GW101 := Aside0.mk (HB.ge hg); have GE101 := Aside0.mk (HB.ge hg); replace HB := HB.mw hb; clear hb hbox hg; have hcz4_0 : w3.cell? ⟨gb101, 0, none⟩ = some (.string a0_0) := (blk_cell BK101.out 0).trans rfl; have hcz4_1 : w3.cell? ⟨gb101, 1, none⟩ = some (.int .i64 a0_1) := (blk_cell BK101.out 1).trans rfl; have hfz4_0 := blk_frozen BK101.out 0; have hfz4_1 := blk_frozen BK101.out 1) | ((with_reducible refine gate_callee (f := 43) rfl ?_); refine goesL_ (some 4) rfl rfl Tryz.func43 (by kernel_rfl) rfl #[.agg #[.string a0_0, .int .i64 a0_1]] rfl k59_ ?_; (with_reducible refine (impl_isPuzzle.calls a0_0 a0_1 t102 _ A2.out).mono ?_); rintro e w5 ⟨rfl, hb⟩; refine ⟨_, rfl, ?_⟩; replace BK101 := BK101.mw hb; replace HB := Aside0.mk (below_step k71_ hb); (try clear hb)))
 go_ret
 exact ⟨k70_, k71_⟩
end Go.Proofs.YtbnmajedmajfoaaGreatDoor.P
namespace Go.Proofs.YtbnmajedmajfoaaGreatDoor.P
open Go.RowKit Go.Proofs.YtbnmajedmajfoaaGreatDoorW.PrintWords Go.Proofs.YtbnmajedmajfoaaGreatDoorW.PrintLast Go.Proofs.YtbnmajedmajfoaaGreatDoorW.PrintMore
attribute [local go_sem] max2_int min2_int max_two min_two max_three min_three max_four min_four
set_option linter.unusedVariables false
set_option linter.unusedSimpArgs false
def spec_IsPuzzle.f (k : Nat) (a0_0 : ByteArray) (a0_1 : Int) : Option (Bool) := (spec_pzGood.f k a0_0 a0_1).bind fun t102 => (some t102)
set_option maxHeartbeats 8000000 in
set_option maxRecDepth 100000 in
theorem spec_IsPuzzle.calls (k : Nat) (a0_0 : ByteArray) (a0_1 : Int) (r : Bool) (w : World) (h : spec_IsPuzzle.f k a0_0 a0_1 = some r) :
  Calls Tryz.prog 22 #[.agg #[.string a0_0, .int .i64 a0_1]] w fun e w' => e = .returned (.bool r) ∧ Below w.heap.size w w' := by
 have hu23 := Tryz.underlying23
 have HB := Aside0.mk (Below.refl w.heap.size w)
 have H : ((spec_pzGood.f k a0_0 a0_1).bind fun t102 => (some t102)) = some r := h
 clear h
 obtain ⟨t102, A2, H⟩ := obnd_ H
 (try dsimp only at H)
 obtain rfl := Option.some.inj H
 go_enter Tryz.func22, Tryz.ntmps22
 go_wp2_with (first | ((with_reducible refine gate_dst (N := 1) rfl ?_); refine box_event ?hg (N := 1) ?hd (cs := #[.string a0_0, .int .i64 a0_1]) (t := 23) ?hr ?_; (case hd => rfl); (case hg => rfl); (case hr => exact k94_); intro gb101 hg w3 hbox hb; have BK101 := Aside0.mk (hbox); have GW101 := Aside0.mk (HB.ge hg); have GE101 := Aside0.mk (HB.ge hg); replace HB := HB.mw hb; clear hb hbox hg; have hcz4_0 : w3.cell? ⟨gb101, 0, none⟩ = some (.string a0_0) := (blk_cell BK101.out 0).trans rfl; have hcz4_1 : w3.cell? ⟨gb101, 1, none⟩ = some (.int .i64 a0_1) := (blk_cell BK101.out 1).trans rfl; have hfz4_0 := blk_frozen BK101.out 0; have hfz4_1 := blk_frozen BK101.out 1) | ((with_reducible refine gate_callee (f := 45) rfl ?_); refine goesL_ (some 4) rfl rfl Tryz.func45 (by kernel_rfl) rfl #[.agg #[.string a0_0, .int .i64 a0_1]] rfl k59_ ?_; (with_reducible refine (spec_pzGood.calls k a0_0 a0_1 t102 _ A2.out).mono ?_); rintro e w5 ⟨rfl, hb⟩; refine ⟨_, rfl, ?_⟩; replace BK101 := BK101.mw hb; replace HB := Aside0.mk (below_step k71_ hb); (try clear hb)))
 go_ret
 exact ⟨k70_, k71_⟩
end Go.Proofs.YtbnmajedmajfoaaGreatDoor.P
namespace Go.Proofs.YtbnmajedmajfoaaGreatDoor.P
open Go.RowKit Go.Proofs.YtbnmajedmajfoaaGreatDoorW.PrintWords Go.Proofs.YtbnmajedmajfoaaGreatDoorW.PrintLast Go.Proofs.YtbnmajedmajfoaaGreatDoorW.PrintMore
attribute [local go_sem] max2_int min2_int max_two min_two max_three min_three max_four min_four
set_option linter.unusedVariables false
set_option linter.unusedSimpArgs false
def impl_Answers.f (k : Nat) (a0_0 : ByteArray) (a0_1 : Int) : Option ((List (List (SRule))) × Bool) := (impl_answersOf.f k a0_0 a0_1).bind fun bt102 => (some (bt102.1, bt102.2))
set_option maxHeartbeats 8000000 in
set_option maxRecDepth 100000 in
theorem impl_Answers.calls (k : Nat) (a0_0 : ByteArray) (a0_1 : Int) (r1 : List (List (SRule))) (r2 : Bool) (w : World) (h : impl_Answers.f k a0_0 a0_1 = some (r1, r2)) :
  Calls Tryz.prog 5 #[.agg #[.string a0_0, .int .i64 a0_1]] w fun e w' => ∃ v0_ : Value, e = .returned (.tuple #[v0_, .bool r2]) ∧ Kd.S (Kd.slice 33 kRule) 24 w' w.heap.size (fun _ => True) v0_ r1 ∧ Below w.heap.size w w' := by
 have hu23 := Tryz.underlying23
 have HB := Aside0.mk (Below.refl w.heap.size w)
 have H : ((impl_answersOf.f k a0_0 a0_1).bind fun bt102 => (some (bt102.1, bt102.2))) = some (r1, r2) := h
 clear h
 obtain ⟨⟨t102, t105⟩, A2, H⟩ := obnd_ H
 (try dsimp only at H)
 simp only [Option.some.injEq, Prod.mk.injEq] at H
 obtain ⟨rfl, rfl⟩ := H
 go_enter Tryz.func5, Tryz.ntmps5
 go_wp2_with (first | ((with_reducible refine gate_dst (N := 1) rfl ?_); refine box_event ?hg (N := 1) ?hd (cs := #[.string a0_0, .int .i64 a0_1]) (t := 23) ?hr ?_; (case hd => rfl); (case hg => rfl); (case hr => exact k94_); intro gb101 hg w3 hbox hb; have BK101 := Aside0.mk (hbox); have GW101 := Aside0.mk (HB.ge hg); have GE101 := Aside0.mk (HB.ge hg); replace HB := HB.mw hb; clear hb hbox hg; have hcz4_0 : w3.cell? ⟨gb101, 0, none⟩ = some (.string a0_0) := (blk_cell BK101.out 0).trans rfl; have hcz4_1 : w3.cell? ⟨gb101, 1, none⟩ = some (.int .i64 a0_1) := (blk_cell BK101.out 1).trans rfl; have hfz4_0 := blk_frozen BK101.out 0; have hfz4_1 := blk_frozen BK101.out 1) | ((with_reducible refine gate_callee (f := 35) rfl ?_); refine goesL_ (some 5) rfl rfl Tryz.func35 (by kernel_rfl) rfl #[.agg #[.string a0_0, .int .i64 a0_1]] rfl k59_ ?_; (with_reducible refine (impl_answersOf.calls k a0_0 a0_1 t102 t105 _ A2.out).mono ?_); rintro e w5 ⟨v103, rfl, ho0, hb⟩; refine ⟨_, rfl, ?_⟩; have HO104 := Aside0.mk (Kd.S_lower ho0 (below_size k71_)); replace BK101 := BK101.mw hb; replace HB := Aside0.mk (below_step k71_ hb); (try clear hb ho0)))
 go_ret2
 exact ⟨_, k70_, by (with_reducible repeat (first | apply Kd.S_alloc | apply Kd.S_drewN | apply Kd.S_drew)); exact HO104.out, k71_⟩
end Go.Proofs.YtbnmajedmajfoaaGreatDoor.P
namespace Go.Proofs.YtbnmajedmajfoaaGreatDoor.P
open Go.RowKit Go.Proofs.YtbnmajedmajfoaaGreatDoorW.PrintWords Go.Proofs.YtbnmajedmajfoaaGreatDoorW.PrintLast Go.Proofs.YtbnmajedmajfoaaGreatDoorW.PrintMore
attribute [local go_sem] max2_int min2_int max_two min_two max_three min_three max_four min_four
set_option linter.unusedVariables false
set_option linter.unusedSimpArgs false
def lays145_ren : Go.Shelf.Ren := ⟨fun | 145 => 84 | 220 => 104 | 219 => 117 | 217 => 131 | 225 => 132 | 224 => 133 | 267 => 134 | 266 => 146 | 314 => 147 | n => n, fun | 9 => 9 | 4 => 4 | 59 => 91 | 3 => 3 | 5 => 5 | 46 => 113 | 146 => 150 | 51 => 147 | n => n, fun | 1 => 0 | n => n⟩
theorem lays145 : Go.Proofs.Lays.n145 Tryz.prog lays145_ren := {
  mixed := by kernel_rfl
  f145 := Tryz.func84.trans (congrArg some (by kernel_rfl))
  f217 := Tryz.func131.trans (congrArg some (by kernel_rfl))
  f219 := Tryz.func117.trans (congrArg some (by kernel_rfl))
  f220 := Tryz.func104.trans (congrArg some (by kernel_rfl))
  f224 := Tryz.func133.trans (congrArg some (by kernel_rfl))
  f225 := Tryz.func132.trans (congrArg some (by kernel_rfl))
  f266 := Tryz.func146.trans (congrArg some (by kernel_rfl))
  f267 := Tryz.func134.trans (congrArg some (by kernel_rfl))
  f314 := Tryz.func147.trans (congrArg some (by kernel_rfl))
  t3 := Tryz.underlying3
  a3 := Tryz.isAgg3
  z3 := Tryz.sizeOf3
  v3 := Tryz.zeroValue3
  t4 := Tryz.underlying4
  a4 := Tryz.isAgg4
  z4 := Tryz.sizeOf4
  v4 := Tryz.zeroValue4
  t5 := Tryz.underlying5
  a5 := Tryz.isAgg5
  z5 := Tryz.sizeOf5
  v5 := Tryz.zeroValue5
  t9 := Tryz.underlying9
  a9 := Tryz.isAgg9
  z9 := Tryz.sizeOf9
  v9 := Tryz.zeroValue9
  t46 := Tryz.underlying113
  a46 := Tryz.isAgg113
  z46 := Tryz.sizeOf113
  v46 := Tryz.zeroValue113
  t51 := Tryz.underlying147
  a51 := Tryz.isAgg147
  z51 := Tryz.sizeOf147
  v51 := Tryz.zeroValue147
  t59 := Tryz.underlying91
  a59 := Tryz.isAgg91
  z59 := Tryz.sizeOf91
  v59 := Tryz.zeroValue91
  t146 := Tryz.underlying150
  a146 := Tryz.isAgg150
  z146 := Tryz.sizeOf150
  v146 := Tryz.zeroValue150
  g1 := by kernel_rfl }
def lays172_ren : Go.Shelf.Ren := ⟨fun | 172 => 85 | 244 => 105 | 245 => 106 | 247 => 118 | 279 => 119 | 280 => 120 | 281 => 121 | 282 => 122 | 287 => 135 | 316 => 136 | 171 => 76 | 205 => 137 | 321 => 148 | 322 => 149 | 243 => 101 | 246 => 114 | 283 => 127 | 284 => 128 | 285 => 129 | 286 => 130 | 129 => 142 | 317 => 141 | 318 => 143 | 319 => 144 | 320 => 145 | 337 => 150 | 338 => 151 | n => n, fun | 9 => 9 | 3 => 3 | 75 => 94 | 76 => 95 | 4 => 4 | 5 => 5 | 167 => 121 | 37 => 50 | 0 => 0 | 85 => 122 | 2 => 2 | 168 => 124 | 53 => 73 | 175 => 134 | 46 => 113 | 210 => 138 | 127 => 153 | 145 => 156 | 143 => 154 | 21 => 21 | 171 => 128 | 173 => 131 | 212 => 146 | 51 => 147 | 20 => 20 | 213 => 148 | 232 => 158 | 233 => 159 | 80 => 160 | n => n, fun | 15 => 1 | 16 => 2 | 17 => 5 | 18 => 6 | 19 => 7 | n => n⟩
theorem lays172 : Go.Proofs.LaysC.n172 Tryz.prog lays172_ren := {
  mixed := by kernel_rfl
  f129 := Tryz.func142.trans (congrArg some (by kernel_rfl))
  f171 := Tryz.func76.trans (congrArg some (by kernel_rfl))
  f172 := Tryz.func85.trans (congrArg some (by kernel_rfl))
  f205 := Tryz.func137.trans (congrArg some (by kernel_rfl))
  f243 := Tryz.func101.trans (congrArg some (by kernel_rfl))
  f244 := Tryz.func105.trans (congrArg some (by kernel_rfl))
  f245 := Tryz.func106.trans (congrArg some (by kernel_rfl))
  f246 := Tryz.func114.trans (congrArg some (by kernel_rfl))
  f247 := Tryz.func118.trans (congrArg some (by kernel_rfl))
  f279 := Tryz.func119.trans (congrArg some (by kernel_rfl))
  f280 := Tryz.func120.trans (congrArg some (by kernel_rfl))
  f281 := Tryz.func121.trans (congrArg some (by kernel_rfl))
  f282 := Tryz.func122.trans (congrArg some (by kernel_rfl))
  f283 := Tryz.func127.trans (congrArg some (by kernel_rfl))
  f284 := Tryz.func128.trans (congrArg some (by kernel_rfl))
  f285 := Tryz.func129.trans (congrArg some (by kernel_rfl))
  f286 := Tryz.func130.trans (congrArg some (by kernel_rfl))
  f287 := Tryz.func135.trans (congrArg some (by kernel_rfl))
  f316 := Tryz.func136.trans (congrArg some (by kernel_rfl))
  f317 := Tryz.func141.trans (congrArg some (by kernel_rfl))
  f318 := Tryz.func143.trans (congrArg some (by kernel_rfl))
  f319 := Tryz.func144.trans (congrArg some (by kernel_rfl))
  f320 := Tryz.func145.trans (congrArg some (by kernel_rfl))
  f321 := Tryz.func148.trans (congrArg some (by kernel_rfl))
  f322 := Tryz.func149.trans (congrArg some (by kernel_rfl))
  f337 := Tryz.func150.trans (congrArg some (by kernel_rfl))
  f338 := Tryz.func151.trans (congrArg some (by kernel_rfl))
  t0 := Tryz.underlying0
  a0 := Tryz.isAgg0
  z0 := Tryz.sizeOf0
  v0 := Tryz.zeroValue0
  t2 := Tryz.underlying2
  a2 := Tryz.isAgg2
  z2 := Tryz.sizeOf2
  v2 := Tryz.zeroValue2
  t3 := Tryz.underlying3
  a3 := Tryz.isAgg3
  z3 := Tryz.sizeOf3
  v3 := Tryz.zeroValue3
  t4 := Tryz.underlying4
  a4 := Tryz.isAgg4
  z4 := Tryz.sizeOf4
  v4 := Tryz.zeroValue4
  t5 := Tryz.underlying5
  a5 := Tryz.isAgg5
  z5 := Tryz.sizeOf5
  v5 := Tryz.zeroValue5
  t9 := Tryz.underlying9
  a9 := Tryz.isAgg9
  z9 := Tryz.sizeOf9
  v9 := Tryz.zeroValue9
  t20 := Tryz.underlying20
  a20 := Tryz.isAgg20
  z20 := Tryz.sizeOf20
  v20 := Tryz.zeroValue20
  t21 := Tryz.underlying21
  a21 := Tryz.isAgg21
  z21 := Tryz.sizeOf21
  v21 := Tryz.zeroValue21
  t37 := Tryz.underlying50
  a37 := Tryz.isAgg50
  z37 := Tryz.sizeOf50
  v37 := Tryz.zeroValue50
  t46 := Tryz.underlying113
  a46 := Tryz.isAgg113
  z46 := Tryz.sizeOf113
  v46 := Tryz.zeroValue113
  t51 := Tryz.underlying147
  a51 := Tryz.isAgg147
  z51 := Tryz.sizeOf147
  v51 := Tryz.zeroValue147
  t53 := Tryz.underlying73
  a53 := Tryz.isAgg73
  z53 := Tryz.sizeOf73
  v53 := Tryz.zeroValue73
  t75 := Tryz.underlying94
  a75 := Tryz.isAgg94
  z75 := Tryz.sizeOf94
  v75 := Tryz.zeroValue94
  t76 := Tryz.underlying95
  a76 := Tryz.isAgg95
  z76 := Tryz.sizeOf95
  v76 := Tryz.zeroValue95
  t85 := Tryz.underlying122
  a85 := Tryz.isAgg122
  z85 := Tryz.sizeOf122
  v85 := Tryz.zeroValue122
  t127 := Tryz.underlying153
  a127 := Tryz.isAgg153
  z127 := Tryz.sizeOf153
  v127 := Tryz.zeroValue153
  t143 := Tryz.underlying154
  a143 := Tryz.isAgg154
  z143 := Tryz.sizeOf154
  v143 := Tryz.zeroValue154
  t145 := Tryz.underlying156
  a145 := Tryz.isAgg156
  z145 := Tryz.sizeOf156
  v145 := Tryz.zeroValue156
  t167 := Tryz.underlying121
  a167 := Tryz.isAgg121
  z167 := Tryz.sizeOf121
  v167 := Tryz.zeroValue121
  t168 := Tryz.underlying124
  a168 := Tryz.isAgg124
  z168 := Tryz.sizeOf124
  v168 := Tryz.zeroValue124
  t171 := Tryz.underlying128
  a171 := Tryz.isAgg128
  z171 := Tryz.sizeOf128
  v171 := Tryz.zeroValue128
  t173 := Tryz.underlying131
  a173 := Tryz.isAgg131
  z173 := Tryz.sizeOf131
  v173 := Tryz.zeroValue131
  t175 := Tryz.underlying134
  a175 := Tryz.isAgg134
  z175 := Tryz.sizeOf134
  v175 := Tryz.zeroValue134
  t210 := Tryz.underlying138
  a210 := Tryz.isAgg138
  z210 := Tryz.sizeOf138
  v210 := Tryz.zeroValue138
  t212 := Tryz.underlying146
  a212 := Tryz.isAgg146
  z212 := Tryz.sizeOf146
  v212 := Tryz.zeroValue146
  t213 := Tryz.underlying148
  a213 := Tryz.isAgg148
  z213 := Tryz.sizeOf148
  t232 := Tryz.underlying158
  a232 := Tryz.isAgg158
  z232 := Tryz.sizeOf158
  v232 := Tryz.zeroValue158
  t233 := Tryz.underlying159
  a233 := Tryz.isAgg159
  z233 := Tryz.sizeOf159
  v233 := Tryz.zeroValue159
  g15 := by kernel_rfl
  g16 := by kernel_rfl
  g17 := by kernel_rfl
  g18 := by kernel_rfl
  g19 := by kernel_rfl
  t80 := Tryz.underlying160
  a80 := Tryz.isAgg160
  z80 := Tryz.sizeOf160
  v80 := Tryz.zeroValue160
  i0 := by kernel_rfl
  i2 := by kernel_rfl
  i3 := by kernel_rfl
  i4 := by kernel_rfl
  i5 := by kernel_rfl
  i9 := by kernel_rfl
  i20 := by kernel_rfl
  i21 := by kernel_rfl
  i37 := by kernel_rfl
  i46 := by kernel_rfl
  i51 := by kernel_rfl
  i53 := by kernel_rfl
  i75 := by kernel_rfl
  i76 := by kernel_rfl
  i80 := by kernel_rfl
  i85 := by kernel_rfl
  i127 := by kernel_rfl
  i143 := by kernel_rfl
  i145 := by kernel_rfl
  i167 := by kernel_rfl
  i168 := by kernel_rfl
  i171 := by kernel_rfl
  i173 := by kernel_rfl
  i175 := by kernel_rfl
  i210 := by kernel_rfl
  i212 := by kernel_rfl
  i232 := by kernel_rfl
  i233 := by kernel_rfl
  m15 := by kernel_rfl
  m16 := by kernel_rfl
  m17 := by kernel_rfl
  m18 := by kernel_rfl
  m19 := by kernel_rfl
  c0 := by kernel_rfl
  c2 := by kernel_rfl
  c3 := by kernel_rfl
  c4 := by kernel_rfl
  c5 := by kernel_rfl
  c9 := by kernel_rfl
  c20 := by kernel_rfl
  c21 := by kernel_rfl
  c37 := by kernel_rfl
  c46 := by kernel_rfl
  c51 := by kernel_rfl
  c53 := by kernel_rfl
  c75 := by kernel_rfl
  c76 := by kernel_rfl
  c80 := by kernel_rfl
  c85 := by kernel_rfl
  c127 := by kernel_rfl
  c143 := by kernel_rfl
  c145 := by kernel_rfl
  c167 := by kernel_rfl
  c168 := by kernel_rfl
  c171 := by kernel_rfl
  c173 := by kernel_rfl
  c175 := by kernel_rfl
  c210 := by kernel_rfl
  c212 := by kernel_rfl
  c213 := by kernel_rfl
  c232 := by kernel_rfl
  c233 := by kernel_rfl }
def GlobOk (w : World) : Prop := (∃ m : Int, w.cell? ⟨lays145_ren.g 1, 0, none⟩ = some (.int .i64 m)) ∧ (∃ ev : Value, w.cell? ⟨lays172_ren.g 15, 0, none⟩ = some ev ∧ (ev = .nilIface ∨ ∃ te pe, ev = .iface te pe)) ∧ (∃ ev : Value, w.cell? ⟨lays172_ren.g 16, 0, none⟩ = some ev ∧ (ev = .nilIface ∨ ∃ te pe, ev = .iface te pe))
theorem GlobOk.below {w w' : World} (h : GlobOk w) (hb : Below w.heap.size w w') : GlobOk w' := by
  obtain ⟨⟨m, h1⟩, ⟨e1, h2, h3⟩, ⟨e2, h4, h5⟩⟩ := h
  exact ⟨⟨m, (hb.cell (World.block_lt_of_cell? w _ h1)).trans h1⟩, ⟨e1, (hb.cell (World.block_lt_of_cell? w _ h2)).trans h2, h3⟩, ⟨e2, (hb.cell (World.block_lt_of_cell? w _ h4)).trans h4, h5⟩⟩
def impl_parsePuzzle.f (a0 : ByteArray) : Option (ByteArray × Int × Bool) := if a0.size ≤ 1048576 then (match Lib.atoiAll (Lib.cut a0.data.toList [58]).2.1 with
  | .ok v => (impl_isPuzzle.f ⟨(Lib.cut a0.data.toList [58]).1.toArray⟩ v).bind fun t => if t = true then ((impl_puzzleText.f ⟨(Lib.cut a0.data.toList [58]).1.toArray⟩ v).bind fun txt => if txt.toList = a0.toList then some (⟨(Lib.cut a0.data.toList [58]).1.toArray⟩, v, true) else some ((⟨#[]⟩ : ByteArray), 0, false)) else some ((⟨#[]⟩ : ByteArray), 0, false)
  | _ => some ((⟨#[]⟩ : ByteArray), 0, false)) else none
theorem cut_len (s : List UInt8) (sep : List UInt8) : (Lib.cut s sep).2.1.length ≤ s.length := by
  unfold Lib.cut
  split
  · simp only [List.length_drop]; omega
  · simp
theorem atoi_calls (s : ByteArray) (w : World) (hs : s.size ≤ 281474976710656) (hG : GlobOk w) :
    Calls Tryz.prog 85 #[.string s] w fun e w' => ∃ (n : Int) (ev : Value), e = .returned (.tuple #[.int .i64 n, ev]) ∧ ((Lib.atoiAll s.data.toList = .ok n ∧ ev = .nilIface) ∨ ((∀ v, Lib.atoiAll s.data.toList ≠ .ok v) ∧ ∃ te pe, ev = .iface te pe)) ∧ Below w.heap.size w w' := by
  obtain ⟨-, ⟨e1, h2, h3⟩, ⟨e2, h4, h5⟩⟩ := hG
  cases h : Lib.atoiAll s.data.toList with
  | ok v =>
    refine (Any.strconv_Atoi_ok lays172 s (by omega) v h w).mono ?_
    rintro e w' ⟨rfl, hw⟩
    refine ⟨v, .nilIface, rfl, .inl ⟨rfl, rfl⟩, ?_⟩
    rcases hw with rfl | ⟨t, rfl⟩
    · exact Below.refl _ _
    · exact Lib.bytesWorld_below _ _ _
  | range =>
    refine (Any.strconv_Atoi_range lays172 s hs h e2 w h4 h5).mono ?_
    rintro e w' ⟨N, rfl, -, -, hb⟩
    exact ⟨_, _, rfl, .inr ⟨fun v hv => (by cases hv), _, _, rfl⟩, hb⟩
  | _ =>
    refine (Any.strconv_Atoi_syntax lays172 s hs h e1 w h2 h3).mono ?_
    rintro e w' ⟨N, rfl, -, -, hb⟩
    exact ⟨_, _, rfl, .inr ⟨fun v hv => (by cases hv), _, _, rfl⟩, hb⟩
set_option maxHeartbeats 8000000 in
set_option maxRecDepth 100000 in
theorem cut_any (s : ByteArray) (w : World) (hs : s.size < 4294967281) (hG : GlobOk w) :
    Calls Tryz.prog 84 #[.string s, .string ⟨#[58]⟩] w fun e w' => e = .returned (.tuple #[.string ⟨(Lib.cut s.data.toList [58]).1.toArray⟩, .string ⟨(Lib.cut s.data.toList [58]).2.1.toArray⟩, .bool (Lib.cut s.data.toList [58]).2.2]) ∧ Below w.heap.size w w' := by
  obtain ⟨⟨m, hm⟩, -⟩ := hG
  refine (Any.strings_Cut lays145 s ⟨#[58]⟩ m w hs hm).mono ?_
  rintro e w' ⟨rfl, n, rfl⟩
  exact ⟨rfl, pw_below_drewN (Below.refl _ _) _⟩
set_option maxHeartbeats 8000000 in
set_option maxRecDepth 100000 in
theorem impl_parsePuzzle.calls (a0 : ByteArray) (r1 : ByteArray) (r2 : Int) (r3 : Bool) (w : World) (h : impl_parsePuzzle.f a0 = some (r1, r2, r3)) (hG : GlobOk w) :
    Calls Tryz.prog 56 #[.string a0] w fun e w' => e = .returned (.tuple #[.agg #[.string r1, .int .i64 r2], .bool r3]) ∧ Below w.heap.size w w' := by
  have hu := Tryz.underlying23
  have HG := Aside0.mk hG
  clear hG
  unfold impl_parsePuzzle.f at h
  by_cases hs : a0.size ≤ 1048576
  · rw [if_pos hs] at h
    have HS := Aside0.mk hs
    have hnl := cut_len a0.data.toList [58]
    obtain ⟨bf, hbf⟩ : ∃ x : ByteArray, x = ⟨(Lib.cut a0.data.toList [58]).1.toArray⟩ := ⟨_, rfl⟩
    obtain ⟨nb, hnb⟩ : ∃ x : ByteArray, x = ⟨(Lib.cut a0.data.toList [58]).2.1.toArray⟩ := ⟨_, rfl⟩
    have hnd : nb.data.toList = (Lib.cut a0.data.toList [58]).2.1 := by rw [hnb]
    rw [← hnd, ← hbf] at h
    have HNL := Aside0.mk (show nb.size ≤ a0.size by rw [← hnd] at hnl; simpa using hnl)
    have HBF := Aside0.mk hbf
    have HNB := Aside0.mk hnb
    clear hbf hnb hnl hnd hs
    by_cases hv : ∃ v, Lib.atoiAll nb.data.toList = .ok v
    · obtain ⟨v, hv⟩ := hv
      rw [hv] at h
      replace h : ((impl_isPuzzle.f bf v).bind fun t => if t = true then ((impl_puzzleText.f bf v).bind fun txt => if txt.toList = a0.toList then some (bf, v, true) else some ((⟨#[]⟩ : ByteArray), 0, false)) else some ((⟨#[]⟩ : ByteArray), 0, false)) = some (r1, r2, r3) := h
      have HV := Aside0.mk hv
      clear hv
      replace h := Option.bind_eq_some_iff.mp h
      obtain ⟨t, A0_, h⟩ := h
      have A1 := Aside0.mk A0_
      clear A0_
      cases t with
      | false =>
        rw [if_neg (by decide)] at h
        simp only [Option.some.injEq, Prod.mk.injEq] at h
        obtain ⟨rfl, rfl, rfl⟩ := h
        go_enter Tryz.func56, Tryz.ntmps56
        go_wp2_with (first | ((with_reducible refine gate_dst (N := 2) rfl ?_); (try (refine gate_guard (by rfl) ?_; dsimp only)); refine box_event ?hg (N := 2) ?hd (cs := #[.string (⟨#[]⟩ : ByteArray), .int .i64 0]) (t := 23) ?hr ?_; (case hd => rfl); (case hg => rfl); (case hr => exact k94_); intro gQ hg w1 hbox hb; have BQ1 := Aside0.mk hbox; have HB1 := Aside0.mk hb; have GQ := Aside0.mk (show w.heap.size ≤ gQ by rw [hg]; exact Nat.le_refl _); have HG1 := Aside0.mk (GlobOk.below HG.out hb); clear hbox hb hg) | ((with_reducible refine gate_callee (f := 84) rfl ?_); (try (refine gate_guard (by rfl) ?_; dsimp only)); refine goesL_ (some 12) rfl rfl Tryz.func84 (by kernel_rfl) rfl #[.string a0, .string ⟨#[58]⟩] rfl k73_ ?_; (refine (cut_any a0 _ (by have := HS.out; omega) HG1.out).mono ?_); rintro e w2 ⟨rfl, hb⟩; refine ⟨_, rfl, ?_⟩; have BQ2 := Aside0.mk (blk_below BQ1.out hb); have HB2 := Aside0.mk (below_step HB1.out hb); have HG2 := Aside0.mk (GlobOk.below HG1.out hb); clear hb BQ1 HB1 HG1; rw [← HBF.out, ← HNB.out]) | ((with_reducible refine gate_callee (f := 85) rfl ?_); (try (refine gate_guard (by rfl) ?_; dsimp only)); refine goesL_ (some 18) rfl rfl Tryz.func85 (by kernel_rfl) rfl #[.string nb] rfl k73_ ?_; (refine (atoi_calls nb _ (by have := HS.out; have := HNL.out; omega) HG2.out).mono ?_); rintro e w4 ⟨n, ev, rfl, hc_, hb⟩; refine ⟨_, rfl, ?_⟩; have BQ4 := Aside0.mk (blk_below BQ2.out hb); have HB4 := Aside0.mk (below_step HB2.out hb); obtain ⟨rfl, rfl⟩ : n = v ∧ ev = .nilIface := (by rcases hc_ with ⟨h1_, h2_⟩ | ⟨h1_, -⟩; exact ⟨by rw [HV.out] at h1_; injection h1_ with h1_; exact h1_.symm, h2_⟩; exact absurd HV.out (h1_ v)); clear hc_; clear hb BQ2 HB2 HG2) | ((with_reducible refine gate_dst (N := 9) rfl ?_); (try (refine gate_guard (by rfl) ?_; dsimp only)); refine box_event ?hg (N := 9) ?hd (cs := #[.string (⟨#[]⟩ : ByteArray), .int .i64 0]) (t := 23) ?hr ?_; (case hd => rfl); (case hg => rfl); (case hr => exact k94_); intro g9 hg w9 hbox hb; have B9_ := Aside0.mk (show ((w9.setCell ⟨g9, 0, none⟩ (.string bf)).setCell ⟨g9, 1, none⟩ (.int .i64 n)).heap[g9]? = _ from blk_put (cs' := #[.string bf, .int .i64 n]) (blk_put (cs' := #[.string bf, .int .i64 0]) hbox 0 (.string bf) rfl) 1 (.int .i64 n) rfl); have HB9 := Aside0.mk (show Below w4.heap.size w4 ((w9.setCell ⟨g9, 0, none⟩ (.string bf)).setCell ⟨g9, 1, none⟩ (.int .i64 n)) from below_set (below_set hb (Nat.le_of_eq hg.symm)) (Nat.le_of_eq hg.symm)); have BQ9 := Aside0.mk (blk_below BQ4.out HB9.out); have hz0 : w9.cell? ⟨g9, 0, none⟩ = some (.string (⟨#[]⟩ : ByteArray)) := (blk_cell hbox 0).trans rfl; have hz1 : w9.cell? ⟨g9, 1, none⟩ = some (.int .i64 0) := (blk_cell hbox 1).trans rfl; have hf0 := blk_frozen hbox 0; have hf1 := blk_frozen hbox 1; have hne : gQ ≠ g9 := (by rw [hg]; exact Nat.ne_of_lt (blk_lt BQ4.out)); have hne' : ¬ g9 = gQ := fun e_ => hne e_.symm; have hqz0 : w9.cell? ⟨gQ, 0, none⟩ = some (.string (⟨#[]⟩ : ByteArray)) := (blk_cell (blk_below BQ4.out hb) 0).trans rfl; have hqz1 : w9.cell? ⟨gQ, 1, none⟩ = some (.int .i64 0) := (blk_cell (blk_below BQ4.out hb) 1).trans rfl; have hqf0 := blk_frozen (blk_below BQ4.out hb) 0; have hqf1 := blk_frozen (blk_below BQ4.out hb) 1; clear hbox hb hg) | ((with_reducible refine gate_callee (f := 43) rfl ?_); (try (refine gate_guard (by rfl) ?_; dsimp only)); refine goesL_ (some 28) rfl rfl Tryz.func43 (by kernel_rfl) rfl #[.agg #[.string bf, .int .i64 n]] rfl k73_ ?_; (refine (impl_isPuzzle.calls bf n false _ A1.out).mono ?_); rintro e w10 ⟨rfl, hb⟩; refine ⟨_, rfl, ?_⟩; have B10 := Aside0.mk (blk_below B9_.out hb); have BQ10 := Aside0.mk (blk_below BQ9.out hb); have HB10 := Aside0.mk (below_step (below_step HB4.out HB9.out) hb); clear hz0 hz1 hf0 hf1 hqz0 hqz1 hqf0 hqf1 B9_ BQ9 HB9 hb; have hz0 : w10.cell? ⟨g9, 0, none⟩ = some (.string bf) := (blk_cell B10.out 0).trans rfl; have hz1 : w10.cell? ⟨g9, 1, none⟩ = some (.int .i64 n) := (blk_cell B10.out 1).trans rfl; have hqz0 : w10.cell? ⟨gQ, 0, none⟩ = some (.string (⟨#[]⟩ : ByteArray)) := (blk_cell BQ10.out 0).trans rfl; have hqz1 : w10.cell? ⟨gQ, 1, none⟩ = some (.int .i64 0) := (blk_cell BQ10.out 1).trans rfl; have hqf0 := blk_frozen BQ10.out 0; have hqf1 := blk_frozen BQ10.out 1))
        refine bodyPost_ret (results_list (rs := [.cell 2 23, .tmp 3]) rfl (by simp) (.cell gQ 23 #[.string (⟨#[]⟩ : ByteArray), .int .i64 0] (0, 0) _ rfl (blk_put (cs' := #[.string (⟨#[]⟩ : ByteArray), .int .i64 0]) (blk_put (cs' := #[.string (⟨#[]⟩ : ByteArray), .int .i64 0]) BQ10.out 0 _ rfl) 1 _ rfl) Tryz.underlying23 rfl (by kernel_rfl) (.tmp .nil))) rfl ?_
        exact ⟨rfl, below_set (below_set HB10.out (by have h_ := GQ.out; omega)) (by have h_ := GQ.out; omega)⟩
      | true =>
        rw [if_pos rfl] at h
        replace h := Option.bind_eq_some_iff.mp h
        obtain ⟨txt, A0_, h⟩ := h
        have A2 := Aside0.mk A0_
        clear A0_
        by_cases hx : txt.toList = a0.toList
        · rw [if_pos hx] at h
          simp only [Option.some.injEq, Prod.mk.injEq] at h
          obtain ⟨rfl, rfl, rfl⟩ := h
          have hxb : (txt.toList != a0.toList) = false := bne_eq_false_iff_eq.2 hx
          have hxc : (txt.toList == a0.toList) = true := beq_iff_eq.2 hx
          clear hx
          go_enter Tryz.func56, Tryz.ntmps56
          go_wp2_with (first | ((with_reducible refine gate_dst (N := 2) rfl ?_); (try (refine gate_guard (by rfl) ?_; dsimp only)); refine box_event ?hg (N := 2) ?hd (cs := #[.string (⟨#[]⟩ : ByteArray), .int .i64 0]) (t := 23) ?hr ?_; (case hd => rfl); (case hg => rfl); (case hr => exact k94_); intro gQ hg w1 hbox hb; have BQ1 := Aside0.mk hbox; have HB1 := Aside0.mk hb; have GQ := Aside0.mk (show w.heap.size ≤ gQ by rw [hg]; exact Nat.le_refl _); have HG1 := Aside0.mk (GlobOk.below HG.out hb); clear hbox hb hg) | ((with_reducible refine gate_callee (f := 84) rfl ?_); (try (refine gate_guard (by rfl) ?_; dsimp only)); refine goesL_ (some 12) rfl rfl Tryz.func84 (by kernel_rfl) rfl #[.string a0, .string ⟨#[58]⟩] rfl k73_ ?_; (refine (cut_any a0 _ (by have := HS.out; omega) HG1.out).mono ?_); rintro e w2 ⟨rfl, hb⟩; refine ⟨_, rfl, ?_⟩; have BQ2 := Aside0.mk (blk_below BQ1.out hb); have HB2 := Aside0.mk (below_step HB1.out hb); have HG2 := Aside0.mk (GlobOk.below HG1.out hb); clear hb BQ1 HB1 HG1; rw [← HBF.out, ← HNB.out]) | ((with_reducible refine gate_callee (f := 85) rfl ?_); (try (refine gate_guard (by rfl) ?_; dsimp only)); refine goesL_ (some 18) rfl rfl Tryz.func85 (by kernel_rfl) rfl #[.string nb] rfl k73_ ?_; (refine (atoi_calls nb _ (by have := HS.out; have := HNL.out; omega) HG2.out).mono ?_); rintro e w4 ⟨n, ev, rfl, hc_, hb⟩; refine ⟨_, rfl, ?_⟩; have BQ4 := Aside0.mk (blk_below BQ2.out hb); have HB4 := Aside0.mk (below_step HB2.out hb); obtain ⟨rfl, rfl⟩ : n = v ∧ ev = .nilIface := (by rcases hc_ with ⟨h1_, h2_⟩ | ⟨h1_, -⟩; exact ⟨by rw [HV.out] at h1_; injection h1_ with h1_; exact h1_.symm, h2_⟩; exact absurd HV.out (h1_ v)); clear hc_; clear hb BQ2 HB2 HG2) | ((with_reducible refine gate_dst (N := 9) rfl ?_); (try (refine gate_guard (by rfl) ?_; dsimp only)); refine box_event ?hg (N := 9) ?hd (cs := #[.string (⟨#[]⟩ : ByteArray), .int .i64 0]) (t := 23) ?hr ?_; (case hd => rfl); (case hg => rfl); (case hr => exact k94_); intro g9 hg w9 hbox hb; have B9_ := Aside0.mk (show ((w9.setCell ⟨g9, 0, none⟩ (.string bf)).setCell ⟨g9, 1, none⟩ (.int .i64 n)).heap[g9]? = _ from blk_put (cs' := #[.string bf, .int .i64 n]) (blk_put (cs' := #[.string bf, .int .i64 0]) hbox 0 (.string bf) rfl) 1 (.int .i64 n) rfl); have HB9 := Aside0.mk (show Below w4.heap.size w4 ((w9.setCell ⟨g9, 0, none⟩ (.string bf)).setCell ⟨g9, 1, none⟩ (.int .i64 n)) from below_set (below_set hb (Nat.le_of_eq hg.symm)) (Nat.le_of_eq hg.symm)); have BQ9 := Aside0.mk (blk_below BQ4.out HB9.out); have hz0 : w9.cell? ⟨g9, 0, none⟩ = some (.string (⟨#[]⟩ : ByteArray)) := (blk_cell hbox 0).trans rfl; have hz1 : w9.cell? ⟨g9, 1, none⟩ = some (.int .i64 0) := (blk_cell hbox 1).trans rfl; have hf0 := blk_frozen hbox 0; have hf1 := blk_frozen hbox 1; have hne : gQ ≠ g9 := (by rw [hg]; exact Nat.ne_of_lt (blk_lt BQ4.out)); have hne' : ¬ g9 = gQ := fun e_ => hne e_.symm; have hqz0 : w9.cell? ⟨gQ, 0, none⟩ = some (.string (⟨#[]⟩ : ByteArray)) := (blk_cell (blk_below BQ4.out hb) 0).trans rfl; have hqz1 : w9.cell? ⟨gQ, 1, none⟩ = some (.int .i64 0) := (blk_cell (blk_below BQ4.out hb) 1).trans rfl; have hqf0 := blk_frozen (blk_below BQ4.out hb) 0; have hqf1 := blk_frozen (blk_below BQ4.out hb) 1; clear hbox hb hg) | ((with_reducible refine gate_callee (f := 43) rfl ?_); (try (refine gate_guard (by rfl) ?_; dsimp only)); refine goesL_ (some 28) rfl rfl Tryz.func43 (by kernel_rfl) rfl #[.agg #[.string bf, .int .i64 n]] rfl k73_ ?_; (refine (impl_isPuzzle.calls bf n true _ A1.out).mono ?_); rintro e w10 ⟨rfl, hb⟩; refine ⟨_, rfl, ?_⟩; have B10 := Aside0.mk (blk_below B9_.out hb); have BQ10 := Aside0.mk (blk_below BQ9.out hb); have HB10 := Aside0.mk (below_step (below_step HB4.out HB9.out) hb); clear hz0 hz1 hf0 hf1 hqz0 hqz1 hqf0 hqf1 B9_ BQ9 HB9 hb; have hz0 : w10.cell? ⟨g9, 0, none⟩ = some (.string bf) := (blk_cell B10.out 0).trans rfl; have hz1 : w10.cell? ⟨g9, 1, none⟩ = some (.int .i64 n) := (blk_cell B10.out 1).trans rfl; have hqz0 : w10.cell? ⟨gQ, 0, none⟩ = some (.string (⟨#[]⟩ : ByteArray)) := (blk_cell BQ10.out 0).trans rfl; have hqz1 : w10.cell? ⟨gQ, 1, none⟩ = some (.int .i64 0) := (blk_cell BQ10.out 1).trans rfl; have hqf0 := blk_frozen BQ10.out 0; have hqf1 := blk_frozen BQ10.out 1) | ((with_reducible refine gate_callee (f := 49) rfl ?_); (try (refine gate_guard (by rfl) ?_; dsimp only)); refine goesL_ (some 33) rfl rfl Tryz.func49 (by kernel_rfl) rfl #[.agg #[.string bf, .int .i64 n]] rfl k73_ ?_; (refine (impl_puzzleText.calls bf n txt _ A2.out).mono ?_); rintro e w11 ⟨rfl, hb⟩; refine ⟨_, rfl, ?_⟩; have B11 := Aside0.mk (blk_below B10.out hb); have BQ11 := Aside0.mk (blk_below BQ10.out hb); have HB11 := Aside0.mk (below_step HB10.out hb); clear hz0 hz1 hqz0 hqz1 hqf0 hqf1 hb; have hz0 : w11.cell? ⟨g9, 0, none⟩ = some (.string bf) := (blk_cell B11.out 0).trans rfl; have hz1 : w11.cell? ⟨g9, 1, none⟩ = some (.int .i64 n) := (blk_cell B11.out 1).trans rfl; have hqz0 : w11.cell? ⟨gQ, 0, none⟩ = some (.string (⟨#[]⟩ : ByteArray)) := (blk_cell BQ11.out 0).trans rfl; have hqz1 : w11.cell? ⟨gQ, 1, none⟩ = some (.int .i64 0) := (blk_cell BQ11.out 1).trans rfl; have hqf0 := blk_frozen BQ11.out 0; have hqf1 := blk_frozen BQ11.out 1))
          refine bodyPost_ret (results_list (rs := [.cell 2 23, .tmp 3]) rfl (by simp) (.cell gQ 23 #[.string bf, .int .i64 n] (0, 0) _ rfl (blk_put (cs' := #[.string bf, .int .i64 n]) (blk_put (cs' := #[.string bf, .int .i64 0]) BQ11.out 0 _ rfl) 1 _ rfl) Tryz.underlying23 rfl (by kernel_rfl) (.tmp .nil))) rfl ?_
          exact ⟨rfl, below_set (below_set HB11.out (by have h_ := GQ.out; omega)) (by have h_ := GQ.out; omega)⟩
        · rw [if_neg hx] at h
          simp only [Option.some.injEq, Prod.mk.injEq] at h
          obtain ⟨rfl, rfl, rfl⟩ := h
          have hxb : (txt.toList != a0.toList) = true := bne_iff_ne.2 hx
          have hxc : (txt.toList == a0.toList) = false := beq_eq_false_iff_ne.2 hx
          clear hx
          go_enter Tryz.func56, Tryz.ntmps56
          go_wp2_with (first | ((with_reducible refine gate_dst (N := 2) rfl ?_); (try (refine gate_guard (by rfl) ?_; dsimp only)); refine box_event ?hg (N := 2) ?hd (cs := #[.string (⟨#[]⟩ : ByteArray), .int .i64 0]) (t := 23) ?hr ?_; (case hd => rfl); (case hg => rfl); (case hr => exact k94_); intro gQ hg w1 hbox hb; have BQ1 := Aside0.mk hbox; have HB1 := Aside0.mk hb; have GQ := Aside0.mk (show w.heap.size ≤ gQ by rw [hg]; exact Nat.le_refl _); have HG1 := Aside0.mk (GlobOk.below HG.out hb); clear hbox hb hg) | ((with_reducible refine gate_callee (f := 84) rfl ?_); (try (refine gate_guard (by rfl) ?_; dsimp only)); refine goesL_ (some 12) rfl rfl Tryz.func84 (by kernel_rfl) rfl #[.string a0, .string ⟨#[58]⟩] rfl k73_ ?_; (refine (cut_any a0 _ (by have := HS.out; omega) HG1.out).mono ?_); rintro e w2 ⟨rfl, hb⟩; refine ⟨_, rfl, ?_⟩; have BQ2 := Aside0.mk (blk_below BQ1.out hb); have HB2 := Aside0.mk (below_step HB1.out hb); have HG2 := Aside0.mk (GlobOk.below HG1.out hb); clear hb BQ1 HB1 HG1; rw [← HBF.out, ← HNB.out]) | ((with_reducible refine gate_callee (f := 85) rfl ?_); (try (refine gate_guard (by rfl) ?_; dsimp only)); refine goesL_ (some 18) rfl rfl Tryz.func85 (by kernel_rfl) rfl #[.string nb] rfl k73_ ?_; (refine (atoi_calls nb _ (by have := HS.out; have := HNL.out; omega) HG2.out).mono ?_); rintro e w4 ⟨n, ev, rfl, hc_, hb⟩; refine ⟨_, rfl, ?_⟩; have BQ4 := Aside0.mk (blk_below BQ2.out hb); have HB4 := Aside0.mk (below_step HB2.out hb); obtain ⟨rfl, rfl⟩ : n = v ∧ ev = .nilIface := (by rcases hc_ with ⟨h1_, h2_⟩ | ⟨h1_, -⟩; exact ⟨by rw [HV.out] at h1_; injection h1_ with h1_; exact h1_.symm, h2_⟩; exact absurd HV.out (h1_ v)); clear hc_; clear hb BQ2 HB2 HG2) | ((with_reducible refine gate_dst (N := 9) rfl ?_); (try (refine gate_guard (by rfl) ?_; dsimp only)); refine box_event ?hg (N := 9) ?hd (cs := #[.string (⟨#[]⟩ : ByteArray), .int .i64 0]) (t := 23) ?hr ?_; (case hd => rfl); (case hg => rfl); (case hr => exact k94_); intro g9 hg w9 hbox hb; have B9_ := Aside0.mk (show ((w9.setCell ⟨g9, 0, none⟩ (.string bf)).setCell ⟨g9, 1, none⟩ (.int .i64 n)).heap[g9]? = _ from blk_put (cs' := #[.string bf, .int .i64 n]) (blk_put (cs' := #[.string bf, .int .i64 0]) hbox 0 (.string bf) rfl) 1 (.int .i64 n) rfl); have HB9 := Aside0.mk (show Below w4.heap.size w4 ((w9.setCell ⟨g9, 0, none⟩ (.string bf)).setCell ⟨g9, 1, none⟩ (.int .i64 n)) from below_set (below_set hb (Nat.le_of_eq hg.symm)) (Nat.le_of_eq hg.symm)); have BQ9 := Aside0.mk (blk_below BQ4.out HB9.out); have hz0 : w9.cell? ⟨g9, 0, none⟩ = some (.string (⟨#[]⟩ : ByteArray)) := (blk_cell hbox 0).trans rfl; have hz1 : w9.cell? ⟨g9, 1, none⟩ = some (.int .i64 0) := (blk_cell hbox 1).trans rfl; have hf0 := blk_frozen hbox 0; have hf1 := blk_frozen hbox 1; have hne : gQ ≠ g9 := (by rw [hg]; exact Nat.ne_of_lt (blk_lt BQ4.out)); have hne' : ¬ g9 = gQ := fun e_ => hne e_.symm; have hqz0 : w9.cell? ⟨gQ, 0, none⟩ = some (.string (⟨#[]⟩ : ByteArray)) := (blk_cell (blk_below BQ4.out hb) 0).trans rfl; have hqz1 : w9.cell? ⟨gQ, 1, none⟩ = some (.int .i64 0) := (blk_cell (blk_below BQ4.out hb) 1).trans rfl; have hqf0 := blk_frozen (blk_below BQ4.out hb) 0; have hqf1 := blk_frozen (blk_below BQ4.out hb) 1; clear hbox hb hg) | ((with_reducible refine gate_callee (f := 43) rfl ?_); (try (refine gate_guard (by rfl) ?_; dsimp only)); refine goesL_ (some 28) rfl rfl Tryz.func43 (by kernel_rfl) rfl #[.agg #[.string bf, .int .i64 n]] rfl k73_ ?_; (refine (impl_isPuzzle.calls bf n true _ A1.out).mono ?_); rintro e w10 ⟨rfl, hb⟩; refine ⟨_, rfl, ?_⟩; have B10 := Aside0.mk (blk_below B9_.out hb); have BQ10 := Aside0.mk (blk_below BQ9.out hb); have HB10 := Aside0.mk (below_step (below_step HB4.out HB9.out) hb); clear hz0 hz1 hf0 hf1 hqz0 hqz1 hqf0 hqf1 B9_ BQ9 HB9 hb; have hz0 : w10.cell? ⟨g9, 0, none⟩ = some (.string bf) := (blk_cell B10.out 0).trans rfl; have hz1 : w10.cell? ⟨g9, 1, none⟩ = some (.int .i64 n) := (blk_cell B10.out 1).trans rfl; have hqz0 : w10.cell? ⟨gQ, 0, none⟩ = some (.string (⟨#[]⟩ : ByteArray)) := (blk_cell BQ10.out 0).trans rfl; have hqz1 : w10.cell? ⟨gQ, 1, none⟩ = some (.int .i64 0) := (blk_cell BQ10.out 1).trans rfl; have hqf0 := blk_frozen BQ10.out 0; have hqf1 := blk_frozen BQ10.out 1) | ((with_reducible refine gate_callee (f := 49) rfl ?_); (try (refine gate_guard (by rfl) ?_; dsimp only)); refine goesL_ (some 33) rfl rfl Tryz.func49 (by kernel_rfl) rfl #[.agg #[.string bf, .int .i64 n]] rfl k73_ ?_; (refine (impl_puzzleText.calls bf n txt _ A2.out).mono ?_); rintro e w11 ⟨rfl, hb⟩; refine ⟨_, rfl, ?_⟩; have B11 := Aside0.mk (blk_below B10.out hb); have BQ11 := Aside0.mk (blk_below BQ10.out hb); have HB11 := Aside0.mk (below_step HB10.out hb); clear hz0 hz1 hqz0 hqz1 hqf0 hqf1 hb; have hz0 : w11.cell? ⟨g9, 0, none⟩ = some (.string bf) := (blk_cell B11.out 0).trans rfl; have hz1 : w11.cell? ⟨g9, 1, none⟩ = some (.int .i64 n) := (blk_cell B11.out 1).trans rfl; have hqz0 : w11.cell? ⟨gQ, 0, none⟩ = some (.string (⟨#[]⟩ : ByteArray)) := (blk_cell BQ11.out 0).trans rfl; have hqz1 : w11.cell? ⟨gQ, 1, none⟩ = some (.int .i64 0) := (blk_cell BQ11.out 1).trans rfl; have hqf0 := blk_frozen BQ11.out 0; have hqf1 := blk_frozen BQ11.out 1))
          refine bodyPost_ret (results_list (rs := [.cell 2 23, .tmp 3]) rfl (by simp) (.cell gQ 23 #[.string (⟨#[]⟩ : ByteArray), .int .i64 0] (0, 0) _ rfl (blk_put (cs' := #[.string (⟨#[]⟩ : ByteArray), .int .i64 0]) (blk_put (cs' := #[.string (⟨#[]⟩ : ByteArray), .int .i64 0]) BQ11.out 0 _ rfl) 1 _ rfl) Tryz.underlying23 rfl (by kernel_rfl) (.tmp .nil))) rfl ?_
          exact ⟨rfl, below_set (below_set HB11.out (by have h_ := GQ.out; omega)) (by have h_ := GQ.out; omega)⟩
    · have he : ∀ v, Lib.atoiAll nb.data.toList ≠ .ok v := fun v h_ => hv ⟨v, h_⟩
      have h2 : some ((⟨#[]⟩ : ByteArray), (0 : Int), false) = some (r1, r2, r3) := by
        cases hc : Lib.atoiAll nb.data.toList with
        | ok v => exact absurd hc (he v)
        | _ => rw [hc] at h; exact h
      have HE := Aside0.mk he
      clear he hv h
      simp only [Option.some.injEq, Prod.mk.injEq] at h2
      obtain ⟨rfl, rfl, rfl⟩ := h2
      go_enter Tryz.func56, Tryz.ntmps56
      go_wp2_with (first | ((with_reducible refine gate_dst (N := 2) rfl ?_); (try (refine gate_guard (by rfl) ?_; dsimp only)); refine box_event ?hg (N := 2) ?hd (cs := #[.string (⟨#[]⟩ : ByteArray), .int .i64 0]) (t := 23) ?hr ?_; (case hd => rfl); (case hg => rfl); (case hr => exact k94_); intro gQ hg w1 hbox hb; have BQ1 := Aside0.mk hbox; have HB1 := Aside0.mk hb; have GQ := Aside0.mk (show w.heap.size ≤ gQ by rw [hg]; exact Nat.le_refl _); have HG1 := Aside0.mk (GlobOk.below HG.out hb); clear hbox hb hg) | ((with_reducible refine gate_callee (f := 84) rfl ?_); (try (refine gate_guard (by rfl) ?_; dsimp only)); refine goesL_ (some 12) rfl rfl Tryz.func84 (by kernel_rfl) rfl #[.string a0, .string ⟨#[58]⟩] rfl k73_ ?_; (refine (cut_any a0 _ (by have := HS.out; omega) HG1.out).mono ?_); rintro e w2 ⟨rfl, hb⟩; refine ⟨_, rfl, ?_⟩; have BQ2 := Aside0.mk (blk_below BQ1.out hb); have HB2 := Aside0.mk (below_step HB1.out hb); have HG2 := Aside0.mk (GlobOk.below HG1.out hb); clear hb BQ1 HB1 HG1; rw [← HBF.out, ← HNB.out]) | ((with_reducible refine gate_callee (f := 85) rfl ?_); (try (refine gate_guard (by rfl) ?_; dsimp only)); refine goesL_ (some 18) rfl rfl Tryz.func85 (by kernel_rfl) rfl #[.string nb] rfl k73_ ?_; (refine (atoi_calls nb _ (by have := HS.out; have := HNL.out; omega) HG2.out).mono ?_); rintro e w4 ⟨n, ev, rfl, hc_, hb⟩; refine ⟨_, rfl, ?_⟩; have BQ4 := Aside0.mk (blk_below BQ2.out hb); have HB4 := Aside0.mk (below_step HB2.out hb); obtain ⟨te, pe, rfl⟩ : ∃ te pe, ev = .iface te pe := (by rcases hc_ with ⟨h1_, -⟩ | ⟨-, h2_⟩; exact absurd h1_ (HE.out n); exact h2_); clear hc_; clear hb BQ2 HB2 HG2) | ((with_reducible refine gate_dst (N := 9) rfl ?_); (try (refine gate_guard (by rfl) ?_; dsimp only)); refine box_event ?hg (N := 9) ?hd (cs := #[.string (⟨#[]⟩ : ByteArray), .int .i64 0]) (t := 23) ?hr ?_; (case hd => rfl); (case hg => rfl); (case hr => exact k94_); intro g9 hg w9 hbox hb; have B9_ := Aside0.mk (show ((w9.setCell ⟨g9, 0, none⟩ (.string bf)).setCell ⟨g9, 1, none⟩ (.int .i64 n)).heap[g9]? = _ from blk_put (cs' := #[.string bf, .int .i64 n]) (blk_put (cs' := #[.string bf, .int .i64 0]) hbox 0 (.string bf) rfl) 1 (.int .i64 n) rfl); have HB9 := Aside0.mk (show Below w4.heap.size w4 ((w9.setCell ⟨g9, 0, none⟩ (.string bf)).setCell ⟨g9, 1, none⟩ (.int .i64 n)) from below_set (below_set hb (Nat.le_of_eq hg.symm)) (Nat.le_of_eq hg.symm)); have BQ9 := Aside0.mk (blk_below BQ4.out HB9.out); have hz0 : w9.cell? ⟨g9, 0, none⟩ = some (.string (⟨#[]⟩ : ByteArray)) := (blk_cell hbox 0).trans rfl; have hz1 : w9.cell? ⟨g9, 1, none⟩ = some (.int .i64 0) := (blk_cell hbox 1).trans rfl; have hf0 := blk_frozen hbox 0; have hf1 := blk_frozen hbox 1; have hne : gQ ≠ g9 := (by rw [hg]; exact Nat.ne_of_lt (blk_lt BQ4.out)); have hne' : ¬ g9 = gQ := fun e_ => hne e_.symm; have hqz0 : w9.cell? ⟨gQ, 0, none⟩ = some (.string (⟨#[]⟩ : ByteArray)) := (blk_cell (blk_below BQ4.out hb) 0).trans rfl; have hqz1 : w9.cell? ⟨gQ, 1, none⟩ = some (.int .i64 0) := (blk_cell (blk_below BQ4.out hb) 1).trans rfl; have hqf0 := blk_frozen (blk_below BQ4.out hb) 0; have hqf1 := blk_frozen (blk_below BQ4.out hb) 1; clear hbox hb hg))
      refine bodyPost_ret (results_list (rs := [.cell 2 23, .tmp 3]) rfl (by simp) (.cell gQ 23 #[.string (⟨#[]⟩ : ByteArray), .int .i64 0] (0, 0) _ rfl (blk_put (cs' := #[.string (⟨#[]⟩ : ByteArray), .int .i64 0]) (blk_put (cs' := #[.string (⟨#[]⟩ : ByteArray), .int .i64 0]) BQ9.out 0 _ rfl) 1 _ rfl) Tryz.underlying23 rfl (by kernel_rfl) (.tmp .nil))) rfl ?_
      exact ⟨rfl, below_set (below_set (below_step HB4.out HB9.out) (by have h_ := GQ.out; omega)) (by have h_ := GQ.out; omega)⟩
  · rw [if_neg hs] at h
    exact absurd h (by simp)
end Go.Proofs.YtbnmajedmajfoaaGreatDoor.P
namespace Go.Proofs.YtbnmajedmajfoaaGreatDoor.P
open Go.RowKit Go.Proofs.YtbnmajedmajfoaaGreatDoorW.PrintWords Go.Proofs.YtbnmajedmajfoaaGreatDoorW.PrintLast Go.Proofs.YtbnmajedmajfoaaGreatDoorW.PrintMore
attribute [local go_sem] max2_int min2_int max_two min_two max_three min_three max_four min_four
set_option linter.unusedVariables false
set_option linter.unusedSimpArgs false
def spec_Answers.f (k : Nat) (a0_0 : ByteArray) (a0_1 : Int) : Option ((List (List (SRule))) × Bool) := (spec_pzAnswers.f k a0_0 a0_1).bind fun bt102 => (some (bt102.1, bt102.2))
set_option maxHeartbeats 8000000 in
set_option maxRecDepth 100000 in
theorem spec_Answers.calls (k : Nat) (a0_0 : ByteArray) (a0_1 : Int) (r1 : List (List (SRule))) (r2 : Bool) (w : World) (h : spec_Answers.f k a0_0 a0_1 = some (r1, r2)) :
  Calls Tryz.prog 6 #[.agg #[.string a0_0, .int .i64 a0_1]] w fun e w' => ∃ v0_ : Value, e = .returned (.tuple #[v0_, .bool r2]) ∧ Kd.S (Kd.slice 33 kRule) 24 w' w.heap.size (fun _ => True) v0_ r1 ∧ Below w.heap.size w w' := by
 have hu23 := Tryz.underlying23
 have HB := Aside0.mk (Below.refl w.heap.size w)
 have H : ((spec_pzAnswers.f k a0_0 a0_1).bind fun bt102 => (some (bt102.1, bt102.2))) = some (r1, r2) := h
 clear h
 obtain ⟨⟨t102, t105⟩, A2, H⟩ := obnd_ H
 (try dsimp only at H)
 simp only [Option.some.injEq, Prod.mk.injEq] at H
 obtain ⟨rfl, rfl⟩ := H
 go_enter Tryz.func6, Tryz.ntmps6
 go_wp2_with (first | ((with_reducible refine gate_dst (N := 1) rfl ?_); refine box_event ?hg (N := 1) ?hd (cs := #[.string a0_0, .int .i64 a0_1]) (t := 23) ?hr ?_; (case hd => rfl); (case hg => rfl); (case hr => exact k94_); intro gb101 hg w3 hbox hb; have BK101 := Aside0.mk (hbox); have GW101 := Aside0.mk (HB.ge hg); have GE101 := Aside0.mk (HB.ge hg); replace HB := HB.mw hb; clear hb hbox hg; have hcz4_0 : w3.cell? ⟨gb101, 0, none⟩ = some (.string a0_0) := (blk_cell BK101.out 0).trans rfl; have hcz4_1 : w3.cell? ⟨gb101, 1, none⟩ = some (.int .i64 a0_1) := (blk_cell BK101.out 1).trans rfl; have hfz4_0 := blk_frozen BK101.out 0; have hfz4_1 := blk_frozen BK101.out 1) | ((with_reducible refine gate_callee (f := 36) rfl ?_); refine goesL_ (some 5) rfl rfl Tryz.func36 (by kernel_rfl) rfl #[.agg #[.string a0_0, .int .i64 a0_1]] rfl k59_ ?_; (with_reducible refine (spec_pzAnswers.calls k a0_0 a0_1 t102 t105 _ A2.out).mono ?_); rintro e w5 ⟨v103, rfl, ho0, hb⟩; refine ⟨_, rfl, ?_⟩; have HO104 := Aside0.mk (Kd.S_lower ho0 (below_size k71_)); replace BK101 := BK101.mw hb; replace HB := Aside0.mk (below_step k71_ hb); (try clear hb ho0)))
 go_ret2
 exact ⟨_, k70_, by (with_reducible repeat (first | apply Kd.S_alloc | apply Kd.S_drewN | apply Kd.S_drew)); exact HO104.out, k71_⟩
end Go.Proofs.YtbnmajedmajfoaaGreatDoor.P
namespace Go.Proofs.YtbnmajedmajfoaaGreatDoor.P
open Go.RowKit Go.Proofs.YtbnmajedmajfoaaGreatDoorW.PrintWords Go.Proofs.YtbnmajedmajfoaaGreatDoorW.PrintLast Go.Proofs.YtbnmajedmajfoaaGreatDoorW.PrintMore
attribute [local go_sem] max2_int min2_int max_two min_two max_three min_three max_four min_four
set_option linter.unusedVariables false
set_option linter.unusedSimpArgs false
def impl_CountAnswers.f (k : Nat) (a0_0 : ByteArray) (a0_1 : Int) : Option (Int × Bool) := (impl_answersOf.f k a0_0 a0_1).bind fun bt102 => (some ((bt102.1.length : Int), bt102.2))
set_option maxHeartbeats 8000000 in
set_option maxRecDepth 100000 in
theorem impl_CountAnswers.calls (k : Nat) (a0_0 : ByteArray) (a0_1 : Int) (r1 : Int) (r2 : Bool) (w : World) (h : impl_CountAnswers.f k a0_0 a0_1 = some (r1, r2)) :
  Calls Tryz.prog 7 #[.agg #[.string a0_0, .int .i64 a0_1]] w fun e w' => e = .returned (.tuple #[.int .i64 r1, .bool r2]) ∧ Below w.heap.size w w' := by
 have hu23 := Tryz.underlying23
 have HB := Aside0.mk (Below.refl w.heap.size w)
 have H : ((impl_answersOf.f k a0_0 a0_1).bind fun bt102 => (some ((bt102.1.length : Int), bt102.2))) = some (r1, r2) := h
 clear h
 obtain ⟨⟨t102, t105⟩, A2, H⟩ := obnd_ H
 (try dsimp only at H)
 simp only [Option.some.injEq, Prod.mk.injEq] at H
 obtain ⟨rfl, rfl⟩ := H
 go_enter Tryz.func7, Tryz.ntmps7
 go_wp2_with (first | ((with_reducible refine gate_dst (N := 1) rfl ?_); refine box_event ?hg (N := 1) ?hd (cs := #[.string a0_0, .int .i64 a0_1]) (t := 23) ?hr ?_; (case hd => rfl); (case hg => rfl); (case hr => exact k94_); intro gb101 hg w3 hbox hb; have BK101 := Aside0.mk (hbox); have GW101 := Aside0.mk (HB.ge hg); have GE101 := Aside0.mk (HB.ge hg); replace HB := HB.mw hb; clear hb hbox hg; have hcz4_0 : w3.cell? ⟨gb101, 0, none⟩ = some (.string a0_0) := (blk_cell BK101.out 0).trans rfl; have hcz4_1 : w3.cell? ⟨gb101, 1, none⟩ = some (.int .i64 a0_1) := (blk_cell BK101.out 1).trans rfl; have hfz4_0 := blk_frozen BK101.out 0; have hfz4_1 := blk_frozen BK101.out 1) | ((with_reducible refine gate_callee (f := 35) rfl ?_); refine goesL_ (some 8) rfl rfl Tryz.func35 (by kernel_rfl) rfl #[.agg #[.string a0_0, .int .i64 a0_1]] rfl k59_ ?_; (with_reducible refine (impl_answersOf.calls k a0_0 a0_1 t102 t105 _ A2.out).mono ?_); rintro e w5 ⟨v103, rfl, ho0, hb⟩; refine ⟨_, rfl, ?_⟩; have HO104 := Aside0.mk (Kd.S_lower ho0 (below_size k71_)); replace BK101 := BK101.mw hb; replace HB := Aside0.mk (below_step k71_ hb); (try clear hb ho0); obtain ⟨Ao6, co6, eo6⟩ := Kd.S_slice HO104.out; subst eo6))
 go_ret2
 exact ⟨k70_, k71_⟩
end Go.Proofs.YtbnmajedmajfoaaGreatDoor.P
namespace Go.Proofs.YtbnmajedmajfoaaGreatDoor.P
open Go.RowKit Go.Proofs.YtbnmajedmajfoaaGreatDoorW.PrintWords Go.Proofs.YtbnmajedmajfoaaGreatDoorW.PrintLast Go.Proofs.YtbnmajedmajfoaaGreatDoorW.PrintMore
attribute [local go_sem] max2_int min2_int max_two min_two max_three min_three max_four min_four
set_option linter.unusedVariables false
set_option linter.unusedSimpArgs false
def spec_CountAnswers.f (k : Nat) (a0_0 : ByteArray) (a0_1 : Int) : Option (Int × Bool) := (spec_pzAnswers.f k a0_0 a0_1).bind fun bt102 => (some ((bt102.1.length : Int), bt102.2))
set_option maxHeartbeats 8000000 in
set_option maxRecDepth 100000 in
theorem spec_CountAnswers.calls (k : Nat) (a0_0 : ByteArray) (a0_1 : Int) (r1 : Int) (r2 : Bool) (w : World) (h : spec_CountAnswers.f k a0_0 a0_1 = some (r1, r2)) :
  Calls Tryz.prog 8 #[.agg #[.string a0_0, .int .i64 a0_1]] w fun e w' => e = .returned (.tuple #[.int .i64 r1, .bool r2]) ∧ Below w.heap.size w w' := by
 have hu23 := Tryz.underlying23
 have HB := Aside0.mk (Below.refl w.heap.size w)
 have H : ((spec_pzAnswers.f k a0_0 a0_1).bind fun bt102 => (some ((bt102.1.length : Int), bt102.2))) = some (r1, r2) := h
 clear h
 obtain ⟨⟨t102, t105⟩, A2, H⟩ := obnd_ H
 (try dsimp only at H)
 simp only [Option.some.injEq, Prod.mk.injEq] at H
 obtain ⟨rfl, rfl⟩ := H
 go_enter Tryz.func8, Tryz.ntmps8
 go_wp2_with (first | ((with_reducible refine gate_dst (N := 1) rfl ?_); refine box_event ?hg (N := 1) ?hd (cs := #[.string a0_0, .int .i64 a0_1]) (t := 23) ?hr ?_; (case hd => rfl); (case hg => rfl); (case hr => exact k94_); intro gb101 hg w3 hbox hb; have BK101 := Aside0.mk (hbox); have GW101 := Aside0.mk (HB.ge hg); have GE101 := Aside0.mk (HB.ge hg); replace HB := HB.mw hb; clear hb hbox hg; have hcz4_0 : w3.cell? ⟨gb101, 0, none⟩ = some (.string a0_0) := (blk_cell BK101.out 0).trans rfl; have hcz4_1 : w3.cell? ⟨gb101, 1, none⟩ = some (.int .i64 a0_1) := (blk_cell BK101.out 1).trans rfl; have hfz4_0 := blk_frozen BK101.out 0; have hfz4_1 := blk_frozen BK101.out 1) | ((with_reducible refine gate_callee (f := 36) rfl ?_); refine goesL_ (some 8) rfl rfl Tryz.func36 (by kernel_rfl) rfl #[.agg #[.string a0_0, .int .i64 a0_1]] rfl k59_ ?_; (with_reducible refine (spec_pzAnswers.calls k a0_0 a0_1 t102 t105 _ A2.out).mono ?_); rintro e w5 ⟨v103, rfl, ho0, hb⟩; refine ⟨_, rfl, ?_⟩; have HO104 := Aside0.mk (Kd.S_lower ho0 (below_size k71_)); replace BK101 := BK101.mw hb; replace HB := Aside0.mk (below_step k71_ hb); (try clear hb ho0); obtain ⟨Ao6, co6, eo6⟩ := Kd.S_slice HO104.out; subst eo6))
 go_ret2
 exact ⟨k70_, k71_⟩
end Go.Proofs.YtbnmajedmajfoaaGreatDoor.P
namespace Go.Proofs.YtbnmajedmajfoaaGreatDoor.P
open Go.RowKit Go.Proofs.YtbnmajedmajfoaaGreatDoorW.PrintWords Go.Proofs.YtbnmajedmajfoaaGreatDoorW.PrintLast Go.Proofs.YtbnmajedmajfoaaGreatDoorW.PrintMore
attribute [local go_sem] max2_int min2_int max_two min_two max_three min_three max_four min_four
set_option linter.unusedVariables false
set_option linter.unusedSimpArgs false
def impl_FirstAnswer.f (k : Nat) (a0_0 : ByteArray) (a0_1 : Int) : Option ((List (SRule)) × Bool) := (impl_answersOf.f k a0_0 a0_1).bind fun bt102 => (if bt102.2 = true then (if (bt102.1.length : Int) = 0 then (some (([] : List (SRule)), false)) else (if 0 < (bt102.1.length : Int) then (some (rd_Rules bt102.1 0, true)) else (none))) else (some (([] : List (SRule)), false)))
set_option maxHeartbeats 8000000 in
set_option maxRecDepth 100000 in
theorem impl_FirstAnswer.calls (k : Nat) (a0_0 : ByteArray) (a0_1 : Int) (r1 : List (SRule)) (r2 : Bool) (w : World) (h : impl_FirstAnswer.f k a0_0 a0_1 = some (r1, r2)) :
  Calls Tryz.prog 9 #[.agg #[.string a0_0, .int .i64 a0_1]] w fun e w' => ∃ v0_ : Value, e = .returned (.tuple #[v0_, .bool r2]) ∧ Kd.R kRule 33 w' w.heap.size (fun _ => True) v0_ r1 ∧ Below w.heap.size w w' := by
 have hu23 := Tryz.underlying23
 have HB := Aside0.mk (Below.refl w.heap.size w)
 have H : ((impl_answersOf.f k a0_0 a0_1).bind fun bt102 => (if bt102.2 = true then (if (bt102.1.length : Int) = 0 then (some (([] : List (SRule)), false)) else (if 0 < (bt102.1.length : Int) then (some (rd_Rules bt102.1 0, true)) else (none))) else (some (([] : List (SRule)), false)))) = some (r1, r2) := h
 clear h
 obtain ⟨⟨t102, t105⟩, A2, H⟩ := obnd_ H
 (try dsimp only at H)
 by_cases c3 : t105 = true
 ·subst c3
  rw [if_pos rfl] at H
  by_cases c4 : (t102.length : Int) = 0
  ·rw [if_pos c4] at H
   have c4b0 : ((t102.length : Int) == 0) = true := beq_iff_eq.mpr c4
   have c4b1 : ((t102.length : Int) != 0) = false := bne_eq_false_iff_eq.mpr c4
   clear c4
   simp only [Option.some.injEq, Prod.mk.injEq] at H
   obtain ⟨rfl, rfl⟩ := H
   go_enter Tryz.func9, Tryz.ntmps9
   go_wp2_with (first | ((with_reducible refine gate_dst (N := 1) rfl ?_); (try (refine gate_guard (by rfl) ?_; dsimp only)); refine box_event ?hg (N := 1) ?hd (cs := #[.string a0_0, .int .i64 a0_1]) (t := 23) ?hr ?_; (case hd => rfl); (case hg => rfl); (case hr => exact k94_); intro gb101 hg w5 hbox hb; have BK101 := Aside0.mk (hbox); have GW101 := Aside0.mk (HB.ge hg); have GE101 := Aside0.mk (HB.ge hg); replace HB := HB.mw hb; clear hb hbox hg; have hcz6_0 : w5.cell? ⟨gb101, 0, none⟩ = some (.string a0_0) := (blk_cell BK101.out 0).trans rfl; have hcz6_1 : w5.cell? ⟨gb101, 1, none⟩ = some (.int .i64 a0_1) := (blk_cell BK101.out 1).trans rfl; have hfz6_0 := blk_frozen BK101.out 0; have hfz6_1 := blk_frozen BK101.out 1) | ((with_reducible refine gate_callee (f := 35) rfl ?_); refine goesL_ (some 8) rfl rfl Tryz.func35 (by kernel_rfl) rfl #[.agg #[.string a0_0, .int .i64 a0_1]] rfl k59_ ?_; (with_reducible refine (impl_answersOf.calls k a0_0 a0_1 t102 true _ A2.out).mono ?_); rintro e w7 ⟨v103, rfl, ho0, hb⟩; refine ⟨_, rfl, ?_⟩; have HO104 := Aside0.mk (Kd.S_lower ho0 (below_size k71_)); replace BK101 := BK101.mw hb; replace HB := Aside0.mk (below_step k71_ hb); (try clear hb ho0); obtain ⟨Ao8, co8, eo8⟩ := Kd.S_slice HO104.out; subst eo8))
   go_ret2
   exact ⟨_, k70_, k57_, k71_⟩
  ·rw [if_neg c4] at H
   have c4b0 : ((t102.length : Int) == 0) = false := beq_eq_false_iff_ne.mpr c4
   have c4b1 : ((t102.length : Int) != 0) = true := bne_iff_ne.mpr c4
   have c4b2 : ¬ (t102 = []) := fun h_ => c4 (by rw [h_]; rfl)
   by_cases c9 : 0 < (t102.length : Int)
   ·rw [if_pos c9] at H
    have c9b0 : decide (0 < (t102.length : Int)) = true := decide_eq_true c9
    have c9b1 : decide (0 < t102.length) = true := decide_eq_true (by omega)
    clear c9
    simp only [Option.some.injEq, Prod.mk.injEq] at H
    obtain ⟨rfl, rfl⟩ := H
    go_enter Tryz.func9, Tryz.ntmps9
    go_wp2_with (first | ((with_reducible refine gate_dst (N := 1) rfl ?_); (try (refine gate_guard (by rfl) ?_; dsimp only)); refine box_event ?hg (N := 1) ?hd (cs := #[.string a0_0, .int .i64 a0_1]) (t := 23) ?hr ?_; (case hd => rfl); (case hg => rfl); (case hr => exact k94_); intro gb101 hg w10 hbox hb; have BK101 := Aside0.mk (hbox); have GW101 := Aside0.mk (HB.ge hg); have GE101 := Aside0.mk (HB.ge hg); replace HB := HB.mw hb; clear hb hbox hg; have hcz11_0 : w10.cell? ⟨gb101, 0, none⟩ = some (.string a0_0) := (blk_cell BK101.out 0).trans rfl; have hcz11_1 : w10.cell? ⟨gb101, 1, none⟩ = some (.int .i64 a0_1) := (blk_cell BK101.out 1).trans rfl; have hfz11_0 := blk_frozen BK101.out 0; have hfz11_1 := blk_frozen BK101.out 1) | ((with_reducible refine gate_callee (f := 35) rfl ?_); refine goesL_ (some 8) rfl rfl Tryz.func35 (by kernel_rfl) rfl #[.agg #[.string a0_0, .int .i64 a0_1]] rfl k59_ ?_; (with_reducible refine (impl_answersOf.calls k a0_0 a0_1 t102 true _ A2.out).mono ?_); rintro e w12 ⟨v103, rfl, ho0, hb⟩; refine ⟨_, rfl, ?_⟩; have HO104 := Aside0.mk (Kd.S_lower ho0 (below_size k71_)); replace BK101 := BK101.mw hb; replace HB := Aside0.mk (below_step k71_ hb); (try clear hb ho0); obtain ⟨Ao13, co13, eo13⟩ := Kd.S_slice HO104.out; subst eo13; have p106 : 0 ≤ (0 : Int) := (by omega); have q106 : 0 < (t102.length : Int) := of_decide_eq_true k91_; obtain ⟨ad106, A106_0, c106_0, e106, hx106_0, hl106_0, hi106_0⟩ := at_Rules (Kd.S_reads' HO104.out).2.2 0 p106 q106; cases e106; obtain ⟨ce106, hce106, hMe106, hcc106⟩ := Kd.S_get HO104.out [] 0 p106 (by first | exact q106 | exact of_decide_eq_true k91_ | (have e_ := (Kd.S_reads' HO104.out).1; omega)); obtain ⟨ve106_0, rfl, ge106_0⟩ := hMe106; have hv106_0 := hcc106 0 _ rfl; rw [Nat.add_zero, show ((Kd.slice 33 kRule)).sz = 1 from rfl, Nat.mul_one] at hv106_0; replace hv106_0 := Option.some.inj (hv106_0.symm.trans hx106_0); rw [hv106_0] at ge106_0; have HL106_0 := Aside0.mk (show Kd.R kRule 33 _ _ _ _ (rd_Rules t102 0) from ge106_0); clear hv106_0 ge106_0; clear hcc106 hce106; have qi106 : (0 < t102.length) = True := eq_true (by omega); (try rw [show ((0 : Int)).toNat = 0 from rfl] at hx106_0); (try rw [Addr.add_zero'] at hx106_0); have HR106_0 := Aside0.mk hi106_0; have HC106_0 := Aside0.mk hl106_0; clear hi106_0 hl106_0; replace p106 := eq_true p106; replace q106 := eq_true q106))
    go_ret2
    exact ⟨_, k70_, by (with_reducible repeat (first | apply Kd.R_alloc | apply Kd.R_drewN | apply Kd.R_drew)); exact Kd.R_mono HL106_0.out (fun _ hk => trivial), k71_⟩
   ·rw [if_neg c9] at H
    exact absurd H (by simp)
 ·replace c3 := Bool.eq_false_iff.mpr c3
  subst c3
  rw [if_neg (show ¬ (false = true) by decide)] at H
  simp only [Option.some.injEq, Prod.mk.injEq] at H
  obtain ⟨rfl, rfl⟩ := H
  go_enter Tryz.func9, Tryz.ntmps9
  go_wp2_with (first | ((with_reducible refine gate_dst (N := 1) rfl ?_); (try (refine gate_guard (by rfl) ?_; dsimp only)); refine box_event ?hg (N := 1) ?hd (cs := #[.string a0_0, .int .i64 a0_1]) (t := 23) ?hr ?_; (case hd => rfl); (case hg => rfl); (case hr => exact k94_); intro gb101 hg w14 hbox hb; have BK101 := Aside0.mk (hbox); have GW101 := Aside0.mk (HB.ge hg); have GE101 := Aside0.mk (HB.ge hg); replace HB := HB.mw hb; clear hb hbox hg; have hcz15_0 : w14.cell? ⟨gb101, 0, none⟩ = some (.string a0_0) := (blk_cell BK101.out 0).trans rfl; have hcz15_1 : w14.cell? ⟨gb101, 1, none⟩ = some (.int .i64 a0_1) := (blk_cell BK101.out 1).trans rfl; have hfz15_0 := blk_frozen BK101.out 0; have hfz15_1 := blk_frozen BK101.out 1) | ((with_reducible refine gate_callee (f := 35) rfl ?_); refine goesL_ (some 8) rfl rfl Tryz.func35 (by kernel_rfl) rfl #[.agg #[.string a0_0, .int .i64 a0_1]] rfl k59_ ?_; (with_reducible refine (impl_answersOf.calls k a0_0 a0_1 t102 false _ A2.out).mono ?_); rintro e w16 ⟨v103, rfl, ho0, hb⟩; refine ⟨_, rfl, ?_⟩; have HO104 := Aside0.mk (Kd.S_lower ho0 (below_size k71_)); replace BK101 := BK101.mw hb; replace HB := Aside0.mk (below_step k71_ hb); (try clear hb ho0)))
  go_ret2
  exact ⟨_, k70_, k57_, k71_⟩
end Go.Proofs.YtbnmajedmajfoaaGreatDoor.P
namespace Go.Proofs.YtbnmajedmajfoaaGreatDoor.P
open Go.RowKit Go.Proofs.YtbnmajedmajfoaaGreatDoorW.PrintWords Go.Proofs.YtbnmajedmajfoaaGreatDoorW.PrintLast Go.Proofs.YtbnmajedmajfoaaGreatDoorW.PrintMore
attribute [local go_sem] max2_int min2_int max_two min_two max_three min_three max_four min_four
set_option linter.unusedVariables false
set_option linter.unusedSimpArgs false
def cmp_Or_int.l0 : Nat → Int → List Int → Int → Int → Option (Int)
 | 0, _, _, _, _ => none
 | k + 1, x3, x6, x7, x8 => if x8 < x7 then (if 0 ≤ x8 then (if x8 < (x6.length : Int) then (if (rd x6 x8) = x3 then (cmp_Or_int.l0 k x3 x6 x7 (wrap64 (x8 + 1))) else (some (rd x6 x8))) else (none)) else (none)) else (some x3)
def cmp_Or_int.f (k : Nat) (l0 : List Int) : Option (Int) := cmp_Or_int.l0 k 0 l0 (l0.length : Int) 0
set_option maxHeartbeats 8000000 in
set_option maxRecDepth 100000 in
theorem cmp_Or_int.calls (k : Nat) (A0 : Option Addr) (c0 : Nat) (l0 : List Int) (r : Int) (w : World) (hr0 : Kd.C (Kd.int .i64) w A0 l0.length l0) (hc0 : l0.length ≤ c0) (h : cmp_Or_int.f k l0 = some r) :
  Calls Tryz.prog 80 #[.slice A0 l0.length c0] w fun e w' => e = .returned (.int .i64 r) ∧ Drawn0 w w' := by
 have HR0 := Aside0.mk hr0
 have HC0 := Aside0.mk hc0
 clear hr0 hc0
 have H : (cmp_Or_int.l0 k 0 l0 (l0.length : Int) 0) = some r := h
 clear h
 have H' := Aside0.mk H
 clear H
 go_enter Tryz.func80, Tryz.ntmps80
 go_wp2
 go_loopg [8] k (fun kq v8 w' => ∃ (x8_1 : Int), v8 = .int .i64 x8_1 ∧ Aside0 (cmp_Or_int.l0 kq 0 l0 (l0.length : Int) x8_1 = some r) ∧ Aside0 (kq ≤ k) ∧ Drawn0 w w')
 case atStart => exact ⟨(0), k92_, H', ⟨Nat.le_refl _⟩, k90_⟩
 case round =>
  clear H'
  obtain ⟨x8_1, rfl, HA, HK1, ⟨m1, rfl⟩⟩ := hrel
  cases gk with
  | zero => exact absurd HA.out (by simp [cmp_Or_int.l0])
  | succ k1 =>
   have H := HA.out
   clear HA
   simp only [cmp_Or_int.l0] at H
   by_cases c2 : x8_1 < (l0.length : Int)
   ·rw [if_pos c2] at H
    have c2b0 : decide (x8_1 < (l0.length : Int)) = true := decide_eq_true c2
    clear c2
    by_cases c3 : 0 ≤ x8_1
    ·rw [if_pos c3] at H
     have c3b0 : decide (0 ≤ x8_1) = true := decide_eq_true c3
     clear c3
     by_cases c4 : x8_1 < (l0.length : Int)
     ·rw [if_pos c4] at H
      have c4b0 : decide (x8_1 < (l0.length : Int)) = true := decide_eq_true c4
      clear c4
      by_cases c5 : (rd l0 x8_1) = 0
      ·rw [if_pos c5] at H
       have c5b0 : ((rd l0 x8_1) == 0) = true := beq_iff_eq.mpr c5
       have c5b1 : ((rd l0 x8_1) != 0) = false := bne_eq_false_iff_eq.mpr c5
       clear c5
       have H' := Aside0.mk H
       clear H
       have p101 : 0 ≤ (x8_1 : Int) := of_decide_eq_true k91_
       have q101 : x8_1 < (l0.length : Int) := of_decide_eq_true k91_
       obtain ⟨ad101, e101, hx101_0⟩ := Kd.at_int HR0.out x8_1 p101 q101
       cases e101
       replace p101 := eq_true p101
       replace q101 := eq_true q101
       go_wp2
       go_roundg k1
       case measure => have := HK1.out; omega
       case rel => exact ⟨(wrap64 (x8_1 + 1)), k92_, H', ⟨k96_⟩, k90_⟩
      ·rw [if_neg c5] at H
       have c5b0 : ((rd l0 x8_1) == 0) = false := beq_eq_false_iff_ne.mpr c5
       have c5b1 : ((rd l0 x8_1) != 0) = true := bne_iff_ne.mpr c5
       obtain rfl := Option.some.inj H
       have p101 : 0 ≤ (x8_1 : Int) := of_decide_eq_true k91_
       have q101 : x8_1 < (l0.length : Int) := of_decide_eq_true k91_
       obtain ⟨ad101, e101, hx101_0⟩ := Kd.at_int HR0.out x8_1 p101 q101
       cases e101
       replace p101 := eq_true p101
       replace q101 := eq_true q101
       go_wp2
       go_ret
       exact ⟨k92_, k90_⟩
     ·rw [if_neg c4] at H
      exact absurd H (by simp)
    ·rw [if_neg c3] at H
     exact absurd H (by simp)
   ·rw [if_neg c2] at H
    have c2b0 : decide (x8_1 < (l0.length : Int)) = false := decide_eq_false c2
    clear c2
    obtain rfl := Option.some.inj H
    go_wp2
    go_ret
    exact ⟨k92_, k90_⟩
end Go.Proofs.YtbnmajedmajfoaaGreatDoor.P
namespace Go.Proofs.YtbnmajedmajfoaaGreatDoor.P
open Go.RowKit Go.Proofs.YtbnmajedmajfoaaGreatDoorW.PrintWords Go.Proofs.YtbnmajedmajfoaaGreatDoorW.PrintLast Go.Proofs.YtbnmajedmajfoaaGreatDoorW.PrintMore
attribute [local go_sem] max2_int min2_int max_two min_two max_three min_three max_four min_four
set_option linter.unusedVariables false
set_option linter.unusedSimpArgs false
def cmp_isNaN_int.f (a0 : Int) : Option (Bool) := some (a0 != a0)
set_option maxHeartbeats 8000000 in
set_option maxRecDepth 100000 in
theorem cmp_isNaN_int.calls (a0 : Int) (r : Bool) (w : World) (h : cmp_isNaN_int.f a0 = some r) :
  Calls Tryz.prog 102 #[.int .i64 a0] w fun e w' => e = .returned (.bool r) ∧ Drawn0 w w' := by
 have H : (some (a0 != a0)) = some r := h
 clear h
 obtain rfl := Option.some.inj H
 go_enter Tryz.func102, Tryz.ntmps102
 go_wp2
 go_ret
 exact ⟨k92_, k90_⟩
end Go.Proofs.YtbnmajedmajfoaaGreatDoor.P
namespace Go.Proofs.YtbnmajedmajfoaaGreatDoor.P
open Go.RowKit Go.Proofs.YtbnmajedmajfoaaGreatDoorW.PrintWords Go.Proofs.YtbnmajedmajfoaaGreatDoorW.PrintLast Go.Proofs.YtbnmajedmajfoaaGreatDoorW.PrintMore
attribute [local go_sem] max2_int min2_int max_two min_two max_three min_three max_four min_four
set_option linter.unusedVariables false
set_option linter.unusedSimpArgs false
def cmp_Compare_int.f (a0 : Int) (a1 : Int) : Option (Int) := (cmp_isNaN_int.f a0).bind fun t101 => ((cmp_isNaN_int.f a1).bind fun t102 => (if t101 = true then (if t102 = true then (some 0) else (some (-1))) else (if t102 = true then (some 1) else (if a0 < a1 then (some (-1)) else (if a0 > a1 then (some 1) else (some 0))))))
set_option maxHeartbeats 8000000 in
set_option maxRecDepth 100000 in
theorem cmp_Compare_int.calls (a0 : Int) (a1 : Int) (r : Int) (w : World) (h : cmp_Compare_int.f a0 a1 = some r) :
  Calls Tryz.prog 81 #[.int .i64 a0, .int .i64 a1] w fun e w' => e = .returned (.int .i64 r) ∧ Drawn0 w w' := by
 have H : ((cmp_isNaN_int.f a0).bind fun t101 => ((cmp_isNaN_int.f a1).bind fun t102 => (if t101 = true then (if t102 = true then (some 0) else (some (-1))) else (if t102 = true then (some 1) else (if a0 < a1 then (some (-1)) else (if a0 > a1 then (some 1) else (some 0))))))) = some r := h
 clear h
 obtain ⟨t101, A3, H⟩ := obnd_ H
 (try dsimp only at H)
 obtain ⟨t102, A4, H⟩ := obnd_ H
 (try dsimp only at H)
 by_cases c5 : t101 = true
 ·subst c5
  rw [if_pos rfl] at H
  by_cases c6 : t102 = true
  ·subst c6
   rw [if_pos rfl] at H
   obtain rfl := Option.some.inj H
   go_enter Tryz.func81, Tryz.ntmps81
   go_wp2_with (first | ((with_reducible refine gate_callee (f := 102) rfl ?_); refine goesL_ (some 8) rfl rfl Tryz.func102 (by kernel_rfl) rfl #[.int .i64 a0] rfl k59_ ?_; (with_reducible refine (cmp_isNaN_int.calls a0 true _ A3.out).mono ?_); rintro e w' ⟨rfl, ⟨nd, rfl⟩⟩; refine ⟨_, rfl, ?_⟩) | ((with_reducible refine gate_callee (f := 102) rfl ?_); refine goesL_ (some 10) rfl rfl Tryz.func102 (by kernel_rfl) rfl #[.int .i64 a1] rfl k59_ ?_; (with_reducible refine (cmp_isNaN_int.calls a1 true _ A4.out).mono ?_); rintro e w' ⟨rfl, ⟨nd, rfl⟩⟩; refine ⟨_, rfl, ?_⟩))
   go_ret
   exact ⟨k92_, k90_⟩
  ·replace c6 := Bool.eq_false_iff.mpr c6
   subst c6
   rw [if_neg (show ¬ (false = true) by decide)] at H
   obtain rfl := Option.some.inj H
   go_enter Tryz.func81, Tryz.ntmps81
   go_wp2_with (first | ((with_reducible refine gate_callee (f := 102) rfl ?_); refine goesL_ (some 8) rfl rfl Tryz.func102 (by kernel_rfl) rfl #[.int .i64 a0] rfl k59_ ?_; (with_reducible refine (cmp_isNaN_int.calls a0 true _ A3.out).mono ?_); rintro e w' ⟨rfl, ⟨nd, rfl⟩⟩; refine ⟨_, rfl, ?_⟩) | ((with_reducible refine gate_callee (f := 102) rfl ?_); refine goesL_ (some 10) rfl rfl Tryz.func102 (by kernel_rfl) rfl #[.int .i64 a1] rfl k59_ ?_; (with_reducible refine (cmp_isNaN_int.calls a1 false _ A4.out).mono ?_); rintro e w' ⟨rfl, ⟨nd, rfl⟩⟩; refine ⟨_, rfl, ?_⟩))
   go_ret
   exact ⟨k92_, k90_⟩
 ·replace c5 := Bool.eq_false_iff.mpr c5
  subst c5
  rw [if_neg (show ¬ (false = true) by decide)] at H
  by_cases c7 : t102 = true
  ·subst c7
   rw [if_pos rfl] at H
   obtain rfl := Option.some.inj H
   go_enter Tryz.func81, Tryz.ntmps81
   go_wp2_with (first | ((with_reducible refine gate_callee (f := 102) rfl ?_); refine goesL_ (some 8) rfl rfl Tryz.func102 (by kernel_rfl) rfl #[.int .i64 a0] rfl k59_ ?_; (with_reducible refine (cmp_isNaN_int.calls a0 false _ A3.out).mono ?_); rintro e w' ⟨rfl, ⟨nd, rfl⟩⟩; refine ⟨_, rfl, ?_⟩) | ((with_reducible refine gate_callee (f := 102) rfl ?_); refine goesL_ (some 10) rfl rfl Tryz.func102 (by kernel_rfl) rfl #[.int .i64 a1] rfl k59_ ?_; (with_reducible refine (cmp_isNaN_int.calls a1 true _ A4.out).mono ?_); rintro e w' ⟨rfl, ⟨nd, rfl⟩⟩; refine ⟨_, rfl, ?_⟩))
   go_ret
   exact ⟨k92_, k90_⟩
  ·replace c7 := Bool.eq_false_iff.mpr c7
   subst c7
   rw [if_neg (show ¬ (false = true) by decide)] at H
   by_cases c8 : a0 < a1
   ·rw [if_pos c8] at H
    have c8b0 : decide (a0 < a1) = true := decide_eq_true c8
    clear c8
    obtain rfl := Option.some.inj H
    go_enter Tryz.func81, Tryz.ntmps81
    go_wp2_with (first | ((with_reducible refine gate_callee (f := 102) rfl ?_); refine goesL_ (some 8) rfl rfl Tryz.func102 (by kernel_rfl) rfl #[.int .i64 a0] rfl k59_ ?_; (with_reducible refine (cmp_isNaN_int.calls a0 false _ A3.out).mono ?_); rintro e w' ⟨rfl, ⟨nd, rfl⟩⟩; refine ⟨_, rfl, ?_⟩) | ((with_reducible refine gate_callee (f := 102) rfl ?_); refine goesL_ (some 10) rfl rfl Tryz.func102 (by kernel_rfl) rfl #[.int .i64 a1] rfl k59_ ?_; (with_reducible refine (cmp_isNaN_int.calls a1 false _ A4.out).mono ?_); rintro e w' ⟨rfl, ⟨nd, rfl⟩⟩; refine ⟨_, rfl, ?_⟩))
    go_ret
    exact ⟨k92_, k90_⟩
   ·rw [if_neg c8] at H
    have c8b0 : decide (a0 < a1) = false := decide_eq_false c8
    clear c8
    by_cases c9 : a0 > a1
    ·rw [if_pos c9] at H
     have c9b0 : decide (a1 < a0) = true := decide_eq_true c9
     clear c9
     obtain rfl := Option.some.inj H
     go_enter Tryz.func81, Tryz.ntmps81
     go_wp2_with (first | ((with_reducible refine gate_callee (f := 102) rfl ?_); refine goesL_ (some 8) rfl rfl Tryz.func102 (by kernel_rfl) rfl #[.int .i64 a0] rfl k59_ ?_; (with_reducible refine (cmp_isNaN_int.calls a0 false _ A3.out).mono ?_); rintro e w' ⟨rfl, ⟨nd, rfl⟩⟩; refine ⟨_, rfl, ?_⟩) | ((with_reducible refine gate_callee (f := 102) rfl ?_); refine goesL_ (some 10) rfl rfl Tryz.func102 (by kernel_rfl) rfl #[.int .i64 a1] rfl k59_ ?_; (with_reducible refine (cmp_isNaN_int.calls a1 false _ A4.out).mono ?_); rintro e w' ⟨rfl, ⟨nd, rfl⟩⟩; refine ⟨_, rfl, ?_⟩))
     go_ret
     exact ⟨k92_, k90_⟩
    ·rw [if_neg c9] at H
     have c9b0 : decide (a1 < a0) = false := decide_eq_false c9
     clear c9
     obtain rfl := Option.some.inj H
     go_enter Tryz.func81, Tryz.ntmps81
     go_wp2_with (first | ((with_reducible refine gate_callee (f := 102) rfl ?_); refine goesL_ (some 8) rfl rfl Tryz.func102 (by kernel_rfl) rfl #[.int .i64 a0] rfl k59_ ?_; (with_reducible refine (cmp_isNaN_int.calls a0 false _ A3.out).mono ?_); rintro e w' ⟨rfl, ⟨nd, rfl⟩⟩; refine ⟨_, rfl, ?_⟩) | ((with_reducible refine gate_callee (f := 102) rfl ?_); refine goesL_ (some 10) rfl rfl Tryz.func102 (by kernel_rfl) rfl #[.int .i64 a1] rfl k59_ ?_; (with_reducible refine (cmp_isNaN_int.calls a1 false _ A4.out).mono ?_); rintro e w' ⟨rfl, ⟨nd, rfl⟩⟩; refine ⟨_, rfl, ?_⟩))
     go_ret
     exact ⟨k92_, k90_⟩
end Go.Proofs.YtbnmajedmajfoaaGreatDoor.P
namespace Go.Proofs.YtbnmajedmajfoaaGreatDoor.P
open Go.RowKit Go.Proofs.YtbnmajedmajfoaaGreatDoorW.PrintWords Go.Proofs.YtbnmajedmajfoaaGreatDoorW.PrintLast Go.Proofs.YtbnmajedmajfoaaGreatDoorW.PrintMore
attribute [local go_sem] max2_int min2_int max_two min_two max_three min_three max_four min_four
set_option linter.unusedVariables false
set_option linter.unusedSimpArgs false
def impl_compareRules.f (k : Nat) (a0_0 : Int) (a0_1 : Int) (a1_0 : Int) (a1_1 : Int) : Option (Int) := (cmp_Compare_int.f a0_0 a1_0).bind fun t103 => ((cmp_Compare_int.f a0_1 a1_1).bind fun t104 => ((cmp_Or_int.f k (([t103, t104] : List Int))).bind fun t108 => (some t108)))
def impl_compareRules.T1 : Bool × List (List Nat × List Nat) := (true, [([], []), ([0], [0]), ([], []), ([2], [2]), ([1, 3], [1, 3]), ([], []), ([5], [5]), ([], []), ([7], [7]), ([6, 8, 4], [6, 8]), ([4, 9], [4, 9]), ([10, 9], [10]), ([11, 11, 0, 1, 2, 3, 4, 5, 6, 7, 8, 9, 10, 11], [11])])
def impl_compareRules.B1 : List Nat := [0, 1, 0, 4, 15, 0, 32, 0, 128, 511, 1023, 2047, 4095]
theorem impl_compareRules.tab1 : rtab .any (opsOf Tryz.f52 1) = impl_compareRules.T1 := by kernel_rfl
theorem impl_compareRules.bits1 : waitsOk impl_compareRules.T1.2 impl_compareRules.B1 = true := by kernel_rfl
set_option maxHeartbeats 8000000 in
set_option maxRecDepth 100000 in
theorem impl_compareRules.calls (k : Nat) (a0_0 : Int) (a0_1 : Int) (a1_0 : Int) (a1_1 : Int) (r : Int) (w : World) (h : impl_compareRules.f k a0_0 a0_1 a1_0 a1_1 = some r) :
  Calls Tryz.prog 52 #[.agg #[.int .i64 a0_0, .int .i64 a0_1], .agg #[.int .i64 a1_0, .int .i64 a1_1]] w fun e w' => e = .returned (.int .i64 r) ∧ Below w.heap.size w w' := by
 have hu33 := Tryz.underlying33
 have HB := Aside0.mk (Below.refl w.heap.size w)
 have H : ((cmp_Compare_int.f a0_0 a1_0).bind fun t103 => ((cmp_Compare_int.f a0_1 a1_1).bind fun t104 => ((cmp_Or_int.f k (([t103, t104] : List Int))).bind fun t108 => (some t108)))) = some r := h
 clear h
 obtain ⟨t103, A3, H⟩ := obnd_ H
 (try dsimp only at H)
 obtain ⟨t104, A4, H⟩ := obnd_ H
 (try dsimp only at H)
 obtain ⟨y105, hy_⟩ : ∃ y_ : List Int, y_ = (([t103, t104] : List Int)) := ⟨_, rfl⟩
 replace H : ((cmp_Or_int.f k y105).bind fun t108 => (some t108)) = some r := k35_
 have Ny105 := Aside0.mk hy_
 clear hy_
 obtain ⟨t108, A5, H⟩ := obnd_ H
 (try dsimp only at H)
 obtain rfl := Option.some.inj H
 go_enter Tryz.func52, Tryz.ntmps52
 try go_wp2_with (first | ((with_reducible refine gate_dst (N := 2) rfl ?_); refine box_event ?hg (N := 2) ?hd (cs := #[.int .i64 a0_0, .int .i64 a0_1]) (t := 33) ?hr ?_; (case hd => rfl); (case hg => rfl); (case hr => exact k94_); intro gb101 hg w6 hbox hb; have BK101 := Aside0.mk (hbox); have GW101 := Aside0.mk (HB.ge hg); have GE101 := Aside0.mk (HB.ge hg); replace HB := HB.mw hb; clear hb hbox hg) | ((with_reducible refine gate_dst (N := 3) rfl ?_); refine box_event ?hg (N := 3) ?hd (cs := #[.int .i64 a1_0, .int .i64 a1_1]) (t := 33) ?hr ?_; (case hd => rfl); (case hg => rfl); (case hr => exact k94_); intro gb102 hg w7 hbox hb; have BK102 := Aside0.mk (hbox); have GW102 := Aside0.mk ((by rw [hg]; exact (below_size k71_) : w.heap.size ≤ gb102)); have GE102 := Aside0.mk ((by rw [hg]; exact (below_size k71_) : w.heap.size ≤ gb102)); replace HB := Aside0.mk (below_step k71_ hb); have NB101_102 := Aside0.mk (BK101.ne hg); have NB102_101 := Aside0.mk (BK101.ne hg).symm; replace BK101 := BK101.mw hb; clear hb hbox hg))
 replace BK101 := Aside0.mk (blk_drew BK101.out)
 replace BK102 := Aside0.mk (blk_drew BK102.out)
 replace HB := Aside0.mk (below_drew1 HB.out)
 refine start_ (n := 13) (S := fun w' => w'.cell? ⟨gb101, 0, none⟩ = some (.int .i64 a0_0) ∧ w'.cell? ⟨gb101, 1, none⟩ = some (.int .i64 a0_1) ∧ w'.cell? ⟨gb102, 0, none⟩ = some (.int .i64 a1_0) ∧ w'.cell? ⟨gb102, 1, none⟩ = some (.int .i64 a1_1)) (ds := []) (rA_ [0, 13]) (by kernel_rfl) rfl rfl ⟨(blk_cell BK101.out 0).trans rfl, (blk_cell BK101.out 1).trans rfl, (blk_cell BK102.out 0).trans rfl, (blk_cell BK102.out 1).trans rfl⟩ (fun hHeld => ?_); refine with_tabW impl_compareRules.tab1 impl_compareRules.bits1 (fun HT_ HW_ => ?_)
 generalize w7.drew = w8 at BK101 BK102 HB hHeld ⊢
 refine pu_ 0 5 [1, 12] ?_
 refine pu_ 2 7 [1, 1, 1, 10] ?_
 refine pu_ 5 10 [1, 1, 1, 2, 1, 7] ?_
 refine pu_ 7 12 [1, 1, 1, 2, 1, 1, 1, 5] ?_
 refine ta4_ 1 6 [3, 2, 1, 1, 1, 5] ?_
 refine ta4_ 3 8 [4, 1, 1, 1, 1, 5] ?_
 refine ta4_ 6 11 [4, 1, 3, 5] ?_
 refine ta4_ 8 13 [4, 1, 4, 4] ?_
 refine one_ (i := 4) (N := some 9) (rA_ [9, 4]) rfl rfl (one_of HT_.out (by kernel_rfl)) (by decide) (fun K hK => ?_)
 refine goes_ Tryz.func81 (by kernel_rfl) rfl #[.int .i64 a0_0, .int .i64 a1_0] (by rfl) rfl rfl k59_ ?_
 with_reducible refine (cmp_Compare_int.calls a0_0 a1_0 t103 _ A3.out).mono ?_
 rintro e w' ⟨rfl, ⟨nd, rfl⟩⟩
 refine ⟨_, rfl, ?_⟩
 refine hK.out _ _ ⟨(blk_cell BK101.out 0).trans rfl, (blk_cell BK101.out 1).trans rfl, (blk_cell BK102.out 0).trans rfl, (blk_cell BK102.out 1).trans rfl⟩ (fun hHeld => ?_)
 clear hK K
 refine nm_ 9 ?_
 refine one_ (i := 9) (N := some 14) (rA_ [10, 3]) rfl rfl (one_of HT_.out (by kernel_rfl)) (by decide) (fun K hK => ?_)
 refine goes_ Tryz.func81 (by kernel_rfl) rfl #[.int .i64 a0_1, .int .i64 a1_1] (by rfl) rfl rfl k59_ ?_
 with_reducible refine (cmp_Compare_int.calls a0_1 a1_1 t104 _ A4.out).mono ?_
 rintro e w' ⟨rfl, ⟨nd, rfl⟩⟩
 refine ⟨_, rfl, ?_⟩
 refine hK.out _ _ ⟨(blk_cell BK101.out 0).trans rfl, (blk_cell BK101.out 1).trans rfl, (blk_cell BK102.out 0).trans rfl, (blk_cell BK102.out 1).trans rfl⟩ (fun hHeld => ?_)
 clear hK K
 refine nm_ 14 ?_
 refine one_ (i := 10) (N := some 15) (rA_ [11, 2]) rfl rfl (one_of HT_.out (by kernel_rfl)) (by decide) (fun K hK => ?_)
 refine Kd.R_lit_step (Kd.int .i64) _ 3 ?hg (N := 15) ?hd (xs := ([t103, t104] : List Int)) (inner := [.int .i64 t103, .int .i64 t104]) (ok := fun _ => True) (okp := fun _ => True) ?hr ?hp (fun _ hk => hk) trivial (Below.refl _ _) (Nat.le_refl _) (by simp) ?_; (case hd => rfl); (case hg => rfl); (case hr => exact k94_); (case hp => exact (Reps.one (show Kd.M (Kd.int .i64) _ _ _ t103 [.int .i64 t103] from rfl) (Reps.one (show Kd.M (Kd.int .i64) _ _ _ t104 [.int .i64 t104] from rfl) (Reps.none _ _))))
 intro v106 w9 ho10 hb hg_ hnew_
 clear hg_ hnew_
 (first | rw [← Ny105.out] at ho10 | (simp only [Int.reduceToNat] at ho10; rw [← Ny105.out] at ho10))
 have HO107 := Aside0.mk (Kd.R_lower ho10 (below_size k65_))
 replace BK101 := BK101.mw hb
 replace BK102 := BK102.mw hb
 replace HB := Aside0.mk (below_step k65_ hb)
 clear hb ho10
 obtain ⟨Ao11, co11, eo11⟩ := Kd.R_slice HO107.out
 (first | subst eo11 | (injection eo11 with f1_ f2_ f3_; have f4_ := f1_.symm; have f5_ := f3_.symm; clear f1_ f2_ f3_; subst f4_; subst f5_))
 refine hK.out _ _ ⟨(blk_cell BK101.out 0).trans rfl, (blk_cell BK101.out 1).trans rfl, (blk_cell BK102.out 0).trans rfl, (blk_cell BK102.out 1).trans rfl⟩ (fun hHeld => ?_)
 clear hK K
 refine nm_ 15 ?_
 refine one_ (i := 11) (N := some 16) (rA_ [12, 1]) rfl rfl (one_of HT_.out (by kernel_rfl)) (by decide) (fun K hK => ?_)
 refine goes_ Tryz.func80 (by kernel_rfl) rfl #[.slice Ao11 y105.length co11] (by rfl) rfl rfl k59_ ?_
 with_reducible refine (cmp_Or_int.calls k _ _ y105 t108 _ ?side1 ?side2 A5.out).mono ?_
 (case side1 => repeat (first | exact (Kd.R_reads' HO107.out).2.2 | (with_reducible refine Kd.C_alloc ?_ _) | (with_reducible refine Kd.C_drewN ?_ _) | (with_reducible refine Kd.C_drew ?_)))
 (case side2 => exact (Kd.R_reads' HO107.out).2.1)
 rintro e w' ⟨rfl, ⟨nd, rfl⟩⟩
 refine ⟨_, rfl, ?_⟩
 refine hK.out _ _ ⟨(blk_cell BK101.out 0).trans rfl, (blk_cell BK101.out 1).trans rfl, (blk_cell BK102.out 0).trans rfl, (blk_cell BK102.out 1).trans rfl⟩ (fun hHeld => ?_)
 clear hK K
 refine nm_ 16 ?_
 refine pu_ 12 4 [13] ?_
 refine done_ (done_of HT_.out (by kernel_rfl)) ?_
 try go_wp2
 go_ret
 exact ⟨k70_, k65_⟩
end Go.Proofs.YtbnmajedmajfoaaGreatDoor.P
