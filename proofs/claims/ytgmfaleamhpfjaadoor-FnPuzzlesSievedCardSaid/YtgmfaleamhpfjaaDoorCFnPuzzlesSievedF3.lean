/- What functions of the program answer. Proved in this text: its theorems. Conditions: as each theorem states them. -/
import Derived.Test.YtgmfaleamhpfjaaDoorCFnPuzzlesSievedP
import Derived.Test.YtgmfaleamhpfjaaDoorCFnPuzzlesSievedF2
import Derived.Test.YtgmfaleamhpfjaaDoorCFnPuzzlesSievedF0
import Derived.Test.YtgmfaleamhpfjaaDoorCFnPuzzlesSievedF1
namespace Go.Proofs.YtgmfaleamhpfjaaDoor.P
open Go.RowKit Go.Proofs.YtgmfaleamhpfjaaDoorW.PrintWords Go.Proofs.YtgmfaleamhpfjaaDoorW.PrintLast Go.Proofs.YtgmfaleamhpfjaaDoorW.PrintMore
attribute [local go_sem] max2_int min2_int max_two min_two max_three min_three max_four min_four
set_option linter.unusedVariables false
set_option linter.unusedSimpArgs false
def impl_Rule_30.f (k : Nat) (l0 : List (SRule)) (a1_0 : Int) (a1_1 : Int) : Option (Bool) := (impl_Rule_53.f k l0 a1_0 a1_1).bind fun t102 => (some (decide (t102 ≥ 0)))
set_option maxHeartbeats 8000000 in
set_option maxRecDepth 100000 in
theorem impl_Rule_30.calls (k : Nat) (A0 : Option Addr) (c0 : Nat) (l0 : List (SRule)) (a1_0 : Int) (a1_1 : Int) (r : Bool) (w : World) (hr0 : Kd.C kRule w A0 l0.length l0) (hc0 : l0.length ≤ c0) (h : impl_Rule_30.f k l0 a1_0 a1_1 = some r) :
  Calls Tryd.prog 30 #[.slice A0 l0.length c0, .agg #[.int .i64 a1_0, .int .i64 a1_1]] w fun e w' => e = .returned (.bool r) ∧ Below w.heap.size w w' := by
 have hu61 := Tryd.underlying61
 have HR0 := Aside0.mk hr0
 have HC0 := Aside0.mk hc0
 clear hr0 hc0
 have HB := Aside0.mk (Below.refl w.heap.size w)
 have H : ((impl_Rule_53.f k l0 a1_0 a1_1).bind fun t102 => (some (decide (t102 ≥ 0)))) = some r := h
 clear h
 obtain ⟨t102, A3, H⟩ := obnd_ H
 (try dsimp only at H)
 obtain rfl := Option.some.inj H
 go_enter Tryd.func30, Tryd.ntmps30
 go_wp2_with (first | ((with_reducible refine gate_dst (N := 3) rfl ?_); refine box_event ?hg (N := 3) ?hd (cs := #[.int .i64 a1_0, .int .i64 a1_1]) (t := 61) ?hr ?_; (case hd => rfl); (case hg => rfl); (case hr => exact k99_); intro gb101 hg w4 hbox hb; have BK101 := Aside0.mk (hbox); have GW101 := Aside0.mk (HB.ge hg); have GE101 := Aside0.mk (HB.ge hg); replace HB := HB.mw hb; clear hb hbox hg; have hcz5_0 : w4.cell? ⟨gb101, 0, none⟩ = some (.int .i64 a1_0) := (blk_cell BK101.out 0).trans rfl; have hcz5_1 : w4.cell? ⟨gb101, 1, none⟩ = some (.int .i64 a1_1) := (blk_cell BK101.out 1).trans rfl; have hfz5_0 := blk_frozen BK101.out 0; have hfz5_1 := blk_frozen BK101.out 1) | ((with_reducible refine gate_callee (f := 53) rfl ?_); refine goesL_ (some 7) rfl rfl Tryd.func53 (by kernel_rfl) rfl #[.slice A0 l0.length c0, .agg #[.int .i64 a1_0, .int .i64 a1_1]] rfl k70_ ?_; (with_reducible refine (impl_Rule_53.calls k _ _ l0 a1_0 a1_1 t102 _ ?side1 ?side2 A3.out).mono ?_); (case side1 => exact k54_); (case side2 => exact HC0.out); rintro e w6 ⟨rfl, hb⟩; refine ⟨_, rfl, ?_⟩; replace BK101 := BK101.mw hb; replace HB := Aside0.mk (below_step k82_ hb); (try clear hb)))
 go_ret
 exact ⟨k81_, k82_⟩
end Go.Proofs.YtgmfaleamhpfjaaDoor.P
namespace Go.Proofs.YtgmfaleamhpfjaaDoor.P
open Go.RowKit Go.Proofs.YtgmfaleamhpfjaaDoorW.PrintWords Go.Proofs.YtgmfaleamhpfjaaDoorW.PrintLast Go.Proofs.YtgmfaleamhpfjaaDoorW.PrintMore
attribute [local go_sem] max2_int min2_int max_two min_two max_three min_three max_four min_four
set_option linter.unusedVariables false
set_option linter.unusedSimpArgs false
def nextZ (z : Int) : Int := Int.tmod (wrap64 ((wrap64 (z * 177)) + 2221)) 10007
def impl_MakePuzzle.l0 : Nat → Int → Int → Int → List SRule → Int → Option (ByteArray × Int × Bool)
  | 0, _, _, _, _, _ => none
  | k + 1, a0, a1, z, l, again => if (l.length : Int) < a1 then (if (wrap64 (Int.tmod (nextZ z) 9 + 2)) = 0 then none else ((impl_Rule_30.f k l (wrap64 (Int.tmod (nextZ z) 9 + 2)) (Int.tmod (nextZ (nextZ z)) (wrap64 (Int.tmod (nextZ z) 9 + 2)))).bind fun t => (if t = true then (if again = 20 then some ((⟨#[]⟩ : ByteArray), 0, false) else impl_MakePuzzle.l0 k a0 a1 (nextZ (nextZ z)) l (wrap64 (again + 1))) else (if l.length < 8796093022208 then impl_MakePuzzle.l0 k a0 a1 (nextZ (nextZ z)) (l ++ [(⟨(wrap64 (Int.tmod (nextZ z) 9 + 2)), (Int.tmod (nextZ (nextZ z)) (wrap64 (Int.tmod (nextZ z) 9 + 2)))⟩ : SRule)]) again else none)))) else ((impl_patternOf.f k l a0).bind fun s => some (s, a1, true))
def impl_MakePuzzle.f (k : Nat) (a0 a1 a2 : Int) : Option (ByteArray × Int × Bool) := if a0 < 1 ∨ a0 > 48 ∨ a1 < 0 ∨ a1 > 3 ∨ a2 < 0 ∨ a2 > 9999 then some ((⟨#[]⟩ : ByteArray), 0, false) else impl_MakePuzzle.l0 k a0 a1 a2 [] 0
def MkSt (w : World) (g1 gz : Nat) (ok : Nat → Prop) (z : Int) (v : Value) (l : List SRule) (W : World) : Prop :=
  w.heap.size ≤ g1 ∧ w.heap.size ≤ gz ∧ (∀ k, ok k → k ≠ gz) ∧ W.heap[g1]? = some (.cells #[.string (⟨#[]⟩ : ByteArray), .int .i64 0] 27 (0, 0)) ∧ W.heap[gz]? = some (.cells #[.int .i64 z] 3 (0, 0)) ∧ Kd.R kRule 61 W w.heap.size ok v l ∧ Below w.heap.size w W
theorem MkSt.ne {w : World} {g1 gz : Nat} {ok : Nat → Prop} {z : Int} {v : Value} {l : List SRule} {W : World} (h : MkSt w g1 gz ok z v l W) : g1 ≠ gz := blk_ne h.2.2.2.1 h.2.2.2.2.1 (by decide)
theorem MkSt.put {w : World} {g1 gz : Nat} {ok : Nat → Prop} {z : Int} {v : Value} {l : List SRule} {W : World} (h : MkSt w g1 gz ok z v l W) (g j : Nat) (u : Value) (h1 : g1 ≠ g) (h2 : gz ≠ g) (h3 : ∀ k, ok k → k ≠ g) (h4 : w.heap.size ≤ g) : MkSt w g1 gz ok z v l (W.setCell ⟨g, j, none⟩ u) :=
  ⟨h.1, h.2.1, h.2.2.1, blk_far h.2.2.2.1 h1 _, blk_far h.2.2.2.2.1 h2 _, Kd.R_far (p := ⟨g, j, none⟩) h.2.2.2.2.2.1 h3 u, below_set h.2.2.2.2.2.2 h4⟩
theorem MkSt.putz {w : World} {g1 gz : Nat} {ok : Nat → Prop} {z : Int} {v : Value} {l : List SRule} {W : World} (h : MkSt w g1 gz ok z v l W) (z1 : Int) : MkSt w g1 gz ok z1 v l (W.setCell ⟨gz, 0, none⟩ (.int .i64 z1)) :=
  ⟨h.1, h.2.1, h.2.2.1, blk_far h.2.2.2.1 h.ne _, blk_put h.2.2.2.2.1 0 _ rfl, Kd.R_far (p := ⟨gz, 0, none⟩) h.2.2.2.2.2.1 h.2.2.1 _, below_set h.2.2.2.2.2.2 h.2.1⟩
theorem MkSt.below {w : World} {g1 gz : Nat} {ok : Nat → Prop} {z : Int} {v : Value} {l : List SRule} {W W' : World} (h : MkSt w g1 gz ok z v l W) (hb : Below W.heap.size W W') : MkSt w g1 gz ok z v l W' :=
  ⟨h.1, h.2.1, h.2.2.1, blk_below h.2.2.2.1 hb, blk_below h.2.2.2.2.1 hb, Kd.R_below h.2.2.2.2.2.1 hb, below_step h.2.2.2.2.2.2 hb⟩
theorem MkSt.mono {w : World} {g1 gz : Nat} {ok ok' : Nat → Prop} {z : Int} {v : Value} {l : List SRule} {W : World} (h : MkSt w g1 gz ok z v l W) (h1 : ∀ k, ok k → ok' k) (h2 : ∀ k, ok' k → k ≠ gz) : MkSt w g1 gz ok' z v l W :=
  ⟨h.1, h.2.1, h2, h.2.2.2.1, h.2.2.2.2.1, Kd.R_mono h.2.2.2.2.2.1 h1, h.2.2.2.2.2.2⟩
theorem MkSt.elder {w : World} {g1 gz : Nat} {ok : Nat → Prop} {z : Int} {v : Value} {l : List SRule} {W W' : World} (h : MkSt w g1 gz ok z v l W) (g : Nat) (hg : g = W.heap.size) (hb : Below W.heap.size W W') : MkSt w g1 gz (fun k => ok k ∧ k ≠ g) z v l W' ∧ g1 ≠ g ∧ gz ≠ g ∧ w.heap.size ≤ g :=
  ⟨MkSt.below ⟨h.1, h.2.1, fun k hk => h.2.2.1 k hk.1, h.2.2.2.1, h.2.2.2.2.1, Kd.R_elderB h.2.2.2.2.2.1 g (Nat.le_of_eq hg.symm), h.2.2.2.2.2.2⟩ hb, by have := blk_lt h.2.2.2.1; omega, by have := blk_lt h.2.2.2.2.1; omega, by have := below_size h.2.2.2.2.2.2; omega⟩
set_option maxHeartbeats 2000000 in
set_option maxRecDepth 100000 in
theorem MkSt.next {w : World} {g1 gz : Nat} {ok : Nat → Prop} {z : Int} {v : Value} {l : List SRule} {W : World} (h : MkSt w g1 gz ok z v l W) :
    Calls Tryd.prog 29 #[.pointer (some ⟨gz, 0, none⟩)] W fun e w' => e = .returned (.int .i64 (nextZ z)) ∧ MkSt w g1 gz ok (nextZ z) v l w' := by
  have hz : W.cell? ⟨gz, 0, none⟩ = some (.int .i64 z) := (blk_cell h.2.2.2.2.1 0).trans rfl
  have hf := blk_frozen h.2.2.2.2.1 0
  have hS := Aside0.mk (h.putz (nextZ z))
  clear h
  unfold nextZ at hS ⊢
  go_enter Tryd.func29, Tryd.ntmps29
  go_wp2
  go_ret
  exact ⟨rfl, hS.out⟩
theorem MkSt.reads {w : World} {g1 gz : Nat} {ok : Nat → Prop} {z : Int} {l : List SRule} {W : World} {A : Option Addr} {c : Nat} (h : MkSt w g1 gz ok z (.slice A l.length c) l W) : l.length ≤ c ∧ Kd.C kRule W A l.length l := (Kd.R_reads' h.2.2.2.2.2.1).2
set_option maxHeartbeats 8000000 in
set_option maxRecDepth 100000 in
theorem mk_bad (a0 a1 a2 : Int) (w : World) (h : a0 < 1 ∨ a0 > 48 ∨ a1 < 0 ∨ a1 > 3 ∨ a2 < 0 ∨ a2 > 9999) :
    Calls Tryd.prog 6 #[.int .i64 a0, .int .i64 a1, .int .i64 a2] w fun e w' => e = .returned (.tuple #[.agg #[.string (⟨#[]⟩ : ByteArray), .int .i64 0], .bool false]) ∧ Below w.heap.size w w' := by
  have hu := Tryd.underlying27
  by_cases c0 : a0 < 1
  · have d0 : decide (a0 < 1) = true := decide_eq_true c0
    clear h c0
    go_enter Tryd.func6, Tryd.ntmps6
    go_wp2
    refine bodyPost_ret (results_ct rfl _ _ w.heap.size 27 #[.string (⟨#[]⟩ : ByteArray), .int .i64 0] (0, 0) _ rfl k44_ Tryd.underlying27 rfl (by kernel_rfl)) rfl ?_
    exact ⟨rfl, k69_⟩
  have d0 : decide (a0 < 1) = false := decide_eq_false c0
  by_cases c1 : a0 > 48
  · have d1 : decide (48 < a0) = true := decide_eq_true c1
    clear h c1
    go_enter Tryd.func6, Tryd.ntmps6
    go_wp2
    refine bodyPost_ret (results_ct rfl _ _ w.heap.size 27 #[.string (⟨#[]⟩ : ByteArray), .int .i64 0] (0, 0) _ rfl k44_ Tryd.underlying27 rfl (by kernel_rfl)) rfl ?_
    exact ⟨rfl, k69_⟩
  have d1 : decide (48 < a0) = false := decide_eq_false c1
  by_cases c2 : a1 < 0
  · have d2 : decide (a1 < 0) = true := decide_eq_true c2
    clear h c2
    go_enter Tryd.func6, Tryd.ntmps6
    go_wp2
    refine bodyPost_ret (results_ct rfl _ _ w.heap.size 27 #[.string (⟨#[]⟩ : ByteArray), .int .i64 0] (0, 0) _ rfl k44_ Tryd.underlying27 rfl (by kernel_rfl)) rfl ?_
    exact ⟨rfl, k69_⟩
  have d2 : decide (a1 < 0) = false := decide_eq_false c2
  by_cases c3 : a1 > 3
  · have d3 : decide (3 < a1) = true := decide_eq_true c3
    clear h c3
    go_enter Tryd.func6, Tryd.ntmps6
    go_wp2
    refine bodyPost_ret (results_ct rfl _ _ w.heap.size 27 #[.string (⟨#[]⟩ : ByteArray), .int .i64 0] (0, 0) _ rfl k44_ Tryd.underlying27 rfl (by kernel_rfl)) rfl ?_
    exact ⟨rfl, k69_⟩
  have d3 : decide (3 < a1) = false := decide_eq_false c3
  by_cases c4 : a2 < 0
  · have d4 : decide (a2 < 0) = true := decide_eq_true c4
    clear h c4
    go_enter Tryd.func6, Tryd.ntmps6
    go_wp2
    refine bodyPost_ret (results_ct rfl _ _ w.heap.size 27 #[.string (⟨#[]⟩ : ByteArray), .int .i64 0] (0, 0) _ rfl k44_ Tryd.underlying27 rfl (by kernel_rfl)) rfl ?_
    exact ⟨rfl, k69_⟩
  have d4 : decide (a2 < 0) = false := decide_eq_false c4
  by_cases c5 : a2 > 9999
  · have d5 : decide (9999 < a2) = true := decide_eq_true c5
    clear h c5
    go_enter Tryd.func6, Tryd.ntmps6
    go_wp2
    refine bodyPost_ret (results_ct rfl _ _ w.heap.size 27 #[.string (⟨#[]⟩ : ByteArray), .int .i64 0] (0, 0) _ rfl k44_ Tryd.underlying27 rfl (by kernel_rfl)) rfl ?_
    exact ⟨rfl, k69_⟩
  have d5 : decide (9999 < a2) = false := decide_eq_false c5
  omega
set_option maxHeartbeats 8000000 in
set_option maxRecDepth 100000 in
theorem mk_good (k : Nat) (a0 a1 a2 : Int) (r1 : ByteArray) (r2 : Int) (r3 : Bool) (w : World) (d0 : decide (a0 < 1) = false) (d1 : decide (48 < a0) = false) (d2 : decide (a1 < 0) = false) (d3 : decide (3 < a1) = false) (d4 : decide (a2 < 0) = false) (d5 : decide (9999 < a2) = false) (H' : Aside0 (impl_MakePuzzle.l0 k a0 a1 a2 [] 0 = some (r1, r2, r3))) :
    Calls Tryd.prog 6 #[.int .i64 a0, .int .i64 a1, .int .i64 a2] w fun e w' => e = .returned (.tuple #[.agg #[.string r1, .int .i64 r2], .bool r3]) ∧ Below w.heap.size w w' := by
  have hu := Tryd.underlying27
  have hu2 := Tryd.underlying61
  go_enter Tryd.func6, Tryd.ntmps6
  go_wp2_with ((with_reducible refine gate_dst (N := 39) rfl ?_); refine Kd.R_lit kRule w.heap.size 61 (w0 := w) ?hg (N := 39) ?hd (xs := ([] : List SRule)) (inner := []) (ok := fun k => k ≠ w.heap.size + 1) (okp := fun _ => False) ?hr ?hp (fun _ hk => hk.elim) ?hf ?hB ?hb (by simp) ?_; (case hd => rfl); (case hg => rfl); (case hr => exact k99_); (case hp => exact (Reps.none _ _)); (case hf => simp); (case hB => exact below_alloc (below_alloc (Below.refl _ _) _) _); (case hb => simp; omega); intro v1 w1 hR hB hg hown; have S := Aside0.mk (show MkSt w w.heap.size (w.heap.size + 1) (fun k => k ≠ w.heap.size + 1) a2 v1 [] w1 from ⟨Nat.le_refl _, by omega, fun _ hk => hk, blk_grown (blk_alloc (blk_new w _) _) hg (by simp), blk_grown (by have h_ := blk_new (w.alloc (.cells #[.string (⟨#[]⟩ : ByteArray), .int .i64 0] 27 (0, 0))) (.cells #[.int .i64 a2] 3 (0, 0)); simpa using h_) hg (by simp), hR, hB⟩); clear hR hB hg hown)
  go_loopg [10, 11] k (fun kq v10 v11 wx => ∃ (z : Int) (l : List SRule) (ag : Int), v11 = .int .i64 ag ∧ Aside0 (impl_MakePuzzle.l0 kq a0 a1 z l ag = some (r1, r2, r3)) ∧ Aside0 (kq ≤ k) ∧ Aside0 (MkSt w w.heap.size (w.heap.size + 1) (fun k => k ≠ w.heap.size + 1) z v10 l wx))
  case atStart => exact ⟨a2, [], 0, rfl, H', ⟨Nat.le_refl _⟩, S⟩
  case round =>
    clear H'
    obtain ⟨z, l, ag, rfl, HA, HK, S⟩ := hrel
    cases gk with
    | zero => exact absurd HA.out (by simp [impl_MakePuzzle.l0])
    | succ k1 =>
      have H := HA.out
      clear HA
      simp only [impl_MakePuzzle.l0] at H
      obtain ⟨Ao, co, eo⟩ := Kd.R_slice S.out.2.2.2.2.2.1
      subst eo
      by_cases c1 : (l.length : Int) < a1
      · rw [if_pos c1] at H
        have c1b : decide ((l.length : Int) < a1) = true := decide_eq_true c1
        clear c1
        by_cases c2 : (wrap64 (Int.tmod (nextZ z) 9 + 2)) = 0
        · rw [if_pos c2] at H
          exact absurd H (by simp)
        · rw [if_neg c2] at H
          have c2b : ((wrap64 (Int.tmod (nextZ z) 9 + 2)) == 0) = false := beq_eq_false_iff_ne.mpr c2
          have c2c : ((wrap64 (Int.tmod (nextZ z) 9 + 2)) != 0) = true := bne_iff_ne.mpr c2
          replace H := Option.bind_eq_some_iff.mp H
          obtain ⟨t, A0_, H⟩ := H
          have A := Aside0.mk A0_
          clear A0_
          cases t with
          | true =>
            rw [if_pos rfl] at H
            by_cases c3 : ag = 20
            · rw [if_pos c3] at H
              have c3b : (ag == 20) = true := beq_iff_eq.mpr c3
              clear c3
              simp only [Option.some.injEq, Prod.mk.injEq] at H
              obtain ⟨rfl, rfl, rfl⟩ := H
              go_wp2_with (first | (refine (MkSt.next S.out).mono ?_; rintro e w1 ⟨rfl, hs_⟩; clear S; have S := Aside0.mk hs_; clear hs_) | ((with_reducible refine gate_dst (N := 13) rfl ?_); (try (refine gate_guard (by rfl) ?_; dsimp only)); refine box_event ?hg (N := 13) ?hd (cs := #[.int .i64 0, .int .i64 0]) (t := 61) ?hr ?_; (case hd => rfl); (case hg => rfl); (case hr => exact k99_); intro gx hg w20 hbox hb; have S2 := Aside0.mk (MkSt.elder S.out gx hg hb); clear S; have BX := Aside0.mk hbox; have hn1 := S2.out.2.1; have hn2 := S2.out.2.2.1; have hcx0 : w20.cell? ⟨gx, 0, none⟩ = some (.int .i64 0) := (blk_cell hbox 0).trans rfl; have hcx1 : w20.cell? ⟨gx, 1, none⟩ = some (.int .i64 0) := (blk_cell hbox 1).trans rfl; have hfx0 := blk_frozen hbox 0; have hfx1 := blk_frozen hbox 1; clear hbox hb hg) | ((with_reducible refine gate_callee (f := 30) rfl ?_); refine goesL_ (some 56) rfl rfl Tryd.func30 (by kernel_rfl) rfl #[.slice Ao l.length co, .agg #[.int .i64 (wrap64 (Int.tmod (nextZ z) 9 + 2)), .int .i64 (Int.tmod (nextZ (nextZ z)) (wrap64 (Int.tmod (nextZ z) 9 + 2)))]] rfl k70_ ?_; (with_reducible refine (impl_Rule_30.calls k1 _ _ l (wrap64 (Int.tmod (nextZ z) 9 + 2)) (Int.tmod (nextZ (nextZ z)) (wrap64 (Int.tmod (nextZ z) 9 + 2))) true _ ?side1 ?side2 A.out).mono ?_); (case side1 => exact k39_); (case side2 => exact (MkSt.reads S2.out.1).1); rintro e w24 ⟨rfl, hb⟩; refine ⟨_, rfl, ?_⟩; have S3 := Aside0.mk (MkSt.below ((S2.out.1.put gx 0 (.int .i64 (wrap64 (Int.tmod (nextZ z) 9 + 2))) hn1 hn2 (fun _ hk => hk.2) S2.out.2.2.2).put gx 1 (.int .i64 (Int.tmod (nextZ (nextZ z)) (wrap64 (Int.tmod (nextZ z) 9 + 2)))) hn1 hn2 (fun _ hk => hk.2) S2.out.2.2.2) hb); have BX3 := Aside0.mk (blk_below (g := gx) (o := .cells #[.int .i64 (wrap64 (Int.tmod (nextZ z) 9 + 2)), .int .i64 (Int.tmod (nextZ (nextZ z)) (wrap64 (Int.tmod (nextZ z) 9 + 2)))] 61 (0, 0)) k57_ hb); clear hb; have hcy0 : w24.cell? ⟨w.heap.size, 0, none⟩ = some (.string (⟨#[]⟩ : ByteArray)) := (blk_cell S3.out.2.2.2.1 0).trans rfl; have hcy1 : w24.cell? ⟨w.heap.size, 1, none⟩ = some (.int .i64 0) := (blk_cell S3.out.2.2.2.1 1).trans rfl; have hfy0 := blk_frozen S3.out.2.2.2.1 0; have hfy1 := blk_frozen S3.out.2.2.2.1 1; have hcw0 : w24.cell? ⟨gx, 0, none⟩ = some (.int .i64 (wrap64 (Int.tmod (nextZ z) 9 + 2))) := (blk_cell BX3.out 0).trans rfl; have hcw1 : w24.cell? ⟨gx, 1, none⟩ = some (.int .i64 (Int.tmod (nextZ (nextZ z)) (wrap64 (Int.tmod (nextZ z) 9 + 2)))) := (blk_cell BX3.out 1).trans rfl))
              refine bodyPost_ret (results_ct rfl _ _ w.heap.size 27 #[.string (⟨#[]⟩ : ByteArray), .int .i64 0] (0, 0) _ rfl (by refine blk_put (cs := #[.string (⟨#[]⟩ : ByteArray), .int .i64 0]) ?_ 1 _ rfl; refine blk_put (cs := #[.string (⟨#[]⟩ : ByteArray), .int .i64 0]) ?_ 0 _ rfl; exact S3.out.2.2.2.1) Tryd.underlying27 rfl (by kernel_rfl)) rfl ?_
              exact ⟨rfl, below_set (below_set S3.out.2.2.2.2.2.2 (Nat.le_refl _)) (Nat.le_refl _)⟩
            · rw [if_neg c3] at H
              have c3b : (ag == 20) = false := beq_eq_false_iff_ne.mpr c3
              clear c3
              have H' := Aside0.mk H
              clear H
              go_wp2_with (first | (refine (MkSt.next S.out).mono ?_; rintro e w1 ⟨rfl, hs_⟩; clear S; have S := Aside0.mk hs_; clear hs_) | ((with_reducible refine gate_dst (N := 13) rfl ?_); (try (refine gate_guard (by rfl) ?_; dsimp only)); refine box_event ?hg (N := 13) ?hd (cs := #[.int .i64 0, .int .i64 0]) (t := 61) ?hr ?_; (case hd => rfl); (case hg => rfl); (case hr => exact k99_); intro gx hg w20 hbox hb; have S2 := Aside0.mk (MkSt.elder S.out gx hg hb); clear S; have BX := Aside0.mk hbox; have hn1 := S2.out.2.1; have hn2 := S2.out.2.2.1; have hcx0 : w20.cell? ⟨gx, 0, none⟩ = some (.int .i64 0) := (blk_cell hbox 0).trans rfl; have hcx1 : w20.cell? ⟨gx, 1, none⟩ = some (.int .i64 0) := (blk_cell hbox 1).trans rfl; have hfx0 := blk_frozen hbox 0; have hfx1 := blk_frozen hbox 1; clear hbox hb hg) | ((with_reducible refine gate_callee (f := 30) rfl ?_); refine goesL_ (some 56) rfl rfl Tryd.func30 (by kernel_rfl) rfl #[.slice Ao l.length co, .agg #[.int .i64 (wrap64 (Int.tmod (nextZ z) 9 + 2)), .int .i64 (Int.tmod (nextZ (nextZ z)) (wrap64 (Int.tmod (nextZ z) 9 + 2)))]] rfl k70_ ?_; (with_reducible refine (impl_Rule_30.calls k1 _ _ l (wrap64 (Int.tmod (nextZ z) 9 + 2)) (Int.tmod (nextZ (nextZ z)) (wrap64 (Int.tmod (nextZ z) 9 + 2))) true _ ?side1 ?side2 A.out).mono ?_); (case side1 => exact k39_); (case side2 => exact (MkSt.reads S2.out.1).1); rintro e w24 ⟨rfl, hb⟩; refine ⟨_, rfl, ?_⟩; have S3 := Aside0.mk (MkSt.below ((S2.out.1.put gx 0 (.int .i64 (wrap64 (Int.tmod (nextZ z) 9 + 2))) hn1 hn2 (fun _ hk => hk.2) S2.out.2.2.2).put gx 1 (.int .i64 (Int.tmod (nextZ (nextZ z)) (wrap64 (Int.tmod (nextZ z) 9 + 2)))) hn1 hn2 (fun _ hk => hk.2) S2.out.2.2.2) hb); have BX3 := Aside0.mk (blk_below (g := gx) (o := .cells #[.int .i64 (wrap64 (Int.tmod (nextZ z) 9 + 2)), .int .i64 (Int.tmod (nextZ (nextZ z)) (wrap64 (Int.tmod (nextZ z) 9 + 2)))] 61 (0, 0)) k57_ hb); clear hb; have hcy0 : w24.cell? ⟨w.heap.size, 0, none⟩ = some (.string (⟨#[]⟩ : ByteArray)) := (blk_cell S3.out.2.2.2.1 0).trans rfl; have hcy1 : w24.cell? ⟨w.heap.size, 1, none⟩ = some (.int .i64 0) := (blk_cell S3.out.2.2.2.1 1).trans rfl; have hfy0 := blk_frozen S3.out.2.2.2.1 0; have hfy1 := blk_frozen S3.out.2.2.2.1 1; have hcw0 : w24.cell? ⟨gx, 0, none⟩ = some (.int .i64 (wrap64 (Int.tmod (nextZ z) 9 + 2))) := (blk_cell BX3.out 0).trans rfl; have hcw1 : w24.cell? ⟨gx, 1, none⟩ = some (.int .i64 (Int.tmod (nextZ (nextZ z)) (wrap64 (Int.tmod (nextZ z) 9 + 2)))) := (blk_cell BX3.out 1).trans rfl))
              go_roundg k1
              case measure => have := HK.out; omega
              case rel => exact ⟨nextZ (nextZ z), l, wrap64 (ag + 1), rfl, H', ⟨by have := HK.out; omega⟩, ⟨MkSt.mono S3.out (fun _ hk => hk.1) (fun _ hk => hk)⟩⟩
          | false =>
            rw [if_neg (by decide)] at H
            by_cases c4 : l.length < 8796093022208
            · rw [if_pos c4] at H
              have LM := Aside0.mk c4
              clear c4
              have H' := Aside0.mk H
              clear H
              go_wp2_with (first | (refine (MkSt.next S.out).mono ?_; rintro e w1 ⟨rfl, hs_⟩; clear S; have S := Aside0.mk hs_; clear hs_) | ((with_reducible refine gate_dst (N := 13) rfl ?_); (try (refine gate_guard (by rfl) ?_; dsimp only)); refine box_event ?hg (N := 13) ?hd (cs := #[.int .i64 0, .int .i64 0]) (t := 61) ?hr ?_; (case hd => rfl); (case hg => rfl); (case hr => exact k99_); intro gx hg w20 hbox hb; have S2 := Aside0.mk (MkSt.elder S.out gx hg hb); clear S; have BX := Aside0.mk hbox; have hn1 := S2.out.2.1; have hn2 := S2.out.2.2.1; have hcx0 : w20.cell? ⟨gx, 0, none⟩ = some (.int .i64 0) := (blk_cell hbox 0).trans rfl; have hcx1 : w20.cell? ⟨gx, 1, none⟩ = some (.int .i64 0) := (blk_cell hbox 1).trans rfl; have hfx0 := blk_frozen hbox 0; have hfx1 := blk_frozen hbox 1; clear hbox hb hg) | ((with_reducible refine gate_callee (f := 30) rfl ?_); refine goesL_ (some 56) rfl rfl Tryd.func30 (by kernel_rfl) rfl #[.slice Ao l.length co, .agg #[.int .i64 (wrap64 (Int.tmod (nextZ z) 9 + 2)), .int .i64 (Int.tmod (nextZ (nextZ z)) (wrap64 (Int.tmod (nextZ z) 9 + 2)))]] rfl k70_ ?_; (with_reducible refine (impl_Rule_30.calls k1 _ _ l (wrap64 (Int.tmod (nextZ z) 9 + 2)) (Int.tmod (nextZ (nextZ z)) (wrap64 (Int.tmod (nextZ z) 9 + 2))) false _ ?side1 ?side2 A.out).mono ?_); (case side1 => exact k39_); (case side2 => exact (MkSt.reads S2.out.1).1); rintro e w24 ⟨rfl, hb⟩; refine ⟨_, rfl, ?_⟩; have S3 := Aside0.mk (MkSt.below ((S2.out.1.put gx 0 (.int .i64 (wrap64 (Int.tmod (nextZ z) 9 + 2))) hn1 hn2 (fun _ hk => hk.2) S2.out.2.2.2).put gx 1 (.int .i64 (Int.tmod (nextZ (nextZ z)) (wrap64 (Int.tmod (nextZ z) 9 + 2)))) hn1 hn2 (fun _ hk => hk.2) S2.out.2.2.2) hb); have BX3 := Aside0.mk (blk_below (g := gx) (o := .cells #[.int .i64 (wrap64 (Int.tmod (nextZ z) 9 + 2)), .int .i64 (Int.tmod (nextZ (nextZ z)) (wrap64 (Int.tmod (nextZ z) 9 + 2)))] 61 (0, 0)) k57_ hb); clear hb; have hcy0 : w24.cell? ⟨w.heap.size, 0, none⟩ = some (.string (⟨#[]⟩ : ByteArray)) := (blk_cell S3.out.2.2.2.1 0).trans rfl; have hcy1 : w24.cell? ⟨w.heap.size, 1, none⟩ = some (.int .i64 0) := (blk_cell S3.out.2.2.2.1 1).trans rfl; have hfy0 := blk_frozen S3.out.2.2.2.1 0; have hfy1 := blk_frozen S3.out.2.2.2.1 1; have hcw0 : w24.cell? ⟨gx, 0, none⟩ = some (.int .i64 (wrap64 (Int.tmod (nextZ z) 9 + 2))) := (blk_cell BX3.out 0).trans rfl; have hcw1 : w24.cell? ⟨gx, 1, none⟩ = some (.int .i64 (Int.tmod (nextZ (nextZ z)) (wrap64 (Int.tmod (nextZ z) 9 + 2)))) := (blk_cell BX3.out 1).trans rfl) | ((with_reducible refine gate_builtin (b := .append) (xs := #[.tmp 58, .tmp 60]) rfl ?_); (try (refine gate_guard (by rfl) ?_; dsimp only)); at_builtin; refine Kd.R_append kRule (w0 := w) w.heap.size rfl (.tmp 58) (.tmp 60) 47 61 (.agg #[(.int .i64 0), (.int .i64 0)]) 16 rfl Tryd.underlying47 info61 rfl (by decide) (by omega) (.slice Ao l.length co) l (⟨(wrap64 (Int.tmod (nextZ z) 9 + 2)), (Int.tmod (nextZ (nextZ z)) (wrap64 (Int.tmod (nextZ z) 9 + 2)))⟩ : SRule) [.int .i64 (wrap64 (Int.tmod (nextZ z) 9 + 2)), .int .i64 (Int.tmod (nextZ (nextZ z)) (wrap64 (Int.tmod (nextZ z) 9 + 2)))] (fun k_ => k_ ≠ w.heap.size + 1 ∧ k_ ≠ gx) (fun _ => False) rfl rfl ?aP (fun _ hk => hk.elim) ?aF ?aO ?aB ?aS ?aL ?_; (case aP => exact kRule_mkM _ _ _ (⟨(wrap64 (Int.tmod (nextZ z) 9 + 2)), (Int.tmod (nextZ (nextZ z)) (wrap64 (Int.tmod (nextZ z) 9 + 2)))⟩ : SRule)); (case aB => exact S3.out.2.2.2.2.2.2); (case aF => exact (fun k_ hk => ⟨by have := blk_lt S3.out.2.2.2.2.1; omega, by have := blk_lt BX3.out; omega⟩)); (case aO => exact S3.out.2.2.2.2.2.1); (case aS => exact below_size S3.out.2.2.2.2.2.2); (case aL => have := LM.out; omega); intro v1 w32 ho hb hg hat; have S4 := Aside0.mk (show MkSt w w.heap.size (w.heap.size + 1) (fun k_ => k_ ≠ w.heap.size + 1 ∧ k_ ≠ gx) (nextZ (nextZ z)) v1 (l ++ [(⟨(wrap64 (Int.tmod (nextZ z) 9 + 2)), (Int.tmod (nextZ (nextZ z)) (wrap64 (Int.tmod (nextZ z) 9 + 2)))⟩ : SRule)]) w32 from ⟨S3.out.1, S3.out.2.1, fun _ hk => hk.1, blk_grown S3.out.2.2.2.1 hg (Kd.R_ne S3.out.2.2.2.2.2.1 S3.out.2.2.2.1 (by decide)), blk_grown S3.out.2.2.2.2.1 hg (Kd.R_ne S3.out.2.2.2.2.2.1 S3.out.2.2.2.2.1 (by decide)), ho, hb⟩); clear ho hb hg hat))
              go_roundg k1
              case measure => have := HK.out; omega
              case rel => exact ⟨nextZ (nextZ z), l ++ [(⟨(wrap64 (Int.tmod (nextZ z) 9 + 2)), (Int.tmod (nextZ (nextZ z)) (wrap64 (Int.tmod (nextZ z) 9 + 2)))⟩ : SRule)], ag, rfl, H', ⟨by have := HK.out; omega⟩, ⟨MkSt.mono S4.out (fun _ hk => hk.1) (fun _ hk => hk)⟩⟩
            · rw [if_neg c4] at H
              exact absurd H (by simp)
      · rw [if_neg c1] at H
        have c1b : decide ((l.length : Int) < a1) = false := decide_eq_false c1
        clear c1
        replace H := Option.bind_eq_some_iff.mp H
        obtain ⟨t, A0_, H⟩ := H
        have A := Aside0.mk A0_
        clear A0_
        simp only [Option.some.injEq, Prod.mk.injEq] at H
        obtain ⟨rfl, rfl, rfl⟩ := H
        have hcz0 : wr.cell? ⟨w.heap.size, 0, none⟩ = some (.string (⟨#[]⟩ : ByteArray)) := (blk_cell S.out.2.2.2.1 0).trans rfl
        go_wp2_with (first | (go_at_call 31; (with_reducible refine (impl_patternOf.calls k1 _ _ l a0 t _ ?side1 ?side2 A.out).mono ?_); (case side1 => exact (MkSt.reads S.out).2); (case side2 => exact (MkSt.reads S.out).1); rintro e w24 ⟨rfl, hb⟩; have S3 := Aside0.mk (MkSt.below S.out hb); clear hb; have hcy0 : w24.cell? ⟨w.heap.size, 0, none⟩ = some (.string (⟨#[]⟩ : ByteArray)) := (blk_cell S3.out.2.2.2.1 0).trans rfl; have hcy1 : w24.cell? ⟨w.heap.size, 1, none⟩ = some (.int .i64 0) := (blk_cell S3.out.2.2.2.1 1).trans rfl; have hfy0 := blk_frozen S3.out.2.2.2.1 0; have hfy1 := blk_frozen S3.out.2.2.2.1 1) | ((with_reducible refine gate_callee (f := 31) rfl ?_); refine goesL_ (some 69) rfl rfl Tryd.func31 (by kernel_rfl) rfl #[.slice Ao l.length co, .int .i64 a0] rfl k70_ ?_; (with_reducible refine (impl_patternOf.calls k1 _ _ l a0 t _ ?side1 ?side2 A.out).mono ?_); (case side1 => exact (MkSt.reads S.out).2); (case side2 => exact (MkSt.reads S.out).1); rintro e w24 ⟨rfl, hb⟩; refine ⟨_, rfl, ?_⟩; have S3 := Aside0.mk (MkSt.below S.out hb); clear hb; have hcy0 : w24.cell? ⟨w.heap.size, 0, none⟩ = some (.string (⟨#[]⟩ : ByteArray)) := (blk_cell S3.out.2.2.2.1 0).trans rfl; have hcy1 : w24.cell? ⟨w.heap.size, 1, none⟩ = some (.int .i64 0) := (blk_cell S3.out.2.2.2.1 1).trans rfl; have hfy0 := blk_frozen S3.out.2.2.2.1 0; have hfy1 := blk_frozen S3.out.2.2.2.1 1))
        refine bodyPost_ret (results_ct rfl _ _ w.heap.size 27 #[.string t, .int .i64 a1] (0, 0) _ rfl (by refine blk_put (cs := #[.string t, .int .i64 0]) ?_ 1 _ rfl; refine blk_put (cs := #[.string (⟨#[]⟩ : ByteArray), .int .i64 0]) ?_ 0 _ rfl; exact S3.out.2.2.2.1) Tryd.underlying27 rfl (by kernel_rfl)) rfl ?_
        exact ⟨rfl, below_set (below_set S3.out.2.2.2.2.2.2 (Nat.le_refl _)) (Nat.le_refl _)⟩
set_option maxHeartbeats 2000000 in
theorem impl_MakePuzzle.calls (k : Nat) (a0 : Int) (a1 : Int) (a2 : Int) (r1 : ByteArray) (r2 : Int) (r3 : Bool) (w : World) (h : impl_MakePuzzle.f k a0 a1 a2 = some (r1, r2, r3)) :
    Calls Tryd.prog 6 #[.int .i64 a0, .int .i64 a1, .int .i64 a2] w fun e w' => e = .returned (.tuple #[.agg #[.string r1, .int .i64 r2], .bool r3]) ∧ Below w.heap.size w w' := by
  unfold impl_MakePuzzle.f at h
  by_cases c : a0 < 1 ∨ a0 > 48 ∨ a1 < 0 ∨ a1 > 3 ∨ a2 < 0 ∨ a2 > 9999
  · rw [if_pos c] at h
    simp only [Option.some.injEq, Prod.mk.injEq] at h
    obtain ⟨rfl, rfl, rfl⟩ := h
    exact mk_bad a0 a1 a2 w c
  · rw [if_neg c] at h
    exact mk_good k a0 a1 a2 r1 r2 r3 w (decide_eq_false (by omega)) (decide_eq_false (by omega)) (decide_eq_false (by omega)) (decide_eq_false (by omega)) (decide_eq_false (by omega)) (decide_eq_false (by omega)) ⟨h⟩
end Go.Proofs.YtgmfaleamhpfjaaDoor.P
namespace Go.Proofs.YtgmfaleamhpfjaaDoor.P
open Go.RowKit Go.Proofs.YtgmfaleamhpfjaaDoorW.PrintWords Go.Proofs.YtgmfaleamhpfjaaDoorW.PrintLast Go.Proofs.YtgmfaleamhpfjaaDoorW.PrintMore
attribute [local go_sem] max2_int min2_int max_two min_two max_three min_three max_four min_four
set_option linter.unusedVariables false
set_option linter.unusedSimpArgs false
def impl_FewestRules.l0 : Nat → ByteArray → Int → Option (Int × Bool)
 | 0, _, _ => none
 | k + 1, x0, x6 => if x6 < 4 then ((impl_isPuzzle.f x0 x6).bind fun t102 => (if t102 = true then ((impl_someAnswers.f k x0 x6 1).bind fun t103 => (if (t103.length : Int) > 0 then (some (x6, true)) else (impl_FewestRules.l0 k x0 (wrap64 (x6 + 1))))) else (impl_FewestRules.l0 k x0 (wrap64 (x6 + 1))))) else (some (0, false))
def impl_FewestRules.f (k : Nat) (a0 : ByteArray) : Option (Int × Bool) := impl_FewestRules.l0 k a0 0
set_option maxHeartbeats 8000000 in
set_option maxRecDepth 100000 in
theorem impl_FewestRules.calls (k : Nat) (a0 : ByteArray) (r1 : Int) (r2 : Bool) (w : World) (h : impl_FewestRules.f k a0 = some (r1, r2)) :
  Calls Tryd.prog 8 #[.string a0] w fun e w' => e = .returned (.tuple #[.int .i64 r1, .bool r2]) ∧ Below w.heap.size w w' := by
 have hu27 := Tryd.underlying27
 have HB := Aside0.mk (Below.refl w.heap.size w)
 have H : (impl_FewestRules.l0 k a0 0) = some (r1, r2) := h
 clear h
 have H' := Aside0.mk H
 clear H
 go_enter Tryd.func8, Tryd.ntmps8
 go_wp2
 go_loopg [6] k (fun kq v6 w' => ∃ (x6_1 : Int), v6 = .int .i64 x6_1 ∧ Aside0 (impl_FewestRules.l0 kq a0 x6_1 = some (r1, r2)) ∧ Aside0 (kq ≤ k) ∧ Aside0 (Below w.heap.size w w'))
 case atStart => exact ⟨(0), k98_, H', ⟨Nat.le_refl _⟩, ⟨k85_⟩⟩
 case round =>
  clear H'
  obtain ⟨x6_1, rfl, HA, HK1, HB⟩ := hrel
  cases gk with
  | zero => exact absurd HA.out (by simp [impl_FewestRules.l0])
  | succ k1 =>
   have H := HA.out
   clear HA
   simp only [impl_FewestRules.l0] at H
   by_cases c2 : x6_1 < 4
   ·rw [if_pos c2] at H
    have c2b0 : decide (x6_1 < 4) = true := decide_eq_true c2
    clear c2
    obtain ⟨t102, A3, H⟩ := obnd_ H
    (try dsimp only at H)
    by_cases c4 : t102 = true
    ·subst c4
     rw [if_pos rfl] at H
     obtain ⟨t103, A5, H⟩ := obnd_ H
     (try dsimp only at H)
     by_cases c6 : (t103.length : Int) > 0
     ·rw [if_pos c6] at H
      have c6b0 : decide (0 < (t103.length : Int)) = true := decide_eq_true c6
      have c6b1 : decide (0 < t103.length) = true := decide_eq_true (by omega)
      clear c6
      simp only [Option.some.injEq, Prod.mk.injEq] at H
      obtain ⟨rfl, rfl⟩ := H
      go_wp2_with (first | ((with_reducible refine gate_dst (N := 5) rfl ?_); (try (refine gate_guard (by rfl) ?_; dsimp only)); refine box_event ?hg (N := 5) ?hd (cs := #[.string (⟨#[]⟩ : ByteArray), .int .i64 0]) (t := 27) ?hr ?_; (case hd => rfl); (case hg => rfl); (case hr => exact k99_); intro gb101 hg w7 hbox hb; have BK101 := Aside0.mk (hbox); have GW101 := Aside0.mk (HB.ge hg); have GE101 := Aside0.mk (HB.ge hg); replace HB := HB.mw hb; clear hb hbox hg; have hcz8_0 : w7.cell? ⟨gb101, 0, none⟩ = some (.string (⟨#[]⟩ : ByteArray)) := (blk_cell BK101.out 0).trans rfl; have hcz8_1 : w7.cell? ⟨gb101, 1, none⟩ = some (.int .i64 0) := (blk_cell BK101.out 1).trans rfl; have hfz8_0 := blk_frozen BK101.out 0; have hfz8_1 := blk_frozen BK101.out 1) | ((with_reducible refine gate_callee (f := 34) rfl ?_); refine goesL_ (some 13) rfl rfl Tryd.func34 (by kernel_rfl) rfl #[.agg #[.string a0, .int .i64 x6_1]] rfl k70_ ?_; (with_reducible refine (impl_isPuzzle.calls a0 x6_1 true _ A3.out).mono ?_); rintro e w9 ⟨rfl, hb⟩; refine ⟨_, rfl, ?_⟩; replace BK101 := Aside0.mk (blk_below (g := gb101) (o := .cells #[.string a0, .int .i64 x6_1] 27 (0, 0)) k17_ hb); replace HB := Aside0.mk (below_step k82_ hb); (try clear hb); have hcz10_0 : w9.cell? ⟨gb101, 0, none⟩ = some (.string a0) := (blk_cell BK101.out 0).trans rfl; have hcz10_1 : w9.cell? ⟨gb101, 1, none⟩ = some (.int .i64 x6_1) := (blk_cell BK101.out 1).trans rfl; have hfz10_0 := blk_frozen BK101.out 0; have hfz10_1 := blk_frozen BK101.out 1) | (go_at_call 35; (with_reducible refine (impl_someAnswers.calls k1 a0 x6_1 1 t103 _ A5.out).mono ?_); rintro e w11 ⟨v104, rfl, ho0, hb⟩; have HO105 := Aside0.mk (Kd.S_lower ho0 (below_size k82_)); replace BK101 := BK101.mw hb; replace HB := Aside0.mk (below_step k82_ hb); (try clear hb ho0); obtain ⟨Ao12, co12, eo12⟩ := Kd.S_slice HO105.out; subst eo12))
      go_ret2
      exact ⟨k81_, k82_⟩
     ·rw [if_neg c6] at H
      have c6b0 : decide (0 < (t103.length : Int)) = false := decide_eq_false c6
      have c6b1 : decide (0 < t103.length) = false := decide_eq_false (by omega)
      clear c6
      have H' := Aside0.mk H
      clear H
      go_wp2_with (first | ((with_reducible refine gate_dst (N := 5) rfl ?_); (try (refine gate_guard (by rfl) ?_; dsimp only)); refine box_event ?hg (N := 5) ?hd (cs := #[.string (⟨#[]⟩ : ByteArray), .int .i64 0]) (t := 27) ?hr ?_; (case hd => rfl); (case hg => rfl); (case hr => exact k99_); intro gb101 hg w13 hbox hb; have BK101 := Aside0.mk (hbox); have GW101 := Aside0.mk (HB.ge hg); have GE101 := Aside0.mk (HB.ge hg); replace HB := HB.mw hb; clear hb hbox hg; have hcz14_0 : w13.cell? ⟨gb101, 0, none⟩ = some (.string (⟨#[]⟩ : ByteArray)) := (blk_cell BK101.out 0).trans rfl; have hcz14_1 : w13.cell? ⟨gb101, 1, none⟩ = some (.int .i64 0) := (blk_cell BK101.out 1).trans rfl; have hfz14_0 := blk_frozen BK101.out 0; have hfz14_1 := blk_frozen BK101.out 1) | ((with_reducible refine gate_callee (f := 34) rfl ?_); refine goesL_ (some 13) rfl rfl Tryd.func34 (by kernel_rfl) rfl #[.agg #[.string a0, .int .i64 x6_1]] rfl k70_ ?_; (with_reducible refine (impl_isPuzzle.calls a0 x6_1 true _ A3.out).mono ?_); rintro e w15 ⟨rfl, hb⟩; refine ⟨_, rfl, ?_⟩; replace BK101 := Aside0.mk (blk_below (g := gb101) (o := .cells #[.string a0, .int .i64 x6_1] 27 (0, 0)) k17_ hb); replace HB := Aside0.mk (below_step k82_ hb); (try clear hb); have hcz16_0 : w15.cell? ⟨gb101, 0, none⟩ = some (.string a0) := (blk_cell BK101.out 0).trans rfl; have hcz16_1 : w15.cell? ⟨gb101, 1, none⟩ = some (.int .i64 x6_1) := (blk_cell BK101.out 1).trans rfl; have hfz16_0 := blk_frozen BK101.out 0; have hfz16_1 := blk_frozen BK101.out 1) | (go_at_call 35; (with_reducible refine (impl_someAnswers.calls k1 a0 x6_1 1 t103 _ A5.out).mono ?_); rintro e w17 ⟨v104, rfl, ho0, hb⟩; have HO105 := Aside0.mk (Kd.S_lower ho0 (below_size k82_)); replace BK101 := BK101.mw hb; replace HB := Aside0.mk (below_step k82_ hb); (try clear hb ho0); obtain ⟨Ao18, co18, eo18⟩ := Kd.S_slice HO105.out; subst eo18))
      go_roundg k1
      case measure => have := HK1.out; omega
      case rel => exact ⟨(wrap64 (x6_1 + 1)), k98_, H', ⟨k101_⟩, ⟨k82_⟩⟩
    ·replace c4 := Bool.eq_false_iff.mpr c4
     subst c4
     rw [if_neg (show ¬ (false = true) by decide)] at H
     have H' := Aside0.mk H
     clear H
     go_wp2_with (first | ((with_reducible refine gate_dst (N := 5) rfl ?_); (try (refine gate_guard (by rfl) ?_; dsimp only)); refine box_event ?hg (N := 5) ?hd (cs := #[.string (⟨#[]⟩ : ByteArray), .int .i64 0]) (t := 27) ?hr ?_; (case hd => rfl); (case hg => rfl); (case hr => exact k99_); intro gb101 hg w19 hbox hb; have BK101 := Aside0.mk (hbox); have GW101 := Aside0.mk (HB.ge hg); have GE101 := Aside0.mk (HB.ge hg); replace HB := HB.mw hb; clear hb hbox hg; have hcz20_0 : w19.cell? ⟨gb101, 0, none⟩ = some (.string (⟨#[]⟩ : ByteArray)) := (blk_cell BK101.out 0).trans rfl; have hcz20_1 : w19.cell? ⟨gb101, 1, none⟩ = some (.int .i64 0) := (blk_cell BK101.out 1).trans rfl; have hfz20_0 := blk_frozen BK101.out 0; have hfz20_1 := blk_frozen BK101.out 1) | ((with_reducible refine gate_callee (f := 34) rfl ?_); refine goesL_ (some 13) rfl rfl Tryd.func34 (by kernel_rfl) rfl #[.agg #[.string a0, .int .i64 x6_1]] rfl k70_ ?_; (with_reducible refine (impl_isPuzzle.calls a0 x6_1 false _ A3.out).mono ?_); rintro e w21 ⟨rfl, hb⟩; refine ⟨_, rfl, ?_⟩; replace BK101 := Aside0.mk (blk_below (g := gb101) (o := .cells #[.string a0, .int .i64 x6_1] 27 (0, 0)) k17_ hb); replace HB := Aside0.mk (below_step k82_ hb); (try clear hb)))
     go_roundg k1
     case measure => have := HK1.out; omega
     case rel => exact ⟨(wrap64 (x6_1 + 1)), k98_, H', ⟨k101_⟩, ⟨k82_⟩⟩
   ·rw [if_neg c2] at H
    have c2b0 : decide (x6_1 < 4) = false := decide_eq_false c2
    clear c2
    simp only [Option.some.injEq, Prod.mk.injEq] at H
    obtain ⟨rfl, rfl⟩ := H
    go_wp2
    go_ret2
    exact ⟨k81_, k85_⟩
end Go.Proofs.YtgmfaleamhpfjaaDoor.P
namespace Go.Proofs.YtgmfaleamhpfjaaDoor.P
open Go.RowKit Go.Proofs.YtgmfaleamhpfjaaDoorW.PrintWords Go.Proofs.YtgmfaleamhpfjaaDoorW.PrintLast Go.Proofs.YtgmfaleamhpfjaaDoorW.PrintMore
attribute [local go_sem] max2_int min2_int max_two min_two max_three min_three max_four min_four
set_option linter.unusedVariables false
set_option linter.unusedSimpArgs false
def impl_IsPuzzle.f (a0_0 : ByteArray) (a0_1 : Int) : Option (Bool) := (impl_isPuzzle.f a0_0 a0_1).bind fun t102 => (some t102)
set_option maxHeartbeats 8000000 in
set_option maxRecDepth 100000 in
theorem impl_IsPuzzle.calls (a0_0 : ByteArray) (a0_1 : Int) (r : Bool) (w : World) (h : impl_IsPuzzle.f a0_0 a0_1 = some r) :
  Calls Tryd.prog 9 #[.agg #[.string a0_0, .int .i64 a0_1]] w fun e w' => e = .returned (.bool r) ∧ Below w.heap.size w w' := by
 have hu27 := Tryd.underlying27
 have HB := Aside0.mk (Below.refl w.heap.size w)
 have H : ((impl_isPuzzle.f a0_0 a0_1).bind fun t102 => (some t102)) = some r := h
 clear h
 obtain ⟨t102, A2, H⟩ := obnd_ H
 (try dsimp only at H)
 obtain rfl := Option.some.inj H
 go_enter Tryd.func9, Tryd.ntmps9
 go_wp2_with (first | ((with_reducible refine gate_dst (N := 1) rfl ?_); refine box_event ?hg (N := 1) ?hd (cs := #[.string a0_0, .int .i64 a0_1]) (t := 27) ?hr ?_; (case hd => rfl); (case hg => rfl); (case hr => exact k99_); intro gb101 hg w3 hbox hb; have BK101 := Aside0.mk (hbox); have GW101 := Aside0.mk (HB.ge hg); have GE101 := Aside0.mk (HB.ge hg); replace HB := HB.mw hb; clear hb hbox hg; have hcz4_0 : w3.cell? ⟨gb101, 0, none⟩ = some (.string a0_0) := (blk_cell BK101.out 0).trans rfl; have hcz4_1 : w3.cell? ⟨gb101, 1, none⟩ = some (.int .i64 a0_1) := (blk_cell BK101.out 1).trans rfl; have hfz4_0 := blk_frozen BK101.out 0; have hfz4_1 := blk_frozen BK101.out 1) | ((with_reducible refine gate_callee (f := 34) rfl ?_); refine goesL_ (some 4) rfl rfl Tryd.func34 (by kernel_rfl) rfl #[.agg #[.string a0_0, .int .i64 a0_1]] rfl k70_ ?_; (with_reducible refine (impl_isPuzzle.calls a0_0 a0_1 t102 _ A2.out).mono ?_); rintro e w5 ⟨rfl, hb⟩; refine ⟨_, rfl, ?_⟩; replace BK101 := BK101.mw hb; replace HB := Aside0.mk (below_step k82_ hb); (try clear hb)))
 go_ret
 exact ⟨k81_, k82_⟩
end Go.Proofs.YtgmfaleamhpfjaaDoor.P
namespace Go.Proofs.YtgmfaleamhpfjaaDoor.P
open Go.RowKit Go.Proofs.YtgmfaleamhpfjaaDoorW.PrintWords Go.Proofs.YtgmfaleamhpfjaaDoorW.PrintLast Go.Proofs.YtgmfaleamhpfjaaDoorW.PrintMore
attribute [local go_sem] max2_int min2_int max_two min_two max_three min_three max_four min_four
set_option linter.unusedVariables false
set_option linter.unusedSimpArgs false
attribute [local go_sem high] eqA27
mutual
def laws_FnPuzzlesSieved.j0 : Nat → List Int → Option (Bool)
 | 0, _ => none
 | k + 1, x1 => (spec_DrawHarderPuzzle.f k x1).bind fun bt116 => ((impl_HarderPuzzle.f k bt116.1 bt116.2).bind fun bt119 => ((spec_HarderPuzzle.f k bt116.1 bt116.2).bind fun bt123 => (if (bt119.2.2 != bt123.2.2) = true then (some false) else (if (!(bt119.1.toList == bt123.1.toList) || (!(bt119.2.1 == bt123.2.1))) = true then (some false) else (if bt119.2.2 = true then ((impl_Answers.f k bt116.1 bt116.2).bind fun bt127 => ((impl_Answers.f k bt119.1 bt119.2.1).bind fun bt131 => (if bt127.2 = true then (if (bt127.1.length : Int) = 1 then (if bt131.2 = true then ((laws_gAnswers.f k bt127.1 bt131.1).bind fun t135 => (if t135 = true then (if (bt119.1.size : Int) = (bt116.1.size : Int) then (laws_FnPuzzlesSieved.l0 k x1 1 bt116.1 bt116.2 bt119.1 bt119.2.1) else (some false)) else (some false))) else (some false)) else (some false)) else (some false)))) else (laws_FnPuzzlesSieved.j2 k x1))))))
def laws_FnPuzzlesSieved.j2 : Nat → List Int → Option (Bool)
 | 0, _ => none
 | k + 1, x1 => (spec_DrawShowNumber.f k x1).bind fun bt142 => ((impl_ShowNumber.f k bt142.1 bt142.2.1 bt142.2.2.1 bt142.2.2.2).bind fun bt147 => ((spec_ShowNumber.f k bt142.1 bt142.2.1 bt142.2.2.1 bt142.2.2.2).bind fun bt151 => ((spec_DrawHideNumber.f k x1).bind fun bt155 => ((impl_HideNumber.f bt155.1 bt155.2.1 bt155.2.2).bind fun bt159 => ((spec_HideNumber.f k bt155.1 bt155.2.1 bt155.2.2).bind fun bt163 => ((spec_DrawFewestRules.f k x1).bind fun t167 => ((impl_FewestRules.f k t167).bind fun bt168 => ((spec_FewestRules.f k t167).bind fun bt170 => ((spec_DrawPatternOf.f k x1).bind fun bt172 => ((impl_PatternOf.f k bt172.1 bt172.2).bind fun bt176 => ((spec_PatternOf.f k bt172.1 bt172.2).bind fun bt178 => (if (bt147.2.2 != bt151.2.2) = true then (some false) else (if (!(bt147.1.toList == bt151.1.toList) || (!(bt147.2.1 == bt151.2.1))) = true then (some false) else (if (bt159.2.2 != bt163.2.2) = true then (some false) else (if (!(bt159.1.toList == bt163.1.toList) || (!(bt159.2.1 == bt163.2.1))) = true then (some false) else (if (bt168.2 != bt170.2) = true then (some false) else (if bt168.1 = bt170.1 then (if (bt176.2 != bt178.2) = true then (some false) else (if bt176.1.toList = bt178.1.toList then (if bt147.2.2 = true then ((impl_HideNumber.f bt147.1 bt147.2.1 bt142.2.2.1).bind fun bt180 => (if bt180.2.2 = true then (if (!(bt180.1.toList == bt142.1.toList) || (!(bt180.2.1 == bt142.2.1))) = true then (some false) else (laws_FnPuzzlesSieved.j3 k bt155.2.2 bt159.2.2 bt155.1 bt155.2.1 bt159.1 bt159.2.1)) else (some false))) else (laws_FnPuzzlesSieved.j3 k bt155.2.2 bt159.2.2 bt155.1 bt155.2.1 bt159.1 bt159.2.1)) else (some false))) else (some false))))))))))))))))))
def laws_FnPuzzlesSieved.j3 : Nat → Int → Bool → ByteArray → Int → ByteArray → Int → Option (Bool)
 | 0, _, _, _, _, _, _ => none
 | k + 1, x36, x38, x159000, x159001, x163000, x163001 => if x38 = true then (if 0 ≤ (wrap64 (x36 - 1)) then (if (wrap64 (x36 - 1)) < (x159000.size : Int) then ((impl_ShowNumber.f k x163000 x163001 x36 ((bt x159000 (wrap64 (x36 - 1))) == 111)).bind fun bt184 => (if bt184.2.2 = true then (if (!(bt184.1.toList == x159000.toList) || (!(bt184.2.1 == x159001))) = true then (some false) else (some true)) else (some false))) else (none)) else (none)) else (some true)
def laws_FnPuzzlesSieved.l0 : Nat → List Int → Int → ByteArray → Int → ByteArray → Int → Option (Bool)
 | 0, _, _, _, _, _, _ => none
 | k + 1, x1, x23, x119000, x119001, x123000, x123001 => if x23 ≤ (x123000.size : Int) then (if 0 ≤ (wrap64 (x23 - 1)) then (if (wrap64 (x23 - 1)) < (x123000.size : Int) then (if (bt x123000 (wrap64 (x23 - 1))) = 63 then (laws_FnPuzzlesSieved.l0 k x1 (wrap64 (x23 + 1)) x119000 x119001 x123000 x123001) else ((impl_HideNumber.f x123000 x123001 x23).bind fun bt136 => ((impl_CountAnswers.f k bt136.1 bt136.2.1).bind fun bt140 => (if (wrap64 (x23 - 1)) < (x119000.size : Int) then (if (bt x123000 (wrap64 (x23 - 1))) = (bt x119000 (wrap64 (x23 - 1))) then (if bt136.2.2 = true then (if bt140.2 = true then (if bt140.1 < 2 then (some false) else (laws_FnPuzzlesSieved.l0 k x1 (wrap64 (x23 + 1)) x119000 x119001 x123000 x123001)) else (laws_FnPuzzlesSieved.l0 k x1 (wrap64 (x23 + 1)) x119000 x119001 x123000 x123001)) else (some false)) else (some false)) else (none))))) else (none)) else (none)) else (laws_FnPuzzlesSieved.j2 k x1)
end
def laws_FnPuzzlesSieved.f (k : Nat) (l0 : List Int) (l1 : List Int) : Option (Bool) := (laws_big.f l0 l1).bind fun t101 => (if t101 = true then (some true) else ((spec_DrawMakePuzzle.f l0).bind fun bt102 => ((impl_MakePuzzle.f k bt102.1 bt102.2.1 bt102.2.2).bind fun bt105 => ((spec_MakePuzzle.f k bt102.1 bt102.2.1 bt102.2.2).bind fun bt109 => (if (bt105.2.2 != bt109.2.2) = true then (some false) else (if (!(bt105.1.toList == bt109.1.toList) || (!(bt105.2.1 == bt109.2.1))) = true then (some false) else (if bt105.2.2 = true then ((impl_FewestRules.f k bt105.1).bind fun bt113 => ((impl_IsPuzzle.f bt105.1 bt105.2.1).bind fun t115 => (if t115 = true then (if (bt105.1.size : Int) = bt102.1 then (if bt105.2.1 = bt102.2.1 then (if bt113.2 = true then (if bt113.1 > bt102.2.1 then (some false) else (laws_FnPuzzlesSieved.j0 k l1)) else (some false)) else (some false)) else (some false)) else (some false)))) else (laws_FnPuzzlesSieved.j0 k l1))))))))
def laws_FnPuzzlesSieved.T28 : Bool × List (List Nat × List Nat) := (true, [([], []), ([0], [0]), ([], []), ([2], [2]), ([1, 3], [1, 3]), ([], []), ([5], [5]), ([], []), ([7], [7]), ([6, 8], [6, 8]), ([4, 9], [4, 9]), ([10], [10]), ([11], [11]), ([12, 11], [11, 12]), ([11, 13], [11, 13]), ([14, 11], [14]), ([15], [15]), ([16, 15, 15], [15, 16]), ([17], [17]), ([18, 17], [17, 18]), ([17, 19, 15], [15, 17, 19]), ([15, 20], [15, 20])])
def laws_FnPuzzlesSieved.B28 : List Nat := [0, 1, 0, 4, 15, 0, 32, 0, 128, 480, 1023, 2047, 4095, 8191, 16383, 32767, 65535, 131071, 262143, 524287, 1048575, 2097151]
theorem laws_FnPuzzlesSieved.tab28 : rtab .any (opsOf Tryd.f3 28) = laws_FnPuzzlesSieved.T28 := by kernel_rfl
theorem laws_FnPuzzlesSieved.bits28 : waitsOk laws_FnPuzzlesSieved.T28.2 laws_FnPuzzlesSieved.B28 = true := by kernel_rfl
def laws_FnPuzzlesSieved.T49 : Bool × List (List Nat × List Nat) := (true, [([], []), ([], []), ([], []), ([2], [2]), ([], []), ([4], [4]), ([3, 5], [3, 5]), ([6], [6]), ([0, 1, 7], [0, 1, 7]), ([8], [8]), ([9], [9]), ([9], [9]), ([], []), ([12, 10, 8, 0, 1, 2, 3, 4, 5, 6, 7, 8, 9, 10, 12], [10, 12]), ([11, 13, 0, 1, 2, 3, 4, 5, 6, 7, 8, 9, 10, 11, 12, 13], [11])])
def laws_FnPuzzlesSieved.B49 : List Nat := [0, 0, 0, 4, 0, 16, 60, 124, 255, 511, 1023, 1023, 0, 6143, 16383]
theorem laws_FnPuzzlesSieved.tab49 : rtab .any (opsOf Tryd.f3 49) = laws_FnPuzzlesSieved.T49 := by kernel_rfl
theorem laws_FnPuzzlesSieved.bits49 : waitsOk laws_FnPuzzlesSieved.T49.2 laws_FnPuzzlesSieved.B49 = true := by kernel_rfl
set_option maxHeartbeats 8000000 in
set_option maxRecDepth 100000 in
theorem laws_FnPuzzlesSieved.calls (k : Nat) (A0 : Option Addr) (c0 : Nat) (l0 : List Int) (A1 : Option Addr) (c1 : Nat) (l1 : List Int) (w : World) (hr0 : Kd.C (Kd.int .u8) w A0 l0.length l0) (hc0 : l0.length ≤ c0) (hr1 : Kd.C (Kd.int .u8) w A1 l1.length l1) (hc1 : l1.length ≤ c1) (h : laws_FnPuzzlesSieved.f k l0 l1 = some true) :
  Calls Tryd.prog 3 #[.slice A0 l0.length c0, .slice A1 l1.length c1] w fun e w' => e = .returned (.bool true) ∧ Below w.heap.size w w' := by
 have hu27 := Tryd.underlying27
 have HR0 := Aside0.mk hr0
 have HC0 := Aside0.mk hc0
 clear hr0 hc0
 have HR1 := Aside0.mk hr1
 have HC1 := Aside0.mk hc1
 clear hr1 hc1
 have HB := Aside0.mk (Below.refl w.heap.size w)
 have H : ((laws_big.f l0 l1).bind fun t101 => (if t101 = true then (some true) else ((spec_DrawMakePuzzle.f l0).bind fun bt102 => ((impl_MakePuzzle.f k bt102.1 bt102.2.1 bt102.2.2).bind fun bt105 => ((spec_MakePuzzle.f k bt102.1 bt102.2.1 bt102.2.2).bind fun bt109 => (if (bt105.2.2 != bt109.2.2) = true then (some false) else (if (!(bt105.1.toList == bt109.1.toList) || (!(bt105.2.1 == bt109.2.1))) = true then (some false) else (if bt105.2.2 = true then ((impl_FewestRules.f k bt105.1).bind fun bt113 => ((impl_IsPuzzle.f bt105.1 bt105.2.1).bind fun t115 => (if t115 = true then (if (bt105.1.size : Int) = bt102.1 then (if bt105.2.1 = bt102.2.1 then (if bt113.2 = true then (if bt113.1 > bt102.2.1 then (some false) else (laws_FnPuzzlesSieved.j0 k l1)) else (some false)) else (some false)) else (some false)) else (some false)))) else (laws_FnPuzzlesSieved.j0 k l1))))))))) = some true := h
 clear h
 obtain ⟨t101, A3, H⟩ := obnd_ H
 (try dsimp only at H)
 by_cases c4 : t101 = true
 ·subst c4
  have H1 : (some true) = some true := rfl
  clear H
  have H := H1
  clear H1
  clear H
  go_enter Tryd.func3, Tryd.ntmps3
  go_wp2_with (first | ((with_reducible refine gate_callee (f := 4) rfl ?_); refine goesL_ (some 58) rfl rfl Tryd.func4 (by kernel_rfl) rfl #[.slice A0 l0.length c0, .slice A1 l1.length c1] rfl k70_ ?_; (with_reducible refine (laws_big.calls _ _ l0 _ _ l1 true _ ?side1 ?side2 ?side3 ?side4 A3.out).mono ?_); (case side1 => exact k63_); (case side2 => exact HC0.out); (case side3 => repeat (first | exact HR1.out | (with_reducible refine Kd.C_alloc ?_ _) | (with_reducible refine Kd.C_drewN ?_ _) | (with_reducible refine Kd.C_drew ?_))); (case side4 => exact HC1.out); rintro e w' ⟨rfl, ⟨nd, rfl⟩⟩; refine ⟨_, rfl, ?_⟩))
  go_ret
  exact ⟨k81_, k85_⟩
 ·replace c4 := Bool.eq_false_iff.mpr c4
  subst c4
  rw [if_neg (show ¬ (false = true) by decide)] at H
  obtain ⟨⟨t102, t103, t104⟩, A5, H⟩ := obnd_ H
  (try dsimp only at H)
  obtain ⟨⟨t105, t106, t107⟩, A6, H⟩ := obnd_ H
  (try dsimp only at H)
  obtain ⟨⟨t109, t110, t111⟩, A7, H⟩ := obnd_ H
  (try dsimp only at H)
  by_cases c8 : (t107 != t111) = true
  ·rw [if_pos c8] at H
   have c8b0 : (t107 != t111) = true := c8
   (try (have c8b1 : decide (t107 = t111) = false := by simpa using c8))
   (try (have c8b2 : (t107 == t111) = false := by simpa using c8))
   (try (have c8b3 : ¬ (t107 = t111) := by simpa using c8))
   clear c8
   exact absurd H (by simp)
  ·rw [if_neg c8] at H
   have c8b0 : (t107 != t111) = false := by simpa using c8
   (try (have c8b1 : decide (t107 = t111) = true := by simpa using c8))
   (try (have c8b2 : (t107 == t111) = true := by simpa using c8))
   clear c8
   by_cases c9 : (!(t105.toList == t109.toList) || (!(t106 == t110))) = true
   ·rw [if_pos c9] at H
    have c9b0 : (!(t105.toList == t109.toList) || (!(t106 == t110))) = true := c9
    clear c9
    exact absurd H (by simp)
   ·rw [if_neg c9] at H
    have c9b0 : (!(t105.toList == t109.toList) || (!(t106 == t110))) = false := by simpa using c9
    clear c9
    have HC10 := Aside0.mk H
    clear H
    go_enter Tryd.func3, Tryd.ntmps3
    go_upto_if 87 with (first | ((with_reducible refine gate_callee (f := 4) rfl ?_); refine goesL_ (some 58) rfl rfl Tryd.func4 (by kernel_rfl) rfl #[.slice A0 l0.length c0, .slice A1 l1.length c1] rfl k70_ ?_; (with_reducible refine (laws_big.calls _ _ l0 _ _ l1 false _ ?side1 ?side2 ?side3 ?side4 A3.out).mono ?_); (case side1 => exact k63_); (case side2 => exact HC0.out); (case side3 => repeat (first | exact HR1.out | (with_reducible refine Kd.C_alloc ?_ _) | (with_reducible refine Kd.C_drewN ?_ _) | (with_reducible refine Kd.C_drew ?_))); (case side4 => exact HC1.out); rintro e w' ⟨rfl, ⟨nd, rfl⟩⟩; refine ⟨_, rfl, ?_⟩) | ((with_reducible refine gate_callee (f := 5) rfl ?_); refine goesL_ (some 61) rfl rfl Tryd.func5 (by kernel_rfl) rfl #[.slice A0 l0.length c0] rfl k70_ ?_; (with_reducible refine (spec_DrawMakePuzzle.calls _ _ l0 t102 t103 t104 _ ?side1 ?side2 A5.out).mono ?_); (case side1 => exact k63_); (case side2 => exact HC0.out); rintro e w11 ⟨rfl, hb⟩; refine ⟨_, rfl, ?_⟩; replace HB := HB.mw hb; (try clear hb)) | ((with_reducible refine gate_callee (f := 6) rfl ?_); refine goesL_ (some 69) rfl rfl Tryd.func6 (by kernel_rfl) rfl #[.int .i64 t102, .int .i64 t103, .int .i64 t104] rfl k70_ ?_; (with_reducible refine (impl_MakePuzzle.calls k t102 t103 t104 t105 t106 t107 _ A6.out).mono ?_); rintro e w12 ⟨rfl, hb⟩; refine ⟨_, rfl, ?_⟩; replace HB := HB.mw hb; (try clear hb)) | ((with_reducible refine gate_dst (N := 8) rfl ?_); (try (refine gate_guard (by rfl) ?_; dsimp only)); refine box_event ?hg (N := 8) ?hd (cs := #[.string (⟨#[]⟩ : ByteArray), .int .i64 0]) (t := 27) ?hr ?_; (case hd => rfl); (case hg => rfl); (case hr => exact k99_); intro gb108 hg w13 hbox hb; have BK108 := Aside0.mk (hbox); have GW108 := Aside0.mk (HB.ge hg); have GE108 := Aside0.mk (HB.ge hg); replace HB := HB.mw hb; clear hb hbox hg; have hcz14_0 : w13.cell? ⟨gb108, 0, none⟩ = some (.string (⟨#[]⟩ : ByteArray)) := (blk_cell BK108.out 0).trans rfl; have hcz14_1 : w13.cell? ⟨gb108, 1, none⟩ = some (.int .i64 0) := (blk_cell BK108.out 1).trans rfl; have hfz14_0 := blk_frozen BK108.out 0; have hfz14_1 := blk_frozen BK108.out 1) | ((with_reducible refine gate_callee (f := 7) rfl ?_); refine goesL_ (some 76) rfl rfl Tryd.func7 (by kernel_rfl) rfl #[.int .i64 t102, .int .i64 t103, .int .i64 t104] rfl k70_ ?_; (with_reducible refine (spec_MakePuzzle.calls k t102 t103 t104 t109 t110 t111 _ A7.out).mono ?_); rintro e w15 ⟨rfl, hb⟩; refine ⟨_, rfl, ?_⟩; replace BK108 := Aside0.mk (blk_below (g := gb108) (o := .cells #[.string t105, .int .i64 t106] 27 (0, 0)) k13_ hb); replace HB := Aside0.mk (below_step (by apply_rules only [HB.out, below_alloc, pw_below_drewN, below_drew1, below_set, GE108.out]) hb); (try clear hb)) | ((with_reducible refine gate_dst (N := 10) rfl ?_); (try (refine gate_guard (by rfl) ?_; dsimp only)); refine box_event ?hg (N := 10) ?hd (cs := #[.string (⟨#[]⟩ : ByteArray), .int .i64 0]) (t := 27) ?hr ?_; (case hd => rfl); (case hg => rfl); (case hr => exact k99_); intro gb112 hg w16 hbox hb; have BK112 := Aside0.mk (hbox); have GW112 := Aside0.mk ((by rw [hg]; exact (below_size (by apply_rules only [HB.out, below_alloc, pw_below_drewN, below_drew1, below_set, GE108.out])) : w.heap.size ≤ gb112)); have GE112 := Aside0.mk ((by rw [hg]; exact (below_size (by apply_rules only [HB.out, below_alloc, pw_below_drewN, below_drew1, below_set, GE108.out])) : w.heap.size ≤ gb112)); replace HB := Aside0.mk (below_step (by apply_rules only [HB.out, below_alloc, pw_below_drewN, below_drew1, below_set, GE108.out]) hb); have NB108_112 := Aside0.mk (BK108.ne hg); have NB112_108 := Aside0.mk (BK108.ne hg).symm; replace BK108 := BK108.mw hb; clear hb hbox hg; have hnb17 := NB112_108.out; have hnc17 := NB108_112.out; have hcz18_0 : w16.cell? ⟨gb112, 0, none⟩ = some (.string (⟨#[]⟩ : ByteArray)) := (blk_cell BK112.out 0).trans rfl; have hcz18_1 : w16.cell? ⟨gb112, 1, none⟩ = some (.int .i64 0) := (blk_cell BK112.out 1).trans rfl; have hfz18_0 := blk_frozen BK112.out 0; have hfz18_1 := blk_frozen BK112.out 1; have hcz19_0 : w16.cell? ⟨gb108, 0, none⟩ = some (.string t105) := (blk_cell BK108.out 0).trans rfl; have hcz19_1 : w16.cell? ⟨gb108, 1, none⟩ = some (.int .i64 t106) := (blk_cell BK108.out 1).trans rfl; have hfz19_0 := blk_frozen BK108.out 0; have hfz19_1 := blk_frozen BK108.out 1))
    (try simp only [Act.put, List.setIfInBounds_toArray, List.set_cons_zero, List.set_cons_succ])
    go_cut [] from 1 to 0 (fun wc => ∃ (kq : Nat), Aside0 (laws_FnPuzzlesSieved.j0 kq l1 = some true) ∧ Aside0 (kq ≤ k) ∧ Aside0 (wc.heap[gb108]? = some (.cells #[.string t105, .int .i64 t106] 27 (0, 0))) ∧ Aside0 (wc.heap[gb112]? = some (.cells #[.string t109, .int .i64 t110] 27 (0, 0))) ∧ Aside0 (Below w.heap.size w wc))
    case first =>
     have H := HC10.out
     clear HC10
     by_cases c20 : t107 = true
     ·subst c20
      rw [if_pos rfl] at H
      obtain ⟨⟨t113, t114⟩, A21, H⟩ := obnd_ H
      (try dsimp only at H)
      obtain ⟨t115, A22, H⟩ := obnd_ H
      (try dsimp only at H)
      by_cases c23 : t115 = true
      ·subst c23
       rw [if_pos rfl] at H
       by_cases c24 : (t105.size : Int) = t102
       ·rw [if_pos c24] at H
        have c24b0 : ((t105.size : Int) == t102) = true := beq_iff_eq.mpr c24
        have c24b1 : ((t105.size : Int) != t102) = false := bne_eq_false_iff_eq.mpr c24
        clear c24
        (first | rw [c24b0] | rw [c24b1] | (simp only [i64_w, i32_w]; rw [c24b0]) | skip)
        by_cases c25 : t106 = t103
        ·rw [if_pos c25] at H
         have c25b0 : (t106 == t103) = true := beq_iff_eq.mpr c25
         have c25b1 : (t106 != t103) = false := bne_eq_false_iff_eq.mpr c25
         clear c25
         by_cases c26 : t114 = true
         ·subst c26
          rw [if_pos rfl] at H
          by_cases c27 : t113 > t103
          ·rw [if_pos c27] at H
           have c27b0 : decide (t103 < t113) = true := decide_eq_true c27
           clear c27
           exact absurd H (by simp)
          ·rw [if_neg c27] at H
           have c27b0 : decide (t103 < t113) = false := decide_eq_false c27
           clear c27
           have H' := Aside0.mk H
           clear H
           have hnb28 := NB108_112.out
           have hnc28 := NB112_108.out
           have hcz29_0 : w16.cell? ⟨gb108, 0, none⟩ = some (.string t105) := (blk_cell BK108.out 0).trans rfl
           have hcz29_1 : w16.cell? ⟨gb108, 1, none⟩ = some (.int .i64 t106) := (blk_cell BK108.out 1).trans rfl
           have hfz29_0 := blk_frozen BK108.out 0
           have hfz29_1 := blk_frozen BK108.out 1
           go_wp2_with (first | ((with_reducible refine gate_callee (f := 8) rfl ?_); refine goesL_ (some 91) rfl rfl Tryd.func8 (by kernel_rfl) rfl #[.string t105] rfl k70_ ?_; (with_reducible refine (impl_FewestRules.calls k t105 t113 true _ A21.out).mono ?_); rintro e w30 ⟨rfl, hb⟩; refine ⟨_, rfl, ?_⟩; replace BK108 := Aside0.mk (blk_below (g := gb108) (o := .cells #[.string t105, .int .i64 t106] 27 (0, 0)) k29_ hb); replace BK112 := Aside0.mk (blk_below (g := gb112) (o := .cells #[.string t109, .int .i64 t110] 27 (0, 0)) k14_ hb); replace HB := Aside0.mk (below_step k79_ hb); (try clear hb); have hcz31_0 : w30.cell? ⟨gb108, 0, none⟩ = some (.string t105) := (blk_cell BK108.out 0).trans rfl; have hcz31_1 : w30.cell? ⟨gb108, 1, none⟩ = some (.int .i64 t106) := (blk_cell BK108.out 1).trans rfl; have hfz31_0 := blk_frozen BK108.out 0; have hfz31_1 := blk_frozen BK108.out 1) | ((with_reducible refine gate_callee (f := 9) rfl ?_); refine goesL_ (some 95) rfl rfl Tryd.func9 (by kernel_rfl) rfl #[.agg #[.string t105, .int .i64 t106]] rfl k70_ ?_; (with_reducible refine (impl_IsPuzzle.calls t105 t106 true _ A22.out).mono ?_); rintro e w32 ⟨rfl, hb⟩; refine ⟨_, rfl, ?_⟩; replace BK108 := BK108.mw hb; replace BK112 := BK112.mw hb; replace HB := Aside0.mk (below_step k79_ hb); (try clear hb); have hcz33_0 : w32.cell? ⟨gb108, 0, none⟩ = some (.string t105) := (blk_cell BK108.out 0).trans rfl; have hcz33_1 : w32.cell? ⟨gb108, 1, none⟩ = some (.int .i64 t106) := (blk_cell BK108.out 1).trans rfl; have hfz33_0 := blk_frozen BK108.out 0; have hfz33_1 := blk_frozen BK108.out 1))
           go_meet
           case rel => exact ⟨_, H', ⟨k100_⟩, ⟨k94_⟩, ⟨k92_⟩, ⟨k79_⟩⟩
         ·replace c26 := Bool.eq_false_iff.mpr c26
          subst c26
          rw [if_neg (show ¬ (false = true) by decide)] at H
          exact absurd H (by simp)
        ·rw [if_neg c25] at H
         have c25b0 : (t106 == t103) = false := beq_eq_false_iff_ne.mpr c25
         have c25b1 : (t106 != t103) = true := bne_iff_ne.mpr c25
         exact absurd H (by simp)
       ·rw [if_neg c24] at H
        have c24b0 : ((t105.size : Int) == t102) = false := beq_eq_false_iff_ne.mpr c24
        have c24b1 : ((t105.size : Int) != t102) = true := bne_iff_ne.mpr c24
        (first | rw [c24b0] | rw [c24b1] | (simp only [i64_w, i32_w]; rw [c24b0]) | skip)
        exact absurd H (by simp)
      ·replace c23 := Bool.eq_false_iff.mpr c23
       subst c23
       rw [if_neg (show ¬ (false = true) by decide)] at H
       exact absurd H (by simp)
     ·replace c20 := Bool.eq_false_iff.mpr c20
      subst c20
      rw [if_neg (show ¬ (false = true) by decide)] at H
      have H' := Aside0.mk H
      clear H
      go_wp2
      go_meet
      case rel => exact ⟨_, H', ⟨k100_⟩, ⟨k29_⟩, ⟨k14_⟩, ⟨k79_⟩⟩
    case rest =>
     clear HC10
     skip
     obtain ⟨kq, HA, HJ9, BK108, BK112, HB⟩ := hcut
     cases kq with
     | zero => exact absurd HA.out (by simp [laws_FnPuzzlesSieved.j0])
     | succ kj9 =>
      have H := HA.out
      clear HA
      simp only [laws_FnPuzzlesSieved.j0] at H
      obtain ⟨⟨t116, t117⟩, A34, H⟩ := obnd_ H
      (try dsimp only at H)
      obtain ⟨⟨t119, t120, t121⟩, A35, H⟩ := obnd_ H
      (try dsimp only at H)
      obtain ⟨⟨t123, t124, t125⟩, A36, H⟩ := obnd_ H
      (try dsimp only at H)
      by_cases c37 : (t121 != t125) = true
      ·rw [if_pos c37] at H
       have c37b0 : (t121 != t125) = true := c37
       (try (have c37b1 : decide (t121 = t125) = false := by simpa using c37))
       (try (have c37b2 : (t121 == t125) = false := by simpa using c37))
       (try (have c37b3 : ¬ (t121 = t125) := by simpa using c37))
       clear c37
       exact absurd H (by simp)
      ·rw [if_neg c37] at H
       have c37b0 : (t121 != t125) = false := by simpa using c37
       (try (have c37b1 : decide (t121 = t125) = true := by simpa using c37))
       (try (have c37b2 : (t121 == t125) = true := by simpa using c37))
       clear c37
       by_cases c38 : (!(t119.toList == t123.toList) || (!(t120 == t124))) = true
       ·rw [if_pos c38] at H
        have c38b0 : (!(t119.toList == t123.toList) || (!(t120 == t124))) = true := c38
        clear c38
        exact absurd H (by simp)
       ·rw [if_neg c38] at H
        have c38b0 : (!(t119.toList == t123.toList) || (!(t120 == t124))) = false := by simpa using c38
        clear c38
        have HC39 := Aside0.mk H
        clear H
        go_upto_if 139 with (first | ((with_reducible refine gate_callee (f := 10) rfl ?_); refine goesL_ (some 120) rfl rfl Tryd.func10 (by kernel_rfl) rfl #[.slice A1 l1.length c1] rfl k70_ ?_; (with_reducible refine (spec_DrawHarderPuzzle.calls kj9 _ _ l1 t116 t117 _ ?side1 ?side2 A34.out).mono ?_); (case side1 => exact k55_); (case side2 => exact HC1.out); rintro e w40 ⟨rfl, hb⟩; refine ⟨_, rfl, ?_⟩; replace BK108 := BK108.mw hb; replace BK112 := BK112.mw hb; replace HB := Aside0.mk (below_step k79_ hb); (try clear hb)) | ((with_reducible refine gate_dst (N := 14) rfl ?_); (try (refine gate_guard (by rfl) ?_; dsimp only)); refine box_event ?hg (N := 14) ?hd (cs := #[.string (⟨#[]⟩ : ByteArray), .int .i64 0]) (t := 27) ?hr ?_; (case hd => rfl); (case hg => rfl); (case hr => exact k99_); intro gb118 hg w41 hbox hb; have BK118 := Aside0.mk (hbox); have GW118 := Aside0.mk ((by rw [hg]; exact (below_size k79_) : w.heap.size ≤ gb118)); have GE118 := Aside0.mk ((by rw [hg]; exact (below_size k79_) : w.heap.size ≤ gb118)); replace HB := Aside0.mk (below_step k79_ hb); have NB108_118 := Aside0.mk (BK108.ne hg); have NB118_108 := Aside0.mk (BK108.ne hg).symm; replace BK108 := BK108.mw hb; have NB112_118 := Aside0.mk (BK112.ne hg); have NB118_112 := Aside0.mk (BK112.ne hg).symm; replace BK112 := BK112.mw hb; clear hb hbox hg; have hnb42 := NB118_108.out; have hnc42 := NB108_118.out; have hnb43 := NB118_112.out; have hnc43 := NB112_118.out; have hcz44_0 : w41.cell? ⟨gb118, 0, none⟩ = some (.string (⟨#[]⟩ : ByteArray)) := (blk_cell BK118.out 0).trans rfl; have hcz44_1 : w41.cell? ⟨gb118, 1, none⟩ = some (.int .i64 0) := (blk_cell BK118.out 1).trans rfl; have hfz44_0 := blk_frozen BK118.out 0; have hfz44_1 := blk_frozen BK118.out 1) | ((with_reducible refine gate_callee (f := 11) rfl ?_); refine goesL_ (some 123) rfl rfl Tryd.func11 (by kernel_rfl) rfl #[.agg #[.string t116, .int .i64 t117]] rfl k70_ ?_; (with_reducible refine (impl_HarderPuzzle.calls kj9 t116 t117 t119 t120 t121 _ A35.out).mono ?_); rintro e w45 ⟨rfl, hb⟩; refine ⟨_, rfl, ?_⟩; replace BK108 := Aside0.mk (blk_below (g := gb108) (o := .cells #[.string t105, .int .i64 t106] 27 (0, 0)) (by (with_reducible repeat (first | refine blk_drewN ?_ _ | refine blk_drew ?_ | refine blk_alloc ?_ _)); refine blk_far ?_ NB108_118.out _; (with_reducible repeat (first | refine blk_drewN ?_ _ | refine blk_drew ?_ | refine blk_alloc ?_ _)); refine blk_far ?_ NB108_118.out _; apply_rules only [BK108.out, blk_drewN, blk_drew, blk_alloc]) hb); replace BK112 := Aside0.mk (blk_below (g := gb112) (o := .cells #[.string t109, .int .i64 t110] 27 (0, 0)) (by (with_reducible repeat (first | refine blk_drewN ?_ _ | refine blk_drew ?_ | refine blk_alloc ?_ _)); refine blk_far ?_ NB112_118.out _; (with_reducible repeat (first | refine blk_drewN ?_ _ | refine blk_drew ?_ | refine blk_alloc ?_ _)); refine blk_far ?_ NB112_118.out _; apply_rules only [BK112.out, blk_drewN, blk_drew, blk_alloc]) hb); replace BK118 := Aside0.mk (blk_below (g := gb118) (o := .cells #[.string t116, .int .i64 t117] 27 (0, 0)) (by (with_reducible repeat (first | refine blk_drewN ?_ _ | refine blk_drew ?_ | refine blk_alloc ?_ _)); refine blk_put (cs := #[.string t116, .int .i64 0]) ?_ 1 _ rfl; (with_reducible repeat (first | refine blk_drewN ?_ _ | refine blk_drew ?_ | refine blk_alloc ?_ _)); refine blk_put (cs := #[.string (⟨#[]⟩ : ByteArray), .int .i64 0]) ?_ 0 _ rfl; apply_rules only [BK118.out, blk_drewN, blk_drew, blk_alloc]) hb); replace HB := Aside0.mk (below_step k74_ hb); (try clear hb)) | ((with_reducible refine gate_dst (N := 15) rfl ?_); (try (refine gate_guard (by rfl) ?_; dsimp only)); refine box_event ?hg (N := 15) ?hd (cs := #[.string (⟨#[]⟩ : ByteArray), .int .i64 0]) (t := 27) ?hr ?_; (case hd => rfl); (case hg => rfl); (case hr => exact k99_); intro gb122 hg w46 hbox hb; have BK122 := Aside0.mk (hbox); have GW122 := Aside0.mk ((by rw [hg]; exact (below_size k74_) : w.heap.size ≤ gb122)); have GE122 := Aside0.mk ((by rw [hg]; exact (below_size k74_) : w.heap.size ≤ gb122)); replace HB := Aside0.mk (below_step k74_ hb); have NB108_122 := Aside0.mk (BK108.ne hg); have NB122_108 := Aside0.mk (BK108.ne hg).symm; replace BK108 := BK108.mw hb; have NB112_122 := Aside0.mk (BK112.ne hg); have NB122_112 := Aside0.mk (BK112.ne hg).symm; replace BK112 := BK112.mw hb; have NB118_122 := Aside0.mk (BK118.ne hg); have NB122_118 := Aside0.mk (BK118.ne hg).symm; replace BK118 := BK118.mw hb; clear hb hbox hg; have hnb47 := NB122_108.out; have hnc47 := NB108_122.out; have hnb48 := NB122_112.out; have hnc48 := NB112_122.out; have hnb49 := NB122_118.out; have hnc49 := NB118_122.out; have hcz50_0 : w46.cell? ⟨gb122, 0, none⟩ = some (.string (⟨#[]⟩ : ByteArray)) := (blk_cell BK122.out 0).trans rfl; have hcz50_1 : w46.cell? ⟨gb122, 1, none⟩ = some (.int .i64 0) := (blk_cell BK122.out 1).trans rfl; have hfz50_0 := blk_frozen BK122.out 0; have hfz50_1 := blk_frozen BK122.out 1; have hcz51_0 : w46.cell? ⟨gb118, 0, none⟩ = some (.string t116) := (blk_cell BK118.out 0).trans rfl; have hcz51_1 : w46.cell? ⟨gb118, 1, none⟩ = some (.int .i64 t117) := (blk_cell BK118.out 1).trans rfl; have hfz51_0 := blk_frozen BK118.out 0; have hfz51_1 := blk_frozen BK118.out 1) | ((with_reducible refine gate_callee (f := 12) rfl ?_); refine goesL_ (some 128) rfl rfl Tryd.func12 (by kernel_rfl) rfl #[.agg #[.string t116, .int .i64 t117]] rfl k70_ ?_; (with_reducible refine (spec_HarderPuzzle.calls kj9 t116 t117 t123 t124 t125 _ A36.out).mono ?_); rintro e w52 ⟨rfl, hb⟩; refine ⟨_, rfl, ?_⟩; replace BK108 := Aside0.mk (blk_below (g := gb108) (o := .cells #[.string t105, .int .i64 t106] 27 (0, 0)) (by (with_reducible repeat (first | refine blk_drewN ?_ _ | refine blk_drew ?_ | refine blk_alloc ?_ _)); refine blk_far ?_ NB108_122.out _; (with_reducible repeat (first | refine blk_drewN ?_ _ | refine blk_drew ?_ | refine blk_alloc ?_ _)); refine blk_far ?_ NB108_122.out _; apply_rules only [BK108.out, blk_drewN, blk_drew, blk_alloc]) hb); replace BK112 := Aside0.mk (blk_below (g := gb112) (o := .cells #[.string t109, .int .i64 t110] 27 (0, 0)) (by (with_reducible repeat (first | refine blk_drewN ?_ _ | refine blk_drew ?_ | refine blk_alloc ?_ _)); refine blk_far ?_ NB112_122.out _; (with_reducible repeat (first | refine blk_drewN ?_ _ | refine blk_drew ?_ | refine blk_alloc ?_ _)); refine blk_far ?_ NB112_122.out _; apply_rules only [BK112.out, blk_drewN, blk_drew, blk_alloc]) hb); replace BK118 := Aside0.mk (blk_below (g := gb118) (o := .cells #[.string t116, .int .i64 t117] 27 (0, 0)) (by (with_reducible repeat (first | refine blk_drewN ?_ _ | refine blk_drew ?_ | refine blk_alloc ?_ _)); refine blk_far ?_ NB118_122.out _; (with_reducible repeat (first | refine blk_drewN ?_ _ | refine blk_drew ?_ | refine blk_alloc ?_ _)); refine blk_far ?_ NB118_122.out _; apply_rules only [BK118.out, blk_drewN, blk_drew, blk_alloc]) hb); replace BK122 := Aside0.mk (blk_below (g := gb122) (o := .cells #[.string t119, .int .i64 t120] 27 (0, 0)) (by (with_reducible repeat (first | refine blk_drewN ?_ _ | refine blk_drew ?_ | refine blk_alloc ?_ _)); refine blk_put (cs := #[.string t119, .int .i64 0]) ?_ 1 _ rfl; (with_reducible repeat (first | refine blk_drewN ?_ _ | refine blk_drew ?_ | refine blk_alloc ?_ _)); refine blk_put (cs := #[.string (⟨#[]⟩ : ByteArray), .int .i64 0]) ?_ 0 _ rfl; apply_rules only [BK122.out, blk_drewN, blk_drew, blk_alloc]) hb); replace HB := Aside0.mk (below_step k72_ hb); (try clear hb)) | ((with_reducible refine gate_dst (N := 17) rfl ?_); (try (refine gate_guard (by rfl) ?_; dsimp only)); refine box_event ?hg (N := 17) ?hd (cs := #[.string (⟨#[]⟩ : ByteArray), .int .i64 0]) (t := 27) ?hr ?_; (case hd => rfl); (case hg => rfl); (case hr => exact k99_); intro gb126 hg w53 hbox hb; have BK126 := Aside0.mk (hbox); have GW126 := Aside0.mk ((by rw [hg]; exact (below_size k72_) : w.heap.size ≤ gb126)); have GE126 := Aside0.mk ((by rw [hg]; exact (below_size k72_) : w.heap.size ≤ gb126)); replace HB := Aside0.mk (below_step k72_ hb); have NB108_126 := Aside0.mk (BK108.ne hg); have NB126_108 := Aside0.mk (BK108.ne hg).symm; replace BK108 := BK108.mw hb; have NB112_126 := Aside0.mk (BK112.ne hg); have NB126_112 := Aside0.mk (BK112.ne hg).symm; replace BK112 := BK112.mw hb; have NB118_126 := Aside0.mk (BK118.ne hg); have NB126_118 := Aside0.mk (BK118.ne hg).symm; replace BK118 := BK118.mw hb; have NB122_126 := Aside0.mk (BK122.ne hg); have NB126_122 := Aside0.mk (BK122.ne hg).symm; replace BK122 := BK122.mw hb; clear hb hbox hg; have hnb54 := NB126_108.out; have hnc54 := NB108_126.out; have hnb55 := NB126_112.out; have hnc55 := NB112_126.out; have hnb56 := NB126_118.out; have hnc56 := NB118_126.out; have hnb57 := NB126_122.out; have hnc57 := NB122_126.out; have hcz58_0 : w53.cell? ⟨gb126, 0, none⟩ = some (.string (⟨#[]⟩ : ByteArray)) := (blk_cell BK126.out 0).trans rfl; have hcz58_1 : w53.cell? ⟨gb126, 1, none⟩ = some (.int .i64 0) := (blk_cell BK126.out 1).trans rfl; have hfz58_0 := blk_frozen BK126.out 0; have hfz58_1 := blk_frozen BK126.out 1; have hcz59_0 : w53.cell? ⟨gb122, 0, none⟩ = some (.string t119) := (blk_cell BK122.out 0).trans rfl; have hcz59_1 : w53.cell? ⟨gb122, 1, none⟩ = some (.int .i64 t120) := (blk_cell BK122.out 1).trans rfl; have hfz59_0 := blk_frozen BK122.out 0; have hfz59_1 := blk_frozen BK122.out 1))
        (try simp only [Act.put, List.setIfInBounds_toArray, List.set_cons_zero, List.set_cons_succ])
        go_cut [] from 119 to 139 (fun wc => ∃ (kq : Nat), Aside0 (laws_FnPuzzlesSieved.j2 kq l1 = some true) ∧ Aside0 (kq ≤ kj9) ∧ Aside0 (wc.heap[gb108]? = some (.cells #[.string t105, .int .i64 t106] 27 (0, 0))) ∧ Aside0 (wc.heap[gb112]? = some (.cells #[.string t109, .int .i64 t110] 27 (0, 0))) ∧ Aside0 (wc.heap[gb118]? = some (.cells #[.string t116, .int .i64 t117] 27 (0, 0))) ∧ Aside0 (wc.heap[gb122]? = some (.cells #[.string t119, .int .i64 t120] 27 (0, 0))) ∧ Aside0 (wc.heap[gb126]? = some (.cells #[.string t123, .int .i64 t124] 27 (0, 0))) ∧ Aside0 (Below w.heap.size w wc))
        case first =>
         have H := HC39.out
         clear HC39
         by_cases c60 : t121 = true
         ·subst c60
          rw [if_pos rfl] at H
          obtain ⟨⟨t127, t130⟩, A61, H⟩ := obnd_ H
          (try dsimp only at H)
          obtain ⟨⟨t131, t134⟩, A62, H⟩ := obnd_ H
          (try dsimp only at H)
          by_cases c63 : t130 = true
          ·subst c63
           rw [if_pos rfl] at H
           by_cases c64 : (t127.length : Int) = 1
           ·rw [if_pos c64] at H
            have c64b0 : ((t127.length : Int) == 1) = true := beq_iff_eq.mpr c64
            have c64b1 : ((t127.length : Int) != 1) = false := bne_eq_false_iff_eq.mpr c64
            clear c64
            (first | rw [c64b0] | rw [c64b1] | (simp only [i64_w, i32_w]; rw [c64b0]) | skip)
            by_cases c65 : t134 = true
            ·subst c65
             rw [if_pos rfl] at H
             obtain ⟨t135, A66, H⟩ := obnd_ H
             (try dsimp only at H)
             by_cases c67 : t135 = true
             ·subst c67
              rw [if_pos rfl] at H
              by_cases c68 : (t119.size : Int) = (t116.size : Int)
              ·rw [if_pos c68] at H
               have c68b0 : ((t119.size : Int) == (t116.size : Int)) = true := beq_iff_eq.mpr c68
               have c68b1 : ((t119.size : Int) != (t116.size : Int)) = false := bne_eq_false_iff_eq.mpr c68
               have c68b2 : (t119.size == t116.size) = true := by first | simpa using c68 | (simp at c68 ⊢; omega)
               clear c68
               have H' := Aside0.mk H
               clear H
               have hnb69 := NB118_108.out
               have hnc69 := NB108_118.out
               have hnb70 := NB118_112.out
               have hnc70 := NB112_118.out
               have hnb71 := NB118_122.out
               have hnc71 := NB122_118.out
               have hnb72 := NB118_126.out
               have hnc72 := NB126_118.out
               have hcz73_0 : w53.cell? ⟨gb118, 0, none⟩ = some (.string t116) := (blk_cell BK118.out 0).trans rfl
               have hcz73_1 : w53.cell? ⟨gb118, 1, none⟩ = some (.int .i64 t117) := (blk_cell BK118.out 1).trans rfl
               have hfz73_0 := blk_frozen BK118.out 0
               have hfz73_1 := blk_frozen BK118.out 1
               go_wp2_with (first | ((with_reducible refine gate_callee (f := 13) rfl ?_); refine goesL_ (some 142) rfl rfl Tryd.func13 (by kernel_rfl) rfl #[.agg #[.string t116, .int .i64 t117]] rfl k70_ ?_; (with_reducible refine (impl_Answers.calls kj9 t116 t117 t127 true _ A61.out).mono ?_); rintro e w74 ⟨v128, rfl, ho0, hb⟩; refine ⟨_, rfl, ?_⟩; have HO129 := Aside0.mk (Kd.S_lower ho0 (below_size k71_)); replace BK108 := Aside0.mk (blk_below (g := gb108) (o := .cells #[.string t105, .int .i64 t106] 27 (0, 0)) k23_ hb); replace BK112 := Aside0.mk (blk_below (g := gb112) (o := .cells #[.string t109, .int .i64 t110] 27 (0, 0)) k31_ hb); replace BK118 := Aside0.mk (blk_below (g := gb118) (o := .cells #[.string t116, .int .i64 t117] 27 (0, 0)) k34_ hb); replace BK122 := Aside0.mk (blk_below (g := gb122) (o := .cells #[.string t119, .int .i64 t120] 27 (0, 0)) k33_ hb); replace BK126 := Aside0.mk (blk_below (g := gb126) (o := .cells #[.string t123, .int .i64 t124] 27 (0, 0)) k12_ hb); replace HB := Aside0.mk (below_step k71_ hb); (try clear hb ho0); have hnb75 := NB122_108.out; have hnc75 := NB108_122.out; have hnb76 := NB122_112.out; have hnc76 := NB112_122.out; have hnb77 := NB122_126.out; have hnc77 := NB126_122.out; have hcz78_0 : w74.cell? ⟨gb122, 0, none⟩ = some (.string t119) := (blk_cell BK122.out 0).trans rfl; have hcz78_1 : w74.cell? ⟨gb122, 1, none⟩ = some (.int .i64 t120) := (blk_cell BK122.out 1).trans rfl; have hfz78_0 := blk_frozen BK122.out 0; have hfz78_1 := blk_frozen BK122.out 1) | ((with_reducible refine gate_callee (f := 13) rfl ?_); refine goesL_ (some 147) rfl rfl Tryd.func13 (by kernel_rfl) rfl #[.agg #[.string t119, .int .i64 t120]] rfl k70_ ?_; (with_reducible refine (impl_Answers.calls kj9 t119 t120 t131 true _ A62.out).mono ?_); rintro e w79 ⟨v132, rfl, ho0, hb⟩; refine ⟨_, rfl, ?_⟩; have HO133 := Aside0.mk (Kd.S_lower (Kd.S_new' ho0 (Kd.S_lt (by apply_rules only [HO129.out, Kd.S_alloc, Kd.S_drewN, Kd.S_drew]))) (below_size k71_)); replace HO129 := Aside0.mk (Kd.S_elder' (by apply_rules only [HO129.out, Kd.S_alloc, Kd.S_drewN, Kd.S_drew]) (Kd.S_base ho0) hb); replace BK108 := BK108.mw hb; replace BK112 := BK112.mw hb; replace BK118 := BK118.mw hb; replace BK122 := BK122.mw hb; replace BK126 := BK126.mw hb; replace HB := Aside0.mk (below_step k71_ hb); (try clear hb ho0); obtain ⟨Ao80, co80, eo80⟩ := Kd.S_slice HO129.out; subst eo80; obtain ⟨Ao81, co81, eo81⟩ := Kd.S_slice HO133.out; subst eo81) | (go_at_call 14; (with_reducible refine (laws_gAnswers.calls kj9 _ _ t127 _ _ t131 true _ ?side1 ?side2 ?side3 ?side4 A66.out).mono ?_); (case side1 => repeat (first | exact (Kd.S_reads' HO129.out).2.2 | (with_reducible refine Kd.C_alloc ?_ _) | (with_reducible refine Kd.C_drewN ?_ _) | (with_reducible refine Kd.C_drew ?_))); (case side2 => exact (Kd.S_reads' HO129.out).2.1); (case side3 => repeat (first | exact (Kd.S_reads' HO133.out).2.2 | (with_reducible refine Kd.C_alloc ?_ _) | (with_reducible refine Kd.C_drewN ?_ _) | (with_reducible refine Kd.C_drew ?_))); (case side4 => exact (Kd.S_reads' HO133.out).2.1); rintro e w' ⟨rfl, ⟨nd, rfl⟩⟩; have hcz82_0 : w79.cell? ⟨gb122, 0, none⟩ = some (.string t119) := (blk_cell BK122.out 0).trans rfl; have hcz82_1 : w79.cell? ⟨gb122, 1, none⟩ = some (.int .i64 t120) := (blk_cell BK122.out 1).trans rfl; have hfz82_0 := blk_frozen BK122.out 0; have hfz82_1 := blk_frozen BK122.out 1; have hcz83_0 : w79.cell? ⟨gb118, 0, none⟩ = some (.string t116) := (blk_cell BK118.out 0).trans rfl; have hcz83_1 : w79.cell? ⟨gb118, 1, none⟩ = some (.int .i64 t117) := (blk_cell BK118.out 1).trans rfl; have hfz83_0 := blk_frozen BK118.out 0; have hfz83_1 := blk_frozen BK118.out 1))
               go_loopg [23] kj9 (fun kq v23 w' => ∃ (x23_2 : Int), v23 = .int .i64 x23_2 ∧ Aside0 (laws_FnPuzzlesSieved.l0 kq l1 x23_2 t116 t117 t119 t120 = some true) ∧ Aside0 (kq ≤ kj9) ∧ Aside0 (w'.heap[gb108]? = some (.cells #[.string t105, .int .i64 t106] 27 (0, 0))) ∧ Aside0 (w'.heap[gb112]? = some (.cells #[.string t109, .int .i64 t110] 27 (0, 0))) ∧ Aside0 (w'.heap[gb118]? = some (.cells #[.string t116, .int .i64 t117] 27 (0, 0))) ∧ Aside0 (w'.heap[gb122]? = some (.cells #[.string t119, .int .i64 t120] 27 (0, 0))) ∧ Aside0 (w'.heap[gb126]? = some (.cells #[.string t123, .int .i64 t124] 27 (0, 0))) ∧ Aside0 (Below w.heap.size w w'))
               case atStart => exact ⟨(1), k98_, H', ⟨Nat.le_refl _⟩, ⟨k94_⟩, ⟨k92_⟩, ⟨k88_⟩, ⟨k89_⟩, ⟨k95_⟩, ⟨k71_⟩⟩
               case round =>
                clear H'
                skip
                obtain ⟨x23_2, rfl, HA, HK2, BK108, BK112, BK118, BK122, BK126, HB⟩ := hrel
                cases gk with
                | zero => exact absurd HA.out (by simp [laws_FnPuzzlesSieved.l0])
                | succ k2 =>
                 have H := HA.out
                 clear HA
                 simp only [laws_FnPuzzlesSieved.l0] at H
                 by_cases c84 : x23_2 ≤ (t119.size : Int)
                 ·rw [if_pos c84] at H
                  have c84b0 : decide (x23_2 ≤ (t119.size : Int)) = true := decide_eq_true c84
                  clear c84
                  obtain ⟨ji85, hji85⟩ : ∃ j_ : Int, (wrap64 (x23_2 - 1)) = j_ := ⟨_, rfl⟩
                  replace H : (if 0 ≤ (ji85) then (if (ji85) < (t119.size : Int) then (if (bt t119 (ji85)) = 63 then (laws_FnPuzzlesSieved.l0 k2 l1 (wrap64 (x23_2 + 1)) t116 t117 t119 t120) else ((impl_HideNumber.f t119 t120 x23_2).bind fun bt136 => ((impl_CountAnswers.f k2 bt136.1 bt136.2.1).bind fun bt140 => (if (ji85) < (t116.size : Int) then (if (bt t119 (ji85)) = (bt t116 (ji85)) then (if bt136.2.2 = true then (if bt140.2 = true then (if bt140.1 < 2 then (some false) else (laws_FnPuzzlesSieved.l0 k2 l1 (wrap64 (x23_2 + 1)) t116 t117 t119 t120)) else (laws_FnPuzzlesSieved.l0 k2 l1 (wrap64 (x23_2 + 1)) t116 t117 t119 t120)) else (some false)) else (some false)) else (none))))) else (none)) else (none)) = some true := by first | (rw [hji85] at H; exact H) | (simp only [hji85] at H ⊢; exact H)
                  have hji85w : (IntKind.i64.wrap (x23_2 - 1)) = ji85 := (i64_w _).trans hji85
                  by_cases c86 : 0 ≤ (ji85)
                  ·rw [if_pos c86] at H
                   have c86b0 : decide (0 ≤ (ji85)) = true := decide_eq_true c86
                   clear c86
                   by_cases c87 : (ji85) < (t119.size : Int)
                   ·rw [if_pos c87] at H
                    have c87b0 : decide ((ji85) < (t119.size : Int)) = true := decide_eq_true c87
                    clear c87
                    by_cases c89 : (bt t119 (ji85)) = 63
                    ·rw [if_pos c89] at H
                     have c89b0 : ((bt t119 (ji85)) == 63) = true := beq_iff_eq.mpr c89
                     have c89b1 : ((bt t119 (ji85)) != 63) = false := bne_eq_false_iff_eq.mpr c89
                     clear c89
                     have H' := Aside0.mk H
                     clear H
                     have hnb90 := NB122_108.out
                     have hnc90 := NB108_122.out
                     have hnb91 := NB122_112.out
                     have hnc91 := NB112_122.out
                     have hnb92 := NB122_118.out
                     have hnc92 := NB118_122.out
                     have hnb93 := NB122_126.out
                     have hnc93 := NB126_122.out
                     have hcz94_0 : wr.cell? ⟨gb122, 0, none⟩ = some (.string t119) := (blk_cell BK122.out 0).trans rfl
                     have hcz94_1 : wr.cell? ⟨gb122, 1, none⟩ = some (.int .i64 t120) := (blk_cell BK122.out 1).trans rfl
                     have hfz94_0 := blk_frozen BK122.out 0
                     have hfz94_1 := blk_frozen BK122.out 1
                     have p88 : 0 ≤ ((ji85) : Int) := of_decide_eq_true k97_
                     have q88 : (ji85) < (t119.size : Int) := of_decide_eq_true k97_
                     have hx88 := bt_at t119 (ji85)
                     replace p88 := eq_true p88
                     replace q88 := eq_true q88
                     go_wp2
                     go_roundg k2
                     case measure => have := HJ9.out; have := HK2.out; omega
                     case rel => exact ⟨(wrap64 (x23_2 + 1)), k98_, H', ⟨by have := HJ9.out; have := HK2.out; omega⟩, ⟨k94_⟩, ⟨k92_⟩, ⟨k88_⟩, ⟨k89_⟩, ⟨k95_⟩, ⟨k71_⟩⟩
                    ·rw [if_neg c89] at H
                     have c89b0 : ((bt t119 (ji85)) == 63) = false := beq_eq_false_iff_ne.mpr c89
                     have c89b1 : ((bt t119 (ji85)) != 63) = true := bne_iff_ne.mpr c89
                     obtain ⟨⟨t136, t137, t138⟩, A95, H⟩ := obnd_ H
                     (try dsimp only at H)
                     obtain ⟨⟨t140, t141⟩, A96, H⟩ := obnd_ H
                     (try dsimp only at H)
                     by_cases c98 : (ji85) < (t116.size : Int)
                     ·rw [if_pos c98] at H
                      have c98b0 : decide ((ji85) < (t116.size : Int)) = true := decide_eq_true c98
                      clear c98
                      by_cases c100 : (bt t119 (ji85)) = (bt t116 (ji85))
                      ·rw [if_pos c100] at H
                       have c100b0 : ((bt t119 (ji85)) == (bt t116 (ji85))) = true := beq_iff_eq.mpr c100
                       have c100b1 : ((bt t119 (ji85)) != (bt t116 (ji85))) = false := bne_eq_false_iff_eq.mpr c100
                       clear c100
                       by_cases c101 : t138 = true
                       ·subst c101
                        rw [if_pos rfl] at H
                        by_cases c102 : t141 = true
                        ·subst c102
                         rw [if_pos rfl] at H
                         by_cases c103 : t140 < 2
                         ·rw [if_pos c103] at H
                          have c103b0 : decide (t140 < 2) = true := decide_eq_true c103
                          clear c103
                          exact absurd H (by simp)
                         ·rw [if_neg c103] at H
                          have c103b0 : decide (t140 < 2) = false := decide_eq_false c103
                          clear c103
                          have H' := Aside0.mk H
                          clear H
                          have hnb104 := NB122_108.out
                          have hnc104 := NB108_122.out
                          have hnb105 := NB122_112.out
                          have hnc105 := NB112_122.out
                          have hnb106 := NB122_118.out
                          have hnc106 := NB118_122.out
                          have hnb107 := NB122_126.out
                          have hnc107 := NB126_122.out
                          have hcz108_0 : wr.cell? ⟨gb122, 0, none⟩ = some (.string t119) := (blk_cell BK122.out 0).trans rfl
                          have hcz108_1 : wr.cell? ⟨gb122, 1, none⟩ = some (.int .i64 t120) := (blk_cell BK122.out 1).trans rfl
                          have hfz108_0 := blk_frozen BK122.out 0
                          have hfz108_1 := blk_frozen BK122.out 1
                          have p88 : 0 ≤ ((ji85) : Int) := of_decide_eq_true k97_
                          have q88 : (ji85) < (t119.size : Int) := of_decide_eq_true k97_
                          have hx88 := bt_at t119 (ji85)
                          replace p88 := eq_true p88
                          replace q88 := eq_true q88
                          try go_wp2_with (first | ((with_reducible refine gate_callee (f := 15) rfl ?_); refine goesL_ (some 192) rfl rfl Tryd.func15 (by kernel_rfl) rfl #[.agg #[.string t119, .int .i64 t120], .int .i64 x23_2] rfl k70_ ?_; (with_reducible refine (impl_HideNumber.calls t119 t120 x23_2 t136 t137 true _ A95.out).mono ?_); rintro e w109 ⟨rfl, hb⟩; refine ⟨_, rfl, ?_⟩; replace BK108 := BK108.mw hb; replace BK112 := BK112.mw hb; replace BK118 := BK118.mw hb; replace BK122 := BK122.mw hb; replace BK126 := BK126.mw hb; replace HB := Aside0.mk (below_step k71_ hb); (try clear hb)) | ((with_reducible refine gate_dst (N := 24) rfl ?_); (try (refine gate_guard (by rfl) ?_; dsimp only)); refine box_event ?hg (N := 24) ?hd (cs := #[.string (⟨#[]⟩ : ByteArray), .int .i64 0]) (t := 27) ?hr ?_; (case hd => rfl); (case hg => rfl); (case hr => exact k99_); intro gb139 hg w110 hbox hb; have BK139 := Aside0.mk (hbox); have GW139 := Aside0.mk ((by rw [hg]; exact (below_size k71_) : w.heap.size ≤ gb139)); have GE139 := Aside0.mk ((by rw [hg]; exact (below_size k71_) : w.heap.size ≤ gb139)); replace HB := Aside0.mk (below_step k71_ hb); have NB108_139 := Aside0.mk (BK108.ne hg); have NB139_108 := Aside0.mk (BK108.ne hg).symm; replace BK108 := BK108.mw hb; have NB112_139 := Aside0.mk (BK112.ne hg); have NB139_112 := Aside0.mk (BK112.ne hg).symm; replace BK112 := BK112.mw hb; have NB118_139 := Aside0.mk (BK118.ne hg); have NB139_118 := Aside0.mk (BK118.ne hg).symm; replace BK118 := BK118.mw hb; have NB122_139 := Aside0.mk (BK122.ne hg); have NB139_122 := Aside0.mk (BK122.ne hg).symm; replace BK122 := BK122.mw hb; have NB126_139 := Aside0.mk (BK126.ne hg); have NB139_126 := Aside0.mk (BK126.ne hg).symm; replace BK126 := BK126.mw hb; clear hb hbox hg; have hnb111 := NB139_108.out; have hnc111 := NB108_139.out; have hnb112 := NB139_112.out; have hnc112 := NB112_139.out; have hnb113 := NB139_118.out; have hnc113 := NB118_139.out; have hnb114 := NB139_122.out; have hnc114 := NB122_139.out; have hnb115 := NB139_126.out; have hnc115 := NB126_139.out; have hcz116_0 : w110.cell? ⟨gb139, 0, none⟩ = some (.string (⟨#[]⟩ : ByteArray)) := (blk_cell BK139.out 0).trans rfl; have hcz116_1 : w110.cell? ⟨gb139, 1, none⟩ = some (.int .i64 0) := (blk_cell BK139.out 1).trans rfl; have hfz116_0 := blk_frozen BK139.out 0; have hfz116_1 := blk_frozen BK139.out 1) | ((with_reducible refine gate_callee (f := 16) rfl ?_); refine goesL_ (some 197) rfl rfl Tryd.func16 (by kernel_rfl) rfl #[.agg #[.string t136, .int .i64 t137]] rfl k70_ ?_; (with_reducible refine (impl_CountAnswers.calls k2 t136 t137 t140 true _ A96.out).mono ?_); rintro e w117 ⟨rfl, hb⟩; refine ⟨_, rfl, ?_⟩; replace BK108 := Aside0.mk (blk_below (g := gb108) (o := .cells #[.string t105, .int .i64 t106] 27 (0, 0)) k20_ hb); replace BK112 := Aside0.mk (blk_below (g := gb112) (o := .cells #[.string t109, .int .i64 t110] 27 (0, 0)) k32_ hb); replace BK118 := Aside0.mk (blk_below (g := gb118) (o := .cells #[.string t116, .int .i64 t117] 27 (0, 0)) k26_ hb); replace BK122 := Aside0.mk (blk_below (g := gb122) (o := .cells #[.string t119, .int .i64 t120] 27 (0, 0)) k19_ hb); replace BK126 := Aside0.mk (blk_below (g := gb126) (o := .cells #[.string t123, .int .i64 t124] 27 (0, 0)) k25_ hb); replace BK139 := Aside0.mk (blk_below (g := gb139) (o := .cells #[.string t136, .int .i64 t137] 27 (0, 0)) k9_ hb); replace HB := Aside0.mk (below_step k65_ hb); (try clear hb)))
                          have n0_ := Aside0.mk (blk_drew BK108.out)
                          have n1_ := Aside0.mk (blk_drew BK112.out)
                          have n2_ := Aside0.mk (blk_drew BK118.out)
                          have n3_ := Aside0.mk (blk_drew BK122.out)
                          have n4_ := Aside0.mk (blk_drew BK126.out)
                          have n5_ := Aside0.mk (blk_drew BK139.out)
                          have n6_ := Aside0.mk (below_drew1 HB.out)
                          clear BK108
                          clear BK112
                          clear BK118
                          clear BK122
                          clear BK126
                          clear BK139
                          clear HB
                          have BK108 := n0_
                          have BK112 := n1_
                          have BK118 := n2_
                          have BK122 := n3_
                          have BK126 := n4_
                          have BK139 := n5_
                          have HB := n6_
                          clear n0_ n1_ n2_ n3_ n4_ n5_ n6_
                          have p97 : 0 ≤ ((ji85) : Int) := of_decide_eq_true k97_
                          have q97 : (ji85) < (t119.size : Int) := of_decide_eq_true k97_
                          have hx97 := bt_at t119 (ji85)
                          replace p97 := eq_true p97
                          replace q97 := eq_true q97
                          have p99 : 0 ≤ ((ji85) : Int) := of_decide_eq_true k97_
                          have q99 : (ji85) < (t116.size : Int) := of_decide_eq_true k97_
                          have hx99 := bt_at t116 (ji85)
                          replace p99 := eq_true p99
                          replace q99 := eq_true q99
                          refine start_ (n := 22) (S := fun w' => w'.cell? ⟨gb122, 0, none⟩ = some (.string t119) ∧ w'.cell? ⟨gb122, 1, none⟩ = some (.int .i64 t120) ∧ w'.cell? ⟨gb118, 0, none⟩ = some (.string t116) ∧ w'.cell? ⟨gb118, 1, none⟩ = some (.int .i64 t117)) (ds := []) #[false, false, false, false, false, false, false, false, false, false, false, false, false, false, false, false, false, false, false, false, false, false] (by kernel_rfl) rfl rfl ⟨(blk_cell BK122.out 0).trans rfl, (blk_cell BK122.out 1).trans rfl, (blk_cell BK118.out 0).trans rfl, (blk_cell BK118.out 1).trans rfl⟩ (fun hHeld => ?_); refine with_tabW laws_FnPuzzlesSieved.tab28 laws_FnPuzzlesSieved.bits28 (fun HT_ HW_ => ?_)
                          generalize w117.drew = w118 at BK108 BK112 BK118 BK122 BK126 BK139 HB hHeld ⊢
                          refine pure_ (i := 0) (N := some 200) (v := ?_) (a' := ?_) #[true, false, false, false, false, false, false, false, false, false, false, false, false, false, false, false, false, false, false, false, false, false] rfl rfl (any_of HT_.out (by kernel_rfl)) (fun _ _ _ h => h) (Or.inl ⟨by rfl, ?_⟩) ?_ ?_
                          rotate_left
                          ·intro w'
                           go_simp
                           with_reducible rfl
                          rotate_left
                          ·simp only [Act.put, List.setIfInBounds_toArray, List.set_cons_zero, List.set_cons_succ, i64_w, i32_w]
                           rfl
                          refine pure_ (i := 2) (N := some 202) (v := ?_) (a' := ?_) #[true, false, true, false, false, false, false, false, false, false, false, false, false, false, false, false, false, false, false, false, false, false] rfl rfl (any_of HT_.out (by kernel_rfl)) (fun _ _ _ h => h) (Or.inl ⟨by rfl, ?_⟩) ?_ ?_
                          rotate_left
                          ·intro w'
                           go_simp
                           with_reducible rfl
                          rotate_left
                          ·simp only [Act.put, List.setIfInBounds_toArray, List.set_cons_zero, List.set_cons_succ, i64_w, i32_w]
                           rfl
                          refine pure_ (i := 3) (N := some 203) (v := ?_) (a' := ?_) #[true, false, true, true, false, false, false, false, false, false, false, false, false, false, false, false, false, false, false, false, false, false] rfl rfl (any_of HT_.out (by kernel_rfl)) (fun _ _ _ h => h) (Or.inl ⟨by rfl, ?_⟩) ?_ ?_
                          rotate_left
                          ·intro w'
                           go_simp
                           with_reducible rfl
                          rotate_left
                          ·simp only [Act.put, List.setIfInBounds_toArray, List.set_cons_zero, List.set_cons_succ, i64_w, i32_w]
                           rfl
                          refine pure_ (i := 5) (N := some 205) (v := ?_) (a' := ?_) #[true, false, true, true, false, true, false, false, false, false, false, false, false, false, false, false, false, false, false, false, false, false] rfl rfl (any_of HT_.out (by kernel_rfl)) (fun _ _ _ h => h) (Or.inl ⟨by rfl, ?_⟩) ?_ ?_
                          rotate_left
                          ·intro w'
                           go_simp
                           with_reducible rfl
                          rotate_left
                          ·simp only [Act.put, List.setIfInBounds_toArray, List.set_cons_zero, List.set_cons_succ, i64_w, i32_w]
                           rfl
                          refine pure_ (i := 7) (N := some 207) (v := ?_) (a' := ?_) #[true, false, true, true, false, true, false, true, false, false, false, false, false, false, false, false, false, false, false, false, false, false] rfl rfl (any_of HT_.out (by kernel_rfl)) (fun _ _ _ h => h) (Or.inl ⟨by rfl, ?_⟩) ?_ ?_
                          rotate_left
                          ·intro w'
                           go_simp
                           with_reducible rfl
                          rotate_left
                          ·simp only [Act.put, List.setIfInBounds_toArray, List.set_cons_zero, List.set_cons_succ, i64_w, i32_w]
                           rfl
                          refine pure_ (i := 8) (N := some 208) (v := ?_) (a' := ?_) #[true, false, true, true, false, true, false, true, true, false, false, false, false, false, false, false, false, false, false, false, false, false] rfl rfl (any_of HT_.out (by kernel_rfl)) (fun _ _ _ h => h) (Or.inl ⟨by rfl, ?_⟩) ?_ ?_
                          rotate_left
                          ·intro w'
                           go_simp
                           with_reducible rfl
                          rotate_left
                          ·simp only [Act.put, List.setIfInBounds_toArray, List.set_cons_zero, List.set_cons_succ, i64_w, i32_w]
                           rfl
                          refine take_ (i := 1) (N := some 201) (v := ?_) (a' := ?_) #[true, true, true, true, false, true, false, true, true, false, false, false, false, false, false, false, false, false, false, false, false, false] rfl rfl (take_ofW HT_.out HW_.out (by kernel_rfl)) (fun _ _ _ h => h) (Or.inl ⟨by rfl, ?_⟩) hHeld ?_ ?_
                          rotate_left
                          ·rintro w' ⟨s0, s1, s2, s3⟩
                           go_simp
                           with_reducible rfl
                          rotate_left
                          ·simp only [Act.put, List.setIfInBounds_toArray, List.set_cons_zero, List.set_cons_succ, i64_w, i32_w]
                           rfl
                          refine take_ (i := 4) (N := some 204) (v := ?_) (a' := ?_) #[true, true, true, true, true, true, false, true, true, false, false, false, false, false, false, false, false, false, false, false, false, false] rfl rfl (take_ofW HT_.out HW_.out (by kernel_rfl)) (fun _ _ _ h => h) (Or.inl ⟨by rfl, ?_⟩) hHeld ?_ ?_
                          rotate_left
                          ·rintro w' ⟨s0, s1, s2, s3⟩
                           go_simp
                           with_reducible rfl
                          rotate_left
                          ·simp only [Act.put, List.setIfInBounds_toArray, List.set_cons_zero, List.set_cons_succ, i64_w, i32_w]
                           rfl
                          refine take_ (i := 6) (N := some 206) (v := ?_) (a' := ?_) #[true, true, true, true, true, true, true, true, true, false, false, false, false, false, false, false, false, false, false, false, false, false] rfl rfl (take_ofW HT_.out HW_.out (by kernel_rfl)) (fun _ _ _ h => h) (Or.inl ⟨by rfl, ?_⟩) hHeld ?_ ?_
                          rotate_left
                          ·rintro w' ⟨s0, s1, s2, s3⟩
                           go_simp
                           with_reducible rfl
                          rotate_left
                          ·simp only [Act.put, List.setIfInBounds_toArray, List.set_cons_zero, List.set_cons_succ, i64_w, i32_w]
                           rfl
                          refine take_ (i := 9) (N := some 209) (v := ?_) (a' := ?_) #[true, true, true, true, true, true, true, true, true, true, false, false, false, false, false, false, false, false, false, false, false, false] rfl rfl (take_ofW HT_.out HW_.out (by kernel_rfl)) (fun _ _ _ h => h) (Or.inl ⟨by rfl, ?_⟩) hHeld ?_ ?_
                          rotate_left
                          ·rintro w' ⟨s0, s1, s2, s3⟩
                           go_simp
                           with_reducible rfl
                          rotate_left
                          ·simp only [Act.put, List.setIfInBounds_toArray, List.set_cons_zero, List.set_cons_succ, i64_w, i32_w]
                           rfl
                          refine pure_ (i := 10) (N := some 210) (v := ?_) (a' := ?_) #[true, true, true, true, true, true, true, true, true, true, true, false, false, false, false, false, false, false, false, false, false, false] rfl rfl (any_of HT_.out (by kernel_rfl)) (fun _ _ _ h => h) (Or.inl ⟨by rfl, ?_⟩) ?_ ?_
                          rotate_left
                          ·intro w'
                           go_simp
                           with_reducible rfl
                          rotate_left
                          ·simp only [Act.put, List.setIfInBounds_toArray, List.set_cons_zero, List.set_cons_succ, i64_w, i32_w]
                           rfl
                          refine pure_ (i := 11) (N := some 211) (v := ?_) (a' := ?_) #[true, true, true, true, true, true, true, true, true, true, true, true, false, false, false, false, false, false, false, false, false, false] rfl rfl (any_of HT_.out (by kernel_rfl)) (fun _ _ _ h => h) (Or.inl ⟨by rfl, ?_⟩) ?_ ?_
                          rotate_left
                          ·intro w'
                           go_simp
                           with_reducible rfl
                          rotate_left
                          ·simp only [Act.put, List.setIfInBounds_toArray, List.set_cons_zero, List.set_cons_succ, i64_w, i32_w]
                           rfl
                          refine pure_ (i := 12) (N := some 212) (v := ?_) (a' := ?_) #[true, true, true, true, true, true, true, true, true, true, true, true, true, false, false, false, false, false, false, false, false, false] rfl rfl (any_of HT_.out (by kernel_rfl)) (fun _ _ _ h => h) (Or.inl ⟨by rfl, ?_⟩) ?_ ?_
                          rotate_left
                          ·intro w'
                           go_simp
                           with_reducible rfl
                          rotate_left
                          ·simp only [Act.put, List.setIfInBounds_toArray, List.set_cons_zero, List.set_cons_succ, i64_w, i32_w]
                           rfl
                          refine pure_ (i := 13) (N := some 213) (v := ?_) (a' := ?_) #[true, true, true, true, true, true, true, true, true, true, true, true, true, true, false, false, false, false, false, false, false, false] rfl rfl (any_of HT_.out (by kernel_rfl)) (fun _ _ _ h => h) (Or.inl ⟨by rfl, ?_⟩) ?_ ?_
                          rotate_left
                          ·intro w'
                           go_simp
                           with_reducible rfl
                          rotate_left
                          ·simp only [Act.put, List.setIfInBounds_toArray, List.set_cons_zero, List.set_cons_succ, i64_w, i32_w]
                           rfl
                          refine pure_ (i := 14) (N := some 214) (v := ?_) (a' := ?_) #[true, true, true, true, true, true, true, true, true, true, true, true, true, true, true, false, false, false, false, false, false, false] rfl rfl (any_of HT_.out (by kernel_rfl)) (fun _ _ _ h => h) (Or.inl ⟨by rfl, ?_⟩) ?_ ?_
                          rotate_left
                          ·intro w'
                           go_simp
                           with_reducible rfl
                          rotate_left
                          ·simp only [Act.put, List.setIfInBounds_toArray, List.set_cons_zero, List.set_cons_succ, i64_w, i32_w]
                           rfl
                          refine pure_ (i := 15) (N := some 215) (v := ?_) (a' := ?_) #[true, true, true, true, true, true, true, true, true, true, true, true, true, true, true, true, false, false, false, false, false, false] rfl rfl (any_of HT_.out (by kernel_rfl)) (fun _ _ _ h => h) (Or.inl ⟨by rfl, ?_⟩) ?_ ?_
                          rotate_left
                          ·intro w'
                           go_simp
                           with_reducible rfl
                          rotate_left
                          ·simp only [Act.put, List.setIfInBounds_toArray, List.set_cons_zero, List.set_cons_succ, i64_w, i32_w]
                           rfl
                          refine pure_ (i := 16) (N := some 216) (v := ?_) (a' := ?_) #[true, true, true, true, true, true, true, true, true, true, true, true, true, true, true, true, true, false, false, false, false, false] rfl rfl (any_of HT_.out (by kernel_rfl)) (fun _ _ _ h => h) (Or.inl ⟨by rfl, ?_⟩) ?_ ?_
                          rotate_left
                          ·intro w'
                           go_simp
                           with_reducible rfl
                          rotate_left
                          ·simp only [Act.put, List.setIfInBounds_toArray, List.set_cons_zero, List.set_cons_succ, i64_w, i32_w]
                           rfl
                          refine pure_ (i := 17) (N := some 217) (v := ?_) (a' := ?_) #[true, true, true, true, true, true, true, true, true, true, true, true, true, true, true, true, true, true, false, false, false, false] rfl rfl (any_of HT_.out (by kernel_rfl)) (fun _ _ _ h => h) (Or.inl ⟨by rfl, ?_⟩) ?_ ?_
                          rotate_left
                          ·intro w'
                           go_simp
                           with_reducible rfl
                          rotate_left
                          ·simp only [Act.put, List.setIfInBounds_toArray, List.set_cons_zero, List.set_cons_succ, i64_w, i32_w]
                           rfl
                          refine pure_ (i := 18) (N := some 218) (v := ?_) (a' := ?_) #[true, true, true, true, true, true, true, true, true, true, true, true, true, true, true, true, true, true, true, false, false, false] rfl rfl (any_of HT_.out (by kernel_rfl)) (fun _ _ _ h => h) (Or.inl ⟨by rfl, ?_⟩) ?_ ?_
                          rotate_left
                          ·intro w'
                           go_simp
                           with_reducible rfl
                          rotate_left
                          ·simp only [Act.put, List.setIfInBounds_toArray, List.set_cons_zero, List.set_cons_succ, i64_w, i32_w]
                           rfl
                          refine pure_ (i := 19) (N := some 219) (v := ?_) (a' := ?_) #[true, true, true, true, true, true, true, true, true, true, true, true, true, true, true, true, true, true, true, true, false, false] rfl rfl (any_of HT_.out (by kernel_rfl)) (fun _ _ _ h => h) (Or.inl ⟨by rfl, ?_⟩) ?_ ?_
                          rotate_left
                          ·intro w'
                           go_simp
                           with_reducible rfl
                          rotate_left
                          ·simp only [Act.put, List.setIfInBounds_toArray, List.set_cons_zero, List.set_cons_succ, i64_w, i32_w]
                           rfl
                          refine pure_ (i := 20) (N := some 220) (v := ?_) (a' := ?_) #[true, true, true, true, true, true, true, true, true, true, true, true, true, true, true, true, true, true, true, true, true, false] rfl rfl (any_of HT_.out (by kernel_rfl)) (fun _ _ _ h => h) (Or.inl ⟨by rfl, ?_⟩) ?_ ?_
                          rotate_left
                          ·intro w'
                           go_simp
                           with_reducible rfl
                          rotate_left
                          ·simp only [Act.put, List.setIfInBounds_toArray, List.set_cons_zero, List.set_cons_succ, i64_w, i32_w]
                           rfl
                          refine pure_ (i := 21) (N := some 221) (v := ?_) (a' := ?_) #[true, true, true, true, true, true, true, true, true, true, true, true, true, true, true, true, true, true, true, true, true, true] rfl rfl (any_of HT_.out (by kernel_rfl)) (fun _ _ _ h => h) (Or.inl ⟨by rfl, ?_⟩) ?_ ?_
                          rotate_left
                          ·intro w'
                           go_simp
                           with_reducible rfl
                          rotate_left
                          ·simp only [Act.put, List.setIfInBounds_toArray, List.set_cons_zero, List.set_cons_succ, i64_w, i32_w]
                           rfl
                          refine done_ (done_of HT_.out (by kernel_rfl)) ?_
                          try go_wp2
                          go_roundg k2
                          case measure => have := HJ9.out; have := HK2.out; omega
                          case rel => exact ⟨(wrap64 (x23_2 + 1)), k98_, H', ⟨by have := HJ9.out; have := HK2.out; omega⟩, ⟨k94_⟩, ⟨k92_⟩, ⟨k88_⟩, ⟨k89_⟩, ⟨k95_⟩, ⟨k65_⟩⟩
                        ·replace c102 := Bool.eq_false_iff.mpr c102
                         subst c102
                         rw [if_neg (show ¬ (false = true) by decide)] at H
                         have H' := Aside0.mk H
                         clear H
                         have hnb119 := NB122_108.out
                         have hnc119 := NB108_122.out
                         have hnb120 := NB122_112.out
                         have hnc120 := NB112_122.out
                         have hnb121 := NB122_118.out
                         have hnc121 := NB118_122.out
                         have hnb122 := NB122_126.out
                         have hnc122 := NB126_122.out
                         have hcz123_0 : wr.cell? ⟨gb122, 0, none⟩ = some (.string t119) := (blk_cell BK122.out 0).trans rfl
                         have hcz123_1 : wr.cell? ⟨gb122, 1, none⟩ = some (.int .i64 t120) := (blk_cell BK122.out 1).trans rfl
                         have hfz123_0 := blk_frozen BK122.out 0
                         have hfz123_1 := blk_frozen BK122.out 1
                         have p88 : 0 ≤ ((ji85) : Int) := of_decide_eq_true k97_
                         have q88 : (ji85) < (t119.size : Int) := of_decide_eq_true k97_
                         have hx88 := bt_at t119 (ji85)
                         replace p88 := eq_true p88
                         replace q88 := eq_true q88
                         try go_wp2_with (first | ((with_reducible refine gate_callee (f := 15) rfl ?_); refine goesL_ (some 192) rfl rfl Tryd.func15 (by kernel_rfl) rfl #[.agg #[.string t119, .int .i64 t120], .int .i64 x23_2] rfl k70_ ?_; (with_reducible refine (impl_HideNumber.calls t119 t120 x23_2 t136 t137 true _ A95.out).mono ?_); rintro e w124 ⟨rfl, hb⟩; refine ⟨_, rfl, ?_⟩; replace BK108 := BK108.mw hb; replace BK112 := BK112.mw hb; replace BK118 := BK118.mw hb; replace BK122 := BK122.mw hb; replace BK126 := BK126.mw hb; replace HB := Aside0.mk (below_step k71_ hb); (try clear hb)) | ((with_reducible refine gate_dst (N := 24) rfl ?_); (try (refine gate_guard (by rfl) ?_; dsimp only)); refine box_event ?hg (N := 24) ?hd (cs := #[.string (⟨#[]⟩ : ByteArray), .int .i64 0]) (t := 27) ?hr ?_; (case hd => rfl); (case hg => rfl); (case hr => exact k99_); intro gb139 hg w125 hbox hb; have BK139 := Aside0.mk (hbox); have GW139 := Aside0.mk ((by rw [hg]; exact (below_size k71_) : w.heap.size ≤ gb139)); have GE139 := Aside0.mk ((by rw [hg]; exact (below_size k71_) : w.heap.size ≤ gb139)); replace HB := Aside0.mk (below_step k71_ hb); have NB108_139 := Aside0.mk (BK108.ne hg); have NB139_108 := Aside0.mk (BK108.ne hg).symm; replace BK108 := BK108.mw hb; have NB112_139 := Aside0.mk (BK112.ne hg); have NB139_112 := Aside0.mk (BK112.ne hg).symm; replace BK112 := BK112.mw hb; have NB118_139 := Aside0.mk (BK118.ne hg); have NB139_118 := Aside0.mk (BK118.ne hg).symm; replace BK118 := BK118.mw hb; have NB122_139 := Aside0.mk (BK122.ne hg); have NB139_122 := Aside0.mk (BK122.ne hg).symm; replace BK122 := BK122.mw hb; have NB126_139 := Aside0.mk (BK126.ne hg); have NB139_126 := Aside0.mk (BK126.ne hg).symm; replace BK126 := BK126.mw hb; clear hb hbox hg; have hnb126 := NB139_108.out; have hnc126 := NB108_139.out; have hnb127 := NB139_112.out; have hnc127 := NB112_139.out; have hnb128 := NB139_118.out; have hnc128 := NB118_139.out; have hnb129 := NB139_122.out; have hnc129 := NB122_139.out; have hnb130 := NB139_126.out; have hnc130 := NB126_139.out; have hcz131_0 : w125.cell? ⟨gb139, 0, none⟩ = some (.string (⟨#[]⟩ : ByteArray)) := (blk_cell BK139.out 0).trans rfl; have hcz131_1 : w125.cell? ⟨gb139, 1, none⟩ = some (.int .i64 0) := (blk_cell BK139.out 1).trans rfl; have hfz131_0 := blk_frozen BK139.out 0; have hfz131_1 := blk_frozen BK139.out 1) | ((with_reducible refine gate_callee (f := 16) rfl ?_); refine goesL_ (some 197) rfl rfl Tryd.func16 (by kernel_rfl) rfl #[.agg #[.string t136, .int .i64 t137]] rfl k70_ ?_; (with_reducible refine (impl_CountAnswers.calls k2 t136 t137 t140 false _ A96.out).mono ?_); rintro e w132 ⟨rfl, hb⟩; refine ⟨_, rfl, ?_⟩; replace BK108 := Aside0.mk (blk_below (g := gb108) (o := .cells #[.string t105, .int .i64 t106] 27 (0, 0)) k20_ hb); replace BK112 := Aside0.mk (blk_below (g := gb112) (o := .cells #[.string t109, .int .i64 t110] 27 (0, 0)) k32_ hb); replace BK118 := Aside0.mk (blk_below (g := gb118) (o := .cells #[.string t116, .int .i64 t117] 27 (0, 0)) k26_ hb); replace BK122 := Aside0.mk (blk_below (g := gb122) (o := .cells #[.string t119, .int .i64 t120] 27 (0, 0)) k19_ hb); replace BK126 := Aside0.mk (blk_below (g := gb126) (o := .cells #[.string t123, .int .i64 t124] 27 (0, 0)) k25_ hb); replace BK139 := Aside0.mk (blk_below (g := gb139) (o := .cells #[.string t136, .int .i64 t137] 27 (0, 0)) k9_ hb); replace HB := Aside0.mk (below_step k65_ hb); (try clear hb)))
                         have n0_ := Aside0.mk (blk_drew BK108.out)
                         have n1_ := Aside0.mk (blk_drew BK112.out)
                         have n2_ := Aside0.mk (blk_drew BK118.out)
                         have n3_ := Aside0.mk (blk_drew BK122.out)
                         have n4_ := Aside0.mk (blk_drew BK126.out)
                         have n5_ := Aside0.mk (blk_drew BK139.out)
                         have n6_ := Aside0.mk (below_drew1 HB.out)
                         clear BK108
                         clear BK112
                         clear BK118
                         clear BK122
                         clear BK126
                         clear BK139
                         clear HB
                         have BK108 := n0_
                         have BK112 := n1_
                         have BK118 := n2_
                         have BK122 := n3_
                         have BK126 := n4_
                         have BK139 := n5_
                         have HB := n6_
                         clear n0_ n1_ n2_ n3_ n4_ n5_ n6_
                         have p97 : 0 ≤ ((ji85) : Int) := of_decide_eq_true k97_
                         have q97 : (ji85) < (t119.size : Int) := of_decide_eq_true k97_
                         have hx97 := bt_at t119 (ji85)
                         replace p97 := eq_true p97
                         replace q97 := eq_true q97
                         have p99 : 0 ≤ ((ji85) : Int) := of_decide_eq_true k97_
                         have q99 : (ji85) < (t116.size : Int) := of_decide_eq_true k97_
                         have hx99 := bt_at t116 (ji85)
                         replace p99 := eq_true p99
                         replace q99 := eq_true q99
                         refine start_ (n := 22) (S := fun w' => w'.cell? ⟨gb122, 0, none⟩ = some (.string t119) ∧ w'.cell? ⟨gb122, 1, none⟩ = some (.int .i64 t120) ∧ w'.cell? ⟨gb118, 0, none⟩ = some (.string t116) ∧ w'.cell? ⟨gb118, 1, none⟩ = some (.int .i64 t117)) (ds := []) #[false, false, false, false, false, false, false, false, false, false, false, false, false, false, false, false, false, false, false, false, false, false] (by kernel_rfl) rfl rfl ⟨(blk_cell BK122.out 0).trans rfl, (blk_cell BK122.out 1).trans rfl, (blk_cell BK118.out 0).trans rfl, (blk_cell BK118.out 1).trans rfl⟩ (fun hHeld => ?_); refine with_tabW laws_FnPuzzlesSieved.tab28 laws_FnPuzzlesSieved.bits28 (fun HT_ HW_ => ?_)
                         generalize w132.drew = w133 at BK108 BK112 BK118 BK122 BK126 BK139 HB hHeld ⊢
                         refine pure_ (i := 0) (N := some 200) (v := ?_) (a' := ?_) #[true, false, false, false, false, false, false, false, false, false, false, false, false, false, false, false, false, false, false, false, false, false] rfl rfl (any_of HT_.out (by kernel_rfl)) (fun _ _ _ h => h) (Or.inl ⟨by rfl, ?_⟩) ?_ ?_
                         rotate_left
                         ·intro w'
                          go_simp
                          with_reducible rfl
                         rotate_left
                         ·simp only [Act.put, List.setIfInBounds_toArray, List.set_cons_zero, List.set_cons_succ, i64_w, i32_w]
                          rfl
                         refine pure_ (i := 2) (N := some 202) (v := ?_) (a' := ?_) #[true, false, true, false, false, false, false, false, false, false, false, false, false, false, false, false, false, false, false, false, false, false] rfl rfl (any_of HT_.out (by kernel_rfl)) (fun _ _ _ h => h) (Or.inl ⟨by rfl, ?_⟩) ?_ ?_
                         rotate_left
                         ·intro w'
                          go_simp
                          with_reducible rfl
                         rotate_left
                         ·simp only [Act.put, List.setIfInBounds_toArray, List.set_cons_zero, List.set_cons_succ, i64_w, i32_w]
                          rfl
                         refine pure_ (i := 3) (N := some 203) (v := ?_) (a' := ?_) #[true, false, true, true, false, false, false, false, false, false, false, false, false, false, false, false, false, false, false, false, false, false] rfl rfl (any_of HT_.out (by kernel_rfl)) (fun _ _ _ h => h) (Or.inl ⟨by rfl, ?_⟩) ?_ ?_
                         rotate_left
                         ·intro w'
                          go_simp
                          with_reducible rfl
                         rotate_left
                         ·simp only [Act.put, List.setIfInBounds_toArray, List.set_cons_zero, List.set_cons_succ, i64_w, i32_w]
                          rfl
                         refine pure_ (i := 5) (N := some 205) (v := ?_) (a' := ?_) #[true, false, true, true, false, true, false, false, false, false, false, false, false, false, false, false, false, false, false, false, false, false] rfl rfl (any_of HT_.out (by kernel_rfl)) (fun _ _ _ h => h) (Or.inl ⟨by rfl, ?_⟩) ?_ ?_
                         rotate_left
                         ·intro w'
                          go_simp
                          with_reducible rfl
                         rotate_left
                         ·simp only [Act.put, List.setIfInBounds_toArray, List.set_cons_zero, List.set_cons_succ, i64_w, i32_w]
                          rfl
                         refine pure_ (i := 7) (N := some 207) (v := ?_) (a' := ?_) #[true, false, true, true, false, true, false, true, false, false, false, false, false, false, false, false, false, false, false, false, false, false] rfl rfl (any_of HT_.out (by kernel_rfl)) (fun _ _ _ h => h) (Or.inl ⟨by rfl, ?_⟩) ?_ ?_
                         rotate_left
                         ·intro w'
                          go_simp
                          with_reducible rfl
                         rotate_left
                         ·simp only [Act.put, List.setIfInBounds_toArray, List.set_cons_zero, List.set_cons_succ, i64_w, i32_w]
                          rfl
                         refine pure_ (i := 8) (N := some 208) (v := ?_) (a' := ?_) #[true, false, true, true, false, true, false, true, true, false, false, false, false, false, false, false, false, false, false, false, false, false] rfl rfl (any_of HT_.out (by kernel_rfl)) (fun _ _ _ h => h) (Or.inl ⟨by rfl, ?_⟩) ?_ ?_
                         rotate_left
                         ·intro w'
                          go_simp
                          with_reducible rfl
                         rotate_left
                         ·simp only [Act.put, List.setIfInBounds_toArray, List.set_cons_zero, List.set_cons_succ, i64_w, i32_w]
                          rfl
                         refine take_ (i := 1) (N := some 201) (v := ?_) (a' := ?_) #[true, true, true, true, false, true, false, true, true, false, false, false, false, false, false, false, false, false, false, false, false, false] rfl rfl (take_ofW HT_.out HW_.out (by kernel_rfl)) (fun _ _ _ h => h) (Or.inl ⟨by rfl, ?_⟩) hHeld ?_ ?_
                         rotate_left
                         ·rintro w' ⟨s0, s1, s2, s3⟩
                          go_simp
                          with_reducible rfl
                         rotate_left
                         ·simp only [Act.put, List.setIfInBounds_toArray, List.set_cons_zero, List.set_cons_succ, i64_w, i32_w]
                          rfl
                         refine take_ (i := 4) (N := some 204) (v := ?_) (a' := ?_) #[true, true, true, true, true, true, false, true, true, false, false, false, false, false, false, false, false, false, false, false, false, false] rfl rfl (take_ofW HT_.out HW_.out (by kernel_rfl)) (fun _ _ _ h => h) (Or.inl ⟨by rfl, ?_⟩) hHeld ?_ ?_
                         rotate_left
                         ·rintro w' ⟨s0, s1, s2, s3⟩
                          go_simp
                          with_reducible rfl
                         rotate_left
                         ·simp only [Act.put, List.setIfInBounds_toArray, List.set_cons_zero, List.set_cons_succ, i64_w, i32_w]
                          rfl
                         refine take_ (i := 6) (N := some 206) (v := ?_) (a' := ?_) #[true, true, true, true, true, true, true, true, true, false, false, false, false, false, false, false, false, false, false, false, false, false] rfl rfl (take_ofW HT_.out HW_.out (by kernel_rfl)) (fun _ _ _ h => h) (Or.inl ⟨by rfl, ?_⟩) hHeld ?_ ?_
                         rotate_left
                         ·rintro w' ⟨s0, s1, s2, s3⟩
                          go_simp
                          with_reducible rfl
                         rotate_left
                         ·simp only [Act.put, List.setIfInBounds_toArray, List.set_cons_zero, List.set_cons_succ, i64_w, i32_w]
                          rfl
                         refine take_ (i := 9) (N := some 209) (v := ?_) (a' := ?_) #[true, true, true, true, true, true, true, true, true, true, false, false, false, false, false, false, false, false, false, false, false, false] rfl rfl (take_ofW HT_.out HW_.out (by kernel_rfl)) (fun _ _ _ h => h) (Or.inl ⟨by rfl, ?_⟩) hHeld ?_ ?_
                         rotate_left
                         ·rintro w' ⟨s0, s1, s2, s3⟩
                          go_simp
                          with_reducible rfl
                         rotate_left
                         ·simp only [Act.put, List.setIfInBounds_toArray, List.set_cons_zero, List.set_cons_succ, i64_w, i32_w]
                          rfl
                         refine pure_ (i := 10) (N := some 210) (v := ?_) (a' := ?_) #[true, true, true, true, true, true, true, true, true, true, true, false, false, false, false, false, false, false, false, false, false, false] rfl rfl (any_of HT_.out (by kernel_rfl)) (fun _ _ _ h => h) (Or.inl ⟨by rfl, ?_⟩) ?_ ?_
                         rotate_left
                         ·intro w'
                          go_simp
                          with_reducible rfl
                         rotate_left
                         ·simp only [Act.put, List.setIfInBounds_toArray, List.set_cons_zero, List.set_cons_succ, i64_w, i32_w]
                          rfl
                         refine pure_ (i := 11) (N := some 211) (v := ?_) (a' := ?_) #[true, true, true, true, true, true, true, true, true, true, true, true, false, false, false, false, false, false, false, false, false, false] rfl rfl (any_of HT_.out (by kernel_rfl)) (fun _ _ _ h => h) (Or.inl ⟨by rfl, ?_⟩) ?_ ?_
                         rotate_left
                         ·intro w'
                          go_simp
                          with_reducible rfl
                         rotate_left
                         ·simp only [Act.put, List.setIfInBounds_toArray, List.set_cons_zero, List.set_cons_succ, i64_w, i32_w]
                          rfl
                         refine pure_ (i := 12) (N := some 212) (v := ?_) (a' := ?_) #[true, true, true, true, true, true, true, true, true, true, true, true, true, false, false, false, false, false, false, false, false, false] rfl rfl (any_of HT_.out (by kernel_rfl)) (fun _ _ _ h => h) (Or.inl ⟨by rfl, ?_⟩) ?_ ?_
                         rotate_left
                         ·intro w'
                          go_simp
                          with_reducible rfl
                         rotate_left
                         ·simp only [Act.put, List.setIfInBounds_toArray, List.set_cons_zero, List.set_cons_succ, i64_w, i32_w]
                          rfl
                         refine pure_ (i := 13) (N := some 213) (v := ?_) (a' := ?_) #[true, true, true, true, true, true, true, true, true, true, true, true, true, true, false, false, false, false, false, false, false, false] rfl rfl (any_of HT_.out (by kernel_rfl)) (fun _ _ _ h => h) (Or.inl ⟨by rfl, ?_⟩) ?_ ?_
                         rotate_left
                         ·intro w'
                          go_simp
                          with_reducible rfl
                         rotate_left
                         ·simp only [Act.put, List.setIfInBounds_toArray, List.set_cons_zero, List.set_cons_succ, i64_w, i32_w]
                          rfl
                         refine pure_ (i := 14) (N := some 214) (v := ?_) (a' := ?_) #[true, true, true, true, true, true, true, true, true, true, true, true, true, true, true, false, false, false, false, false, false, false] rfl rfl (any_of HT_.out (by kernel_rfl)) (fun _ _ _ h => h) (Or.inl ⟨by rfl, ?_⟩) ?_ ?_
                         rotate_left
                         ·intro w'
                          go_simp
                          with_reducible rfl
                         rotate_left
                         ·simp only [Act.put, List.setIfInBounds_toArray, List.set_cons_zero, List.set_cons_succ, i64_w, i32_w]
                          rfl
                         refine pure_ (i := 15) (N := some 215) (v := ?_) (a' := ?_) #[true, true, true, true, true, true, true, true, true, true, true, true, true, true, true, true, false, false, false, false, false, false] rfl rfl (any_of HT_.out (by kernel_rfl)) (fun _ _ _ h => h) (Or.inl ⟨by rfl, ?_⟩) ?_ ?_
                         rotate_left
                         ·intro w'
                          go_simp
                          with_reducible rfl
                         rotate_left
                         ·simp only [Act.put, List.setIfInBounds_toArray, List.set_cons_zero, List.set_cons_succ, i64_w, i32_w]
                          rfl
                         refine pure_ (i := 16) (N := some 216) (v := ?_) (a' := ?_) #[true, true, true, true, true, true, true, true, true, true, true, true, true, true, true, true, true, false, false, false, false, false] rfl rfl (any_of HT_.out (by kernel_rfl)) (fun _ _ _ h => h) (Or.inl ⟨by rfl, ?_⟩) ?_ ?_
                         rotate_left
                         ·intro w'
                          go_simp
                          with_reducible rfl
                         rotate_left
                         ·simp only [Act.put, List.setIfInBounds_toArray, List.set_cons_zero, List.set_cons_succ, i64_w, i32_w]
                          rfl
                         refine pure_ (i := 17) (N := some 217) (v := ?_) (a' := ?_) #[true, true, true, true, true, true, true, true, true, true, true, true, true, true, true, true, true, true, false, false, false, false] rfl rfl (any_of HT_.out (by kernel_rfl)) (fun _ _ _ h => h) (Or.inl ⟨by rfl, ?_⟩) ?_ ?_
                         rotate_left
                         ·intro w'
                          go_simp
                          with_reducible rfl
                         rotate_left
                         ·simp only [Act.put, List.setIfInBounds_toArray, List.set_cons_zero, List.set_cons_succ, i64_w, i32_w]
                          rfl
                         refine pure_ (i := 18) (N := some 218) (v := undef) (a' := ?_) #[true, true, true, true, true, true, true, true, true, true, true, true, true, true, true, true, true, true, true, false, false, false] rfl rfl (any_of HT_.out (by kernel_rfl)) (fun _ _ _ h => h) (Or.inr ⟨by rfl, rfl⟩) ?_ ?_
                         rotate_left
                         ·simp only [Act.put, List.setIfInBounds_toArray, List.set_cons_zero, List.set_cons_succ, i64_w, i32_w]
                          rfl
                         refine pure_ (i := 19) (N := some 219) (v := undef) (a' := ?_) #[true, true, true, true, true, true, true, true, true, true, true, true, true, true, true, true, true, true, true, true, false, false] rfl rfl (any_of HT_.out (by kernel_rfl)) (fun _ _ _ h => h) (Or.inr ⟨by rfl, rfl⟩) ?_ ?_
                         rotate_left
                         ·simp only [Act.put, List.setIfInBounds_toArray, List.set_cons_zero, List.set_cons_succ, i64_w, i32_w]
                          rfl
                         refine pure_ (i := 20) (N := some 220) (v := ?_) (a' := ?_) #[true, true, true, true, true, true, true, true, true, true, true, true, true, true, true, true, true, true, true, true, true, false] rfl rfl (any_of HT_.out (by kernel_rfl)) (fun _ _ _ h => h) (Or.inl ⟨by rfl, ?_⟩) ?_ ?_
                         rotate_left
                         ·intro w'
                          go_simp
                          with_reducible rfl
                         rotate_left
                         ·simp only [Act.put, List.setIfInBounds_toArray, List.set_cons_zero, List.set_cons_succ, i64_w, i32_w]
                          rfl
                         refine pure_ (i := 21) (N := some 221) (v := ?_) (a' := ?_) #[true, true, true, true, true, true, true, true, true, true, true, true, true, true, true, true, true, true, true, true, true, true] rfl rfl (any_of HT_.out (by kernel_rfl)) (fun _ _ _ h => h) (Or.inl ⟨by rfl, ?_⟩) ?_ ?_
                         rotate_left
                         ·intro w'
                          go_simp
                          with_reducible rfl
                         rotate_left
                         ·simp only [Act.put, List.setIfInBounds_toArray, List.set_cons_zero, List.set_cons_succ, i64_w, i32_w]
                          rfl
                         refine done_ (done_of HT_.out (by kernel_rfl)) ?_
                         try go_wp2
                         go_roundg k2
                         case measure => have := HJ9.out; have := HK2.out; omega
                         case rel => exact ⟨(wrap64 (x23_2 + 1)), k98_, H', ⟨by have := HJ9.out; have := HK2.out; omega⟩, ⟨k94_⟩, ⟨k92_⟩, ⟨k88_⟩, ⟨k89_⟩, ⟨k95_⟩, ⟨k65_⟩⟩
                       ·replace c101 := Bool.eq_false_iff.mpr c101
                        subst c101
                        rw [if_neg (show ¬ (false = true) by decide)] at H
                        exact absurd H (by simp)
                      ·rw [if_neg c100] at H
                       have c100b0 : ((bt t119 (ji85)) == (bt t116 (ji85))) = false := beq_eq_false_iff_ne.mpr c100
                       have c100b1 : ((bt t119 (ji85)) != (bt t116 (ji85))) = true := bne_iff_ne.mpr c100
                       exact absurd H (by simp)
                     ·rw [if_neg c98] at H
                      exact absurd H (by simp)
                   ·rw [if_neg c87] at H
                    exact absurd H (by simp)
                  ·rw [if_neg c86] at H
                   exact absurd H (by simp)
                 ·rw [if_neg c84] at H
                  have c84b0 : decide (x23_2 ≤ (t119.size : Int)) = false := decide_eq_false c84
                  clear c84
                  have H' := Aside0.mk H
                  clear H
                  have hnb134 := NB122_108.out
                  have hnc134 := NB108_122.out
                  have hnb135 := NB122_112.out
                  have hnc135 := NB112_122.out
                  have hnb136 := NB122_118.out
                  have hnc136 := NB118_122.out
                  have hnb137 := NB122_126.out
                  have hnc137 := NB126_122.out
                  have hcz138_0 : wr.cell? ⟨gb122, 0, none⟩ = some (.string t119) := (blk_cell BK122.out 0).trans rfl
                  have hcz138_1 : wr.cell? ⟨gb122, 1, none⟩ = some (.int .i64 t120) := (blk_cell BK122.out 1).trans rfl
                  have hfz138_0 := blk_frozen BK122.out 0
                  have hfz138_1 := blk_frozen BK122.out 1
                  go_wp2
                  go_meet
                  case rel => exact ⟨_, H', ⟨by have := HJ9.out; have := HK2.out; first | omega | exact Nat.le_refl _⟩, ⟨k94_⟩, ⟨k92_⟩, ⟨k88_⟩, ⟨k89_⟩, ⟨k95_⟩, ⟨k71_⟩⟩
              ·rw [if_neg c68] at H
               have c68b0 : ((t119.size : Int) == (t116.size : Int)) = false := beq_eq_false_iff_ne.mpr c68
               have c68b1 : ((t119.size : Int) != (t116.size : Int)) = true := bne_iff_ne.mpr c68
               have c68b2 : (t119.size == t116.size) = false := by first | simpa using c68 | (simp at c68 ⊢; omega)
               exact absurd H (by simp)
             ·replace c67 := Bool.eq_false_iff.mpr c67
              subst c67
              rw [if_neg (show ¬ (false = true) by decide)] at H
              exact absurd H (by simp)
            ·replace c65 := Bool.eq_false_iff.mpr c65
             subst c65
             rw [if_neg (show ¬ (false = true) by decide)] at H
             exact absurd H (by simp)
           ·rw [if_neg c64] at H
            have c64b0 : ((t127.length : Int) == 1) = false := beq_eq_false_iff_ne.mpr c64
            have c64b1 : ((t127.length : Int) != 1) = true := bne_iff_ne.mpr c64
            (first | rw [c64b0] | rw [c64b1] | (simp only [i64_w, i32_w]; rw [c64b0]) | skip)
            exact absurd H (by simp)
          ·replace c63 := Bool.eq_false_iff.mpr c63
           subst c63
           rw [if_neg (show ¬ (false = true) by decide)] at H
           exact absurd H (by simp)
         ·replace c60 := Bool.eq_false_iff.mpr c60
          subst c60
          rw [if_neg (show ¬ (false = true) by decide)] at H
          have H' := Aside0.mk H
          clear H
          go_wp2
          go_meet
          case rel => exact ⟨_, H', ⟨by have := HJ9.out; first | omega | exact Nat.le_refl _⟩, ⟨k23_⟩, ⟨k31_⟩, ⟨k34_⟩, ⟨k33_⟩, ⟨k12_⟩, ⟨k71_⟩⟩
        case rest =>
         clear HC39
         (try clear c1); (try clear c8); (try clear c9)
         obtain ⟨kq, HA, HJ38, BK108, BK112, BK118, BK122, BK126, HB⟩ := hcut
         cases kq with
         | zero => exact absurd HA.out (by simp [laws_FnPuzzlesSieved.j2])
         | succ kj38 =>
          have H := HA.out
          clear HA
          simp only [laws_FnPuzzlesSieved.j2] at H
          obtain ⟨⟨t142, t143, t144, t145⟩, A139, H⟩ := obnd_ H
          (try dsimp only at H)
          obtain ⟨⟨t147, t148, t149⟩, A140, H⟩ := obnd_ H
          (try dsimp only at H)
          obtain ⟨⟨t151, t152, t153⟩, A141, H⟩ := obnd_ H
          (try dsimp only at H)
          obtain ⟨⟨t155, t156, t157⟩, A142, H⟩ := obnd_ H
          (try dsimp only at H)
          obtain ⟨⟨t159, t160, t161⟩, A143, H⟩ := obnd_ H
          (try dsimp only at H)
          obtain ⟨⟨t163, t164, t165⟩, A144, H⟩ := obnd_ H
          (try dsimp only at H)
          obtain ⟨t167, A145, H⟩ := obnd_ H
          (try dsimp only at H)
          obtain ⟨⟨t168, t169⟩, A146, H⟩ := obnd_ H
          (try dsimp only at H)
          obtain ⟨⟨t170, t171⟩, A147, H⟩ := obnd_ H
          (try dsimp only at H)
          obtain ⟨⟨t172, t173⟩, A148, H⟩ := obnd_ H
          (try dsimp only at H)
          obtain ⟨⟨t176, t177⟩, A149, H⟩ := obnd_ H
          (try dsimp only at H)
          obtain ⟨⟨t178, t179⟩, A150, H⟩ := obnd_ H
          (try dsimp only at H)
          by_cases c151 : (t149 != t153) = true
          ·rw [if_pos c151] at H
           have c151b0 : (t149 != t153) = true := c151
           (try (have c151b1 : decide (t149 = t153) = false := by simpa using c151))
           (try (have c151b2 : (t149 == t153) = false := by simpa using c151))
           (try (have c151b3 : ¬ (t149 = t153) := by simpa using c151))
           clear c151
           exact absurd H (by simp)
          ·rw [if_neg c151] at H
           have c151b0 : (t149 != t153) = false := by simpa using c151
           (try (have c151b1 : decide (t149 = t153) = true := by simpa using c151))
           (try (have c151b2 : (t149 == t153) = true := by simpa using c151))
           clear c151
           by_cases c152 : (!(t147.toList == t151.toList) || (!(t148 == t152))) = true
           ·rw [if_pos c152] at H
            have c152b0 : (!(t147.toList == t151.toList) || (!(t148 == t152))) = true := c152
            clear c152
            exact absurd H (by simp)
           ·rw [if_neg c152] at H
            have c152b0 : (!(t147.toList == t151.toList) || (!(t148 == t152))) = false := by simpa using c152
            clear c152
            by_cases c153 : (t161 != t165) = true
            ·rw [if_pos c153] at H
             have c153b0 : (t161 != t165) = true := c153
             (try (have c153b1 : decide (t161 = t165) = false := by simpa using c153))
             (try (have c153b2 : (t161 == t165) = false := by simpa using c153))
             (try (have c153b3 : ¬ (t161 = t165) := by simpa using c153))
             clear c153
             exact absurd H (by simp)
            ·rw [if_neg c153] at H
             have c153b0 : (t161 != t165) = false := by simpa using c153
             (try (have c153b1 : decide (t161 = t165) = true := by simpa using c153))
             (try (have c153b2 : (t161 == t165) = true := by simpa using c153))
             clear c153
             by_cases c154 : (!(t159.toList == t163.toList) || (!(t160 == t164))) = true
             ·rw [if_pos c154] at H
              have c154b0 : (!(t159.toList == t163.toList) || (!(t160 == t164))) = true := c154
              clear c154
              exact absurd H (by simp)
             ·rw [if_neg c154] at H
              have c154b0 : (!(t159.toList == t163.toList) || (!(t160 == t164))) = false := by simpa using c154
              clear c154
              by_cases c155 : (t169 != t171) = true
              ·rw [if_pos c155] at H
               have c155b0 : (t169 != t171) = true := c155
               (try (have c155b1 : decide (t169 = t171) = false := by simpa using c155))
               (try (have c155b2 : (t169 == t171) = false := by simpa using c155))
               (try (have c155b3 : ¬ (t169 = t171) := by simpa using c155))
               clear c155
               exact absurd H (by simp)
              ·rw [if_neg c155] at H
               have c155b0 : (t169 != t171) = false := by simpa using c155
               (try (have c155b1 : decide (t169 = t171) = true := by simpa using c155))
               (try (have c155b2 : (t169 == t171) = true := by simpa using c155))
               clear c155
               by_cases c156 : t168 = t170
               ·rw [if_pos c156] at H
                have c156b0 : (t168 == t170) = true := beq_iff_eq.mpr c156
                have c156b1 : (t168 != t170) = false := bne_eq_false_iff_eq.mpr c156
                clear c156
                by_cases c157 : (t177 != t179) = true
                ·rw [if_pos c157] at H
                 have c157b0 : (t177 != t179) = true := c157
                 (try (have c157b1 : decide (t177 = t179) = false := by simpa using c157))
                 (try (have c157b2 : (t177 == t179) = false := by simpa using c157))
                 (try (have c157b3 : ¬ (t177 = t179) := by simpa using c157))
                 clear c157
                 exact absurd H (by simp)
                ·rw [if_neg c157] at H
                 have c157b0 : (t177 != t179) = false := by simpa using c157
                 (try (have c157b1 : decide (t177 = t179) = true := by simpa using c157))
                 (try (have c157b2 : (t177 == t179) = true := by simpa using c157))
                 clear c157
                 by_cases c158 : t176.toList = t178.toList
                 ·rw [if_pos c158] at H
                  have c158b0 : (t176.toList == t178.toList) = true := beq_iff_eq.mpr c158
                  have c158b1 : (t176.toList != t178.toList) = false := bne_eq_false_iff_eq.mpr c158
                  clear c158
                  have HC159 := Aside0.mk H
                  clear H
                  go_upto_if 326 with (first | ((with_reducible refine gate_callee (f := 17) rfl ?_); refine goesL_ (some 224) rfl rfl Tryd.func17 (by kernel_rfl) rfl #[.slice A1 l1.length c1] rfl k70_ ?_; (with_reducible refine (spec_DrawShowNumber.calls kj38 _ _ l1 t142 t143 t144 t145 _ ?side1 ?side2 A139.out).mono ?_); (case side1 => exact k55_); (case side2 => exact HC1.out); rintro e w160 ⟨rfl, hb⟩; refine ⟨_, rfl, ?_⟩; replace BK108 := BK108.mw hb; replace BK112 := BK112.mw hb; replace BK118 := BK118.mw hb; replace BK122 := BK122.mw hb; replace BK126 := BK126.mw hb; replace HB := Aside0.mk (below_step k71_ hb); (try clear hb)) | ((with_reducible refine gate_dst (N := 28) rfl ?_); (try (refine gate_guard (by rfl) ?_; dsimp only)); refine box_event ?hg (N := 28) ?hd (cs := #[.string (⟨#[]⟩ : ByteArray), .int .i64 0]) (t := 27) ?hr ?_; (case hd => rfl); (case hg => rfl); (case hr => exact k99_); intro gb146 hg w161 hbox hb; have BK146 := Aside0.mk (hbox); have GW146 := Aside0.mk ((by rw [hg]; exact (below_size k71_) : w.heap.size ≤ gb146)); have GE146 := Aside0.mk ((by rw [hg]; exact (below_size k71_) : w.heap.size ≤ gb146)); replace HB := Aside0.mk (below_step k71_ hb); have NB108_146 := Aside0.mk (BK108.ne hg); have NB146_108 := Aside0.mk (BK108.ne hg).symm; replace BK108 := BK108.mw hb; have NB112_146 := Aside0.mk (BK112.ne hg); have NB146_112 := Aside0.mk (BK112.ne hg).symm; replace BK112 := BK112.mw hb; have NB118_146 := Aside0.mk (BK118.ne hg); have NB146_118 := Aside0.mk (BK118.ne hg).symm; replace BK118 := BK118.mw hb; have NB122_146 := Aside0.mk (BK122.ne hg); have NB146_122 := Aside0.mk (BK122.ne hg).symm; replace BK122 := BK122.mw hb; have NB126_146 := Aside0.mk (BK126.ne hg); have NB146_126 := Aside0.mk (BK126.ne hg).symm; replace BK126 := BK126.mw hb; clear hb hbox hg; have hnb162 := NB146_108.out; have hnc162 := NB108_146.out; have hnb163 := NB146_112.out; have hnc163 := NB112_146.out; have hnb164 := NB146_118.out; have hnc164 := NB118_146.out; have hnb165 := NB146_122.out; have hnc165 := NB122_146.out; have hnb166 := NB146_126.out; have hnc166 := NB126_146.out; have hcz167_0 : w161.cell? ⟨gb146, 0, none⟩ = some (.string (⟨#[]⟩ : ByteArray)) := (blk_cell BK146.out 0).trans rfl; have hcz167_1 : w161.cell? ⟨gb146, 1, none⟩ = some (.int .i64 0) := (blk_cell BK146.out 1).trans rfl; have hfz167_0 := blk_frozen BK146.out 0; have hfz167_1 := blk_frozen BK146.out 1) | ((with_reducible refine gate_callee (f := 18) rfl ?_); refine goesL_ (some 232) rfl rfl Tryd.func18 (by kernel_rfl) rfl #[.agg #[.string t142, .int .i64 t143], .int .i64 t144, .bool t145] rfl k70_ ?_; (with_reducible refine (impl_ShowNumber.calls kj38 t142 t143 t144 t145 t147 t148 t149 _ A140.out).mono ?_); rintro e w168 ⟨rfl, hb⟩; refine ⟨_, rfl, ?_⟩; replace BK108 := Aside0.mk (blk_below (g := gb108) (o := .cells #[.string t105, .int .i64 t106] 27 (0, 0)) (by (with_reducible repeat (first | refine blk_drewN ?_ _ | refine blk_drew ?_ | refine blk_alloc ?_ _)); refine blk_far ?_ NB108_146.out _; (with_reducible repeat (first | refine blk_drewN ?_ _ | refine blk_drew ?_ | refine blk_alloc ?_ _)); refine blk_far ?_ NB108_146.out _; apply_rules only [BK108.out, blk_drewN, blk_drew, blk_alloc]) hb); replace BK112 := Aside0.mk (blk_below (g := gb112) (o := .cells #[.string t109, .int .i64 t110] 27 (0, 0)) (by (with_reducible repeat (first | refine blk_drewN ?_ _ | refine blk_drew ?_ | refine blk_alloc ?_ _)); refine blk_far ?_ NB112_146.out _; (with_reducible repeat (first | refine blk_drewN ?_ _ | refine blk_drew ?_ | refine blk_alloc ?_ _)); refine blk_far ?_ NB112_146.out _; apply_rules only [BK112.out, blk_drewN, blk_drew, blk_alloc]) hb); replace BK118 := Aside0.mk (blk_below (g := gb118) (o := .cells #[.string t116, .int .i64 t117] 27 (0, 0)) (by (with_reducible repeat (first | refine blk_drewN ?_ _ | refine blk_drew ?_ | refine blk_alloc ?_ _)); refine blk_far ?_ NB118_146.out _; (with_reducible repeat (first | refine blk_drewN ?_ _ | refine blk_drew ?_ | refine blk_alloc ?_ _)); refine blk_far ?_ NB118_146.out _; apply_rules only [BK118.out, blk_drewN, blk_drew, blk_alloc]) hb); replace BK122 := Aside0.mk (blk_below (g := gb122) (o := .cells #[.string t119, .int .i64 t120] 27 (0, 0)) (by (with_reducible repeat (first | refine blk_drewN ?_ _ | refine blk_drew ?_ | refine blk_alloc ?_ _)); refine blk_far ?_ NB122_146.out _; (with_reducible repeat (first | refine blk_drewN ?_ _ | refine blk_drew ?_ | refine blk_alloc ?_ _)); refine blk_far ?_ NB122_146.out _; apply_rules only [BK122.out, blk_drewN, blk_drew, blk_alloc]) hb); replace BK126 := Aside0.mk (blk_below (g := gb126) (o := .cells #[.string t123, .int .i64 t124] 27 (0, 0)) (by (with_reducible repeat (first | refine blk_drewN ?_ _ | refine blk_drew ?_ | refine blk_alloc ?_ _)); refine blk_far ?_ NB126_146.out _; (with_reducible repeat (first | refine blk_drewN ?_ _ | refine blk_drew ?_ | refine blk_alloc ?_ _)); refine blk_far ?_ NB126_146.out _; apply_rules only [BK126.out, blk_drewN, blk_drew, blk_alloc]) hb); replace BK146 := Aside0.mk (blk_below (g := gb146) (o := .cells #[.string t142, .int .i64 t143] 27 (0, 0)) (by (with_reducible repeat (first | refine blk_drewN ?_ _ | refine blk_drew ?_ | refine blk_alloc ?_ _)); refine blk_put (cs := #[.string t142, .int .i64 0]) ?_ 1 _ rfl; (with_reducible repeat (first | refine blk_drewN ?_ _ | refine blk_drew ?_ | refine blk_alloc ?_ _)); refine blk_put (cs := #[.string (⟨#[]⟩ : ByteArray), .int .i64 0]) ?_ 0 _ rfl; apply_rules only [BK146.out, blk_drewN, blk_drew, blk_alloc]) hb); replace HB := Aside0.mk (below_step k66_ hb); (try clear hb)) | ((with_reducible refine gate_dst (N := 31) rfl ?_); (try (refine gate_guard (by rfl) ?_; dsimp only)); refine box_event ?hg (N := 31) ?hd (cs := #[.string (⟨#[]⟩ : ByteArray), .int .i64 0]) (t := 27) ?hr ?_; (case hd => rfl); (case hg => rfl); (case hr => exact k99_); intro gb150 hg w169 hbox hb; have BK150 := Aside0.mk (hbox); have GW150 := Aside0.mk ((by rw [hg]; exact (below_size k66_) : w.heap.size ≤ gb150)); have GE150 := Aside0.mk ((by rw [hg]; exact (below_size k66_) : w.heap.size ≤ gb150)); replace HB := Aside0.mk (below_step k66_ hb); have NB108_150 := Aside0.mk (BK108.ne hg); have NB150_108 := Aside0.mk (BK108.ne hg).symm; replace BK108 := BK108.mw hb; have NB112_150 := Aside0.mk (BK112.ne hg); have NB150_112 := Aside0.mk (BK112.ne hg).symm; replace BK112 := BK112.mw hb; have NB118_150 := Aside0.mk (BK118.ne hg); have NB150_118 := Aside0.mk (BK118.ne hg).symm; replace BK118 := BK118.mw hb; have NB122_150 := Aside0.mk (BK122.ne hg); have NB150_122 := Aside0.mk (BK122.ne hg).symm; replace BK122 := BK122.mw hb; have NB126_150 := Aside0.mk (BK126.ne hg); have NB150_126 := Aside0.mk (BK126.ne hg).symm; replace BK126 := BK126.mw hb; have NB146_150 := Aside0.mk (BK146.ne hg); have NB150_146 := Aside0.mk (BK146.ne hg).symm; replace BK146 := BK146.mw hb; clear hb hbox hg; have hnb170 := NB150_108.out; have hnc170 := NB108_150.out; have hnb171 := NB150_112.out; have hnc171 := NB112_150.out; have hnb172 := NB150_118.out; have hnc172 := NB118_150.out; have hnb173 := NB150_122.out; have hnc173 := NB122_150.out; have hnb174 := NB150_126.out; have hnc174 := NB126_150.out; have hnb175 := NB150_146.out; have hnc175 := NB146_150.out; have hcz176_0 : w169.cell? ⟨gb150, 0, none⟩ = some (.string (⟨#[]⟩ : ByteArray)) := (blk_cell BK150.out 0).trans rfl; have hcz176_1 : w169.cell? ⟨gb150, 1, none⟩ = some (.int .i64 0) := (blk_cell BK150.out 1).trans rfl; have hfz176_0 := blk_frozen BK150.out 0; have hfz176_1 := blk_frozen BK150.out 1; have hcz177_0 : w169.cell? ⟨gb146, 0, none⟩ = some (.string t142) := (blk_cell BK146.out 0).trans rfl; have hcz177_1 : w169.cell? ⟨gb146, 1, none⟩ = some (.int .i64 t143) := (blk_cell BK146.out 1).trans rfl; have hfz177_0 := blk_frozen BK146.out 0; have hfz177_1 := blk_frozen BK146.out 1) | ((with_reducible refine gate_callee (f := 19) rfl ?_); refine goesL_ (some 239) rfl rfl Tryd.func19 (by kernel_rfl) rfl #[.agg #[.string t142, .int .i64 t143], .int .i64 t144, .bool t145] rfl k70_ ?_; (with_reducible refine (spec_ShowNumber.calls kj38 t142 t143 t144 t145 t151 t152 t153 _ A141.out).mono ?_); rintro e w178 ⟨rfl, hb⟩; refine ⟨_, rfl, ?_⟩; replace BK108 := Aside0.mk (blk_below (g := gb108) (o := .cells #[.string t105, .int .i64 t106] 27 (0, 0)) (by (with_reducible repeat (first | refine blk_drewN ?_ _ | refine blk_drew ?_ | refine blk_alloc ?_ _)); refine blk_far ?_ NB108_150.out _; (with_reducible repeat (first | refine blk_drewN ?_ _ | refine blk_drew ?_ | refine blk_alloc ?_ _)); refine blk_far ?_ NB108_150.out _; apply_rules only [BK108.out, blk_drewN, blk_drew, blk_alloc]) hb); replace BK112 := Aside0.mk (blk_below (g := gb112) (o := .cells #[.string t109, .int .i64 t110] 27 (0, 0)) (by (with_reducible repeat (first | refine blk_drewN ?_ _ | refine blk_drew ?_ | refine blk_alloc ?_ _)); refine blk_far ?_ NB112_150.out _; (with_reducible repeat (first | refine blk_drewN ?_ _ | refine blk_drew ?_ | refine blk_alloc ?_ _)); refine blk_far ?_ NB112_150.out _; apply_rules only [BK112.out, blk_drewN, blk_drew, blk_alloc]) hb); replace BK118 := Aside0.mk (blk_below (g := gb118) (o := .cells #[.string t116, .int .i64 t117] 27 (0, 0)) (by (with_reducible repeat (first | refine blk_drewN ?_ _ | refine blk_drew ?_ | refine blk_alloc ?_ _)); refine blk_far ?_ NB118_150.out _; (with_reducible repeat (first | refine blk_drewN ?_ _ | refine blk_drew ?_ | refine blk_alloc ?_ _)); refine blk_far ?_ NB118_150.out _; apply_rules only [BK118.out, blk_drewN, blk_drew, blk_alloc]) hb); replace BK122 := Aside0.mk (blk_below (g := gb122) (o := .cells #[.string t119, .int .i64 t120] 27 (0, 0)) (by (with_reducible repeat (first | refine blk_drewN ?_ _ | refine blk_drew ?_ | refine blk_alloc ?_ _)); refine blk_far ?_ NB122_150.out _; (with_reducible repeat (first | refine blk_drewN ?_ _ | refine blk_drew ?_ | refine blk_alloc ?_ _)); refine blk_far ?_ NB122_150.out _; apply_rules only [BK122.out, blk_drewN, blk_drew, blk_alloc]) hb); replace BK126 := Aside0.mk (blk_below (g := gb126) (o := .cells #[.string t123, .int .i64 t124] 27 (0, 0)) (by (with_reducible repeat (first | refine blk_drewN ?_ _ | refine blk_drew ?_ | refine blk_alloc ?_ _)); refine blk_far ?_ NB126_150.out _; (with_reducible repeat (first | refine blk_drewN ?_ _ | refine blk_drew ?_ | refine blk_alloc ?_ _)); refine blk_far ?_ NB126_150.out _; apply_rules only [BK126.out, blk_drewN, blk_drew, blk_alloc]) hb); replace BK146 := Aside0.mk (blk_below (g := gb146) (o := .cells #[.string t142, .int .i64 t143] 27 (0, 0)) (by (with_reducible repeat (first | refine blk_drewN ?_ _ | refine blk_drew ?_ | refine blk_alloc ?_ _)); refine blk_far ?_ NB146_150.out _; (with_reducible repeat (first | refine blk_drewN ?_ _ | refine blk_drew ?_ | refine blk_alloc ?_ _)); refine blk_far ?_ NB146_150.out _; apply_rules only [BK146.out, blk_drewN, blk_drew, blk_alloc]) hb); replace BK150 := Aside0.mk (blk_below (g := gb150) (o := .cells #[.string t147, .int .i64 t148] 27 (0, 0)) (by (with_reducible repeat (first | refine blk_drewN ?_ _ | refine blk_drew ?_ | refine blk_alloc ?_ _)); refine blk_put (cs := #[.string t147, .int .i64 0]) ?_ 1 _ rfl; (with_reducible repeat (first | refine blk_drewN ?_ _ | refine blk_drew ?_ | refine blk_alloc ?_ _)); refine blk_put (cs := #[.string (⟨#[]⟩ : ByteArray), .int .i64 0]) ?_ 0 _ rfl; apply_rules only [BK150.out, blk_drewN, blk_drew, blk_alloc]) hb); replace HB := Aside0.mk (below_step k62_ hb); (try clear hb)) | ((with_reducible refine gate_dst (N := 33) rfl ?_); (try (refine gate_guard (by rfl) ?_; dsimp only)); refine box_event ?hg (N := 33) ?hd (cs := #[.string (⟨#[]⟩ : ByteArray), .int .i64 0]) (t := 27) ?hr ?_; (case hd => rfl); (case hg => rfl); (case hr => exact k99_); intro gb154 hg w179 hbox hb; have BK154 := Aside0.mk (hbox); have GW154 := Aside0.mk ((by rw [hg]; exact (below_size k62_) : w.heap.size ≤ gb154)); have GE154 := Aside0.mk ((by rw [hg]; exact (below_size k62_) : w.heap.size ≤ gb154)); replace HB := Aside0.mk (below_step k62_ hb); have NB108_154 := Aside0.mk (BK108.ne hg); have NB154_108 := Aside0.mk (BK108.ne hg).symm; replace BK108 := BK108.mw hb; have NB112_154 := Aside0.mk (BK112.ne hg); have NB154_112 := Aside0.mk (BK112.ne hg).symm; replace BK112 := BK112.mw hb; have NB118_154 := Aside0.mk (BK118.ne hg); have NB154_118 := Aside0.mk (BK118.ne hg).symm; replace BK118 := BK118.mw hb; have NB122_154 := Aside0.mk (BK122.ne hg); have NB154_122 := Aside0.mk (BK122.ne hg).symm; replace BK122 := BK122.mw hb; have NB126_154 := Aside0.mk (BK126.ne hg); have NB154_126 := Aside0.mk (BK126.ne hg).symm; replace BK126 := BK126.mw hb; have NB146_154 := Aside0.mk (BK146.ne hg); have NB154_146 := Aside0.mk (BK146.ne hg).symm; replace BK146 := BK146.mw hb; have NB150_154 := Aside0.mk (BK150.ne hg); have NB154_150 := Aside0.mk (BK150.ne hg).symm; replace BK150 := BK150.mw hb; clear hb hbox hg; have hnb180 := NB154_108.out; have hnc180 := NB108_154.out; have hnb181 := NB154_112.out; have hnc181 := NB112_154.out; have hnb182 := NB154_118.out; have hnc182 := NB118_154.out; have hnb183 := NB154_122.out; have hnc183 := NB122_154.out; have hnb184 := NB154_126.out; have hnc184 := NB126_154.out; have hnb185 := NB154_146.out; have hnc185 := NB146_154.out; have hnb186 := NB154_150.out; have hnc186 := NB150_154.out; have hcz187_0 : w179.cell? ⟨gb154, 0, none⟩ = some (.string (⟨#[]⟩ : ByteArray)) := (blk_cell BK154.out 0).trans rfl; have hcz187_1 : w179.cell? ⟨gb154, 1, none⟩ = some (.int .i64 0) := (blk_cell BK154.out 1).trans rfl; have hfz187_0 := blk_frozen BK154.out 0; have hfz187_1 := blk_frozen BK154.out 1) | ((with_reducible refine gate_callee (f := 20) rfl ?_); refine goesL_ (some 244) rfl rfl Tryd.func20 (by kernel_rfl) rfl #[.slice A1 l1.length c1] rfl k70_ ?_; (with_reducible refine (spec_DrawHideNumber.calls kj38 _ _ l1 t155 t156 t157 _ ?side1 ?side2 A142.out).mono ?_); (case side1 => exact Kd.C_below HR1.out k59_); (case side2 => exact HC1.out); rintro e w188 ⟨rfl, hb⟩; refine ⟨_, rfl, ?_⟩; replace BK108 := Aside0.mk (blk_below (g := gb108) (o := .cells #[.string t105, .int .i64 t106] 27 (0, 0)) (by (with_reducible repeat (first | refine blk_drewN ?_ _ | refine blk_drew ?_ | refine blk_alloc ?_ _)); refine blk_far ?_ NB108_154.out _; (with_reducible repeat (first | refine blk_drewN ?_ _ | refine blk_drew ?_ | refine blk_alloc ?_ _)); refine blk_far ?_ NB108_154.out _; apply_rules only [BK108.out, blk_drewN, blk_drew, blk_alloc]) hb); replace BK112 := Aside0.mk (blk_below (g := gb112) (o := .cells #[.string t109, .int .i64 t110] 27 (0, 0)) (by (with_reducible repeat (first | refine blk_drewN ?_ _ | refine blk_drew ?_ | refine blk_alloc ?_ _)); refine blk_far ?_ NB112_154.out _; (with_reducible repeat (first | refine blk_drewN ?_ _ | refine blk_drew ?_ | refine blk_alloc ?_ _)); refine blk_far ?_ NB112_154.out _; apply_rules only [BK112.out, blk_drewN, blk_drew, blk_alloc]) hb); replace BK118 := Aside0.mk (blk_below (g := gb118) (o := .cells #[.string t116, .int .i64 t117] 27 (0, 0)) (by (with_reducible repeat (first | refine blk_drewN ?_ _ | refine blk_drew ?_ | refine blk_alloc ?_ _)); refine blk_far ?_ NB118_154.out _; (with_reducible repeat (first | refine blk_drewN ?_ _ | refine blk_drew ?_ | refine blk_alloc ?_ _)); refine blk_far ?_ NB118_154.out _; apply_rules only [BK118.out, blk_drewN, blk_drew, blk_alloc]) hb); replace BK122 := Aside0.mk (blk_below (g := gb122) (o := .cells #[.string t119, .int .i64 t120] 27 (0, 0)) (by (with_reducible repeat (first | refine blk_drewN ?_ _ | refine blk_drew ?_ | refine blk_alloc ?_ _)); refine blk_far ?_ NB122_154.out _; (with_reducible repeat (first | refine blk_drewN ?_ _ | refine blk_drew ?_ | refine blk_alloc ?_ _)); refine blk_far ?_ NB122_154.out _; apply_rules only [BK122.out, blk_drewN, blk_drew, blk_alloc]) hb); replace BK126 := Aside0.mk (blk_below (g := gb126) (o := .cells #[.string t123, .int .i64 t124] 27 (0, 0)) (by (with_reducible repeat (first | refine blk_drewN ?_ _ | refine blk_drew ?_ | refine blk_alloc ?_ _)); refine blk_far ?_ NB126_154.out _; (with_reducible repeat (first | refine blk_drewN ?_ _ | refine blk_drew ?_ | refine blk_alloc ?_ _)); refine blk_far ?_ NB126_154.out _; apply_rules only [BK126.out, blk_drewN, blk_drew, blk_alloc]) hb); replace BK146 := Aside0.mk (blk_below (g := gb146) (o := .cells #[.string t142, .int .i64 t143] 27 (0, 0)) (by (with_reducible repeat (first | refine blk_drewN ?_ _ | refine blk_drew ?_ | refine blk_alloc ?_ _)); refine blk_far ?_ NB146_154.out _; (with_reducible repeat (first | refine blk_drewN ?_ _ | refine blk_drew ?_ | refine blk_alloc ?_ _)); refine blk_far ?_ NB146_154.out _; apply_rules only [BK146.out, blk_drewN, blk_drew, blk_alloc]) hb); replace BK150 := Aside0.mk (blk_below (g := gb150) (o := .cells #[.string t147, .int .i64 t148] 27 (0, 0)) (by (with_reducible repeat (first | refine blk_drewN ?_ _ | refine blk_drew ?_ | refine blk_alloc ?_ _)); refine blk_far ?_ NB150_154.out _; (with_reducible repeat (first | refine blk_drewN ?_ _ | refine blk_drew ?_ | refine blk_alloc ?_ _)); refine blk_far ?_ NB150_154.out _; apply_rules only [BK150.out, blk_drewN, blk_drew, blk_alloc]) hb); replace BK154 := Aside0.mk (blk_below (g := gb154) (o := .cells #[.string t151, .int .i64 t152] 27 (0, 0)) (by (with_reducible repeat (first | refine blk_drewN ?_ _ | refine blk_drew ?_ | refine blk_alloc ?_ _)); refine blk_put (cs := #[.string t151, .int .i64 0]) ?_ 1 _ rfl; (with_reducible repeat (first | refine blk_drewN ?_ _ | refine blk_drew ?_ | refine blk_alloc ?_ _)); refine blk_put (cs := #[.string (⟨#[]⟩ : ByteArray), .int .i64 0]) ?_ 0 _ rfl; apply_rules only [BK154.out, blk_drewN, blk_drew, blk_alloc]) hb); replace HB := Aside0.mk (below_step k59_ hb); (try clear hb)) | ((with_reducible refine gate_dst (N := 35) rfl ?_); (try (refine gate_guard (by rfl) ?_; dsimp only)); refine box_event ?hg (N := 35) ?hd (cs := #[.string (⟨#[]⟩ : ByteArray), .int .i64 0]) (t := 27) ?hr ?_; (case hd => rfl); (case hg => rfl); (case hr => exact k99_); intro gb158 hg w189 hbox hb; have BK158 := Aside0.mk (hbox); have GW158 := Aside0.mk ((by rw [hg]; exact (below_size k59_) : w.heap.size ≤ gb158)); have GE158 := Aside0.mk ((by rw [hg]; exact (below_size k59_) : w.heap.size ≤ gb158)); replace HB := Aside0.mk (below_step k59_ hb); have NB108_158 := Aside0.mk (BK108.ne hg); have NB158_108 := Aside0.mk (BK108.ne hg).symm; replace BK108 := BK108.mw hb; have NB112_158 := Aside0.mk (BK112.ne hg); have NB158_112 := Aside0.mk (BK112.ne hg).symm; replace BK112 := BK112.mw hb; have NB118_158 := Aside0.mk (BK118.ne hg); have NB158_118 := Aside0.mk (BK118.ne hg).symm; replace BK118 := BK118.mw hb; have NB122_158 := Aside0.mk (BK122.ne hg); have NB158_122 := Aside0.mk (BK122.ne hg).symm; replace BK122 := BK122.mw hb; have NB126_158 := Aside0.mk (BK126.ne hg); have NB158_126 := Aside0.mk (BK126.ne hg).symm; replace BK126 := BK126.mw hb; have NB146_158 := Aside0.mk (BK146.ne hg); have NB158_146 := Aside0.mk (BK146.ne hg).symm; replace BK146 := BK146.mw hb; have NB150_158 := Aside0.mk (BK150.ne hg); have NB158_150 := Aside0.mk (BK150.ne hg).symm; replace BK150 := BK150.mw hb; have NB154_158 := Aside0.mk (BK154.ne hg); have NB158_154 := Aside0.mk (BK154.ne hg).symm; replace BK154 := BK154.mw hb; clear hb hbox hg; have hnb190 := NB158_108.out; have hnc190 := NB108_158.out; have hnb191 := NB158_112.out; have hnc191 := NB112_158.out; have hnb192 := NB158_118.out; have hnc192 := NB118_158.out; have hnb193 := NB158_122.out; have hnc193 := NB122_158.out; have hnb194 := NB158_126.out; have hnc194 := NB126_158.out; have hnb195 := NB158_146.out; have hnc195 := NB146_158.out; have hnb196 := NB158_150.out; have hnc196 := NB150_158.out; have hnb197 := NB158_154.out; have hnc197 := NB154_158.out; have hcz198_0 : w189.cell? ⟨gb158, 0, none⟩ = some (.string (⟨#[]⟩ : ByteArray)) := (blk_cell BK158.out 0).trans rfl; have hcz198_1 : w189.cell? ⟨gb158, 1, none⟩ = some (.int .i64 0) := (blk_cell BK158.out 1).trans rfl; have hfz198_0 := blk_frozen BK158.out 0; have hfz198_1 := blk_frozen BK158.out 1) | ((with_reducible refine gate_callee (f := 15) rfl ?_); refine goesL_ (some 250) rfl rfl Tryd.func15 (by kernel_rfl) rfl #[.agg #[.string t155, .int .i64 t156], .int .i64 t157] rfl k70_ ?_; (with_reducible refine (impl_HideNumber.calls t155 t156 t157 t159 t160 t161 _ A143.out).mono ?_); rintro e w199 ⟨rfl, hb⟩; refine ⟨_, rfl, ?_⟩; replace BK108 := Aside0.mk (blk_below (g := gb108) (o := .cells #[.string t105, .int .i64 t106] 27 (0, 0)) (by (with_reducible repeat (first | refine blk_drewN ?_ _ | refine blk_drew ?_ | refine blk_alloc ?_ _)); refine blk_far ?_ NB108_158.out _; (with_reducible repeat (first | refine blk_drewN ?_ _ | refine blk_drew ?_ | refine blk_alloc ?_ _)); refine blk_far ?_ NB108_158.out _; apply_rules only [BK108.out, blk_drewN, blk_drew, blk_alloc]) hb); replace BK112 := Aside0.mk (blk_below (g := gb112) (o := .cells #[.string t109, .int .i64 t110] 27 (0, 0)) (by (with_reducible repeat (first | refine blk_drewN ?_ _ | refine blk_drew ?_ | refine blk_alloc ?_ _)); refine blk_far ?_ NB112_158.out _; (with_reducible repeat (first | refine blk_drewN ?_ _ | refine blk_drew ?_ | refine blk_alloc ?_ _)); refine blk_far ?_ NB112_158.out _; apply_rules only [BK112.out, blk_drewN, blk_drew, blk_alloc]) hb); replace BK118 := Aside0.mk (blk_below (g := gb118) (o := .cells #[.string t116, .int .i64 t117] 27 (0, 0)) (by (with_reducible repeat (first | refine blk_drewN ?_ _ | refine blk_drew ?_ | refine blk_alloc ?_ _)); refine blk_far ?_ NB118_158.out _; (with_reducible repeat (first | refine blk_drewN ?_ _ | refine blk_drew ?_ | refine blk_alloc ?_ _)); refine blk_far ?_ NB118_158.out _; apply_rules only [BK118.out, blk_drewN, blk_drew, blk_alloc]) hb); replace BK122 := Aside0.mk (blk_below (g := gb122) (o := .cells #[.string t119, .int .i64 t120] 27 (0, 0)) (by (with_reducible repeat (first | refine blk_drewN ?_ _ | refine blk_drew ?_ | refine blk_alloc ?_ _)); refine blk_far ?_ NB122_158.out _; (with_reducible repeat (first | refine blk_drewN ?_ _ | refine blk_drew ?_ | refine blk_alloc ?_ _)); refine blk_far ?_ NB122_158.out _; apply_rules only [BK122.out, blk_drewN, blk_drew, blk_alloc]) hb); replace BK126 := Aside0.mk (blk_below (g := gb126) (o := .cells #[.string t123, .int .i64 t124] 27 (0, 0)) (by (with_reducible repeat (first | refine blk_drewN ?_ _ | refine blk_drew ?_ | refine blk_alloc ?_ _)); refine blk_far ?_ NB126_158.out _; (with_reducible repeat (first | refine blk_drewN ?_ _ | refine blk_drew ?_ | refine blk_alloc ?_ _)); refine blk_far ?_ NB126_158.out _; apply_rules only [BK126.out, blk_drewN, blk_drew, blk_alloc]) hb); replace BK146 := Aside0.mk (blk_below (g := gb146) (o := .cells #[.string t142, .int .i64 t143] 27 (0, 0)) (by (with_reducible repeat (first | refine blk_drewN ?_ _ | refine blk_drew ?_ | refine blk_alloc ?_ _)); refine blk_far ?_ NB146_158.out _; (with_reducible repeat (first | refine blk_drewN ?_ _ | refine blk_drew ?_ | refine blk_alloc ?_ _)); refine blk_far ?_ NB146_158.out _; apply_rules only [BK146.out, blk_drewN, blk_drew, blk_alloc]) hb); replace BK150 := Aside0.mk (blk_below (g := gb150) (o := .cells #[.string t147, .int .i64 t148] 27 (0, 0)) (by (with_reducible repeat (first | refine blk_drewN ?_ _ | refine blk_drew ?_ | refine blk_alloc ?_ _)); refine blk_far ?_ NB150_158.out _; (with_reducible repeat (first | refine blk_drewN ?_ _ | refine blk_drew ?_ | refine blk_alloc ?_ _)); refine blk_far ?_ NB150_158.out _; apply_rules only [BK150.out, blk_drewN, blk_drew, blk_alloc]) hb); replace BK154 := Aside0.mk (blk_below (g := gb154) (o := .cells #[.string t151, .int .i64 t152] 27 (0, 0)) (by (with_reducible repeat (first | refine blk_drewN ?_ _ | refine blk_drew ?_ | refine blk_alloc ?_ _)); refine blk_far ?_ NB154_158.out _; (with_reducible repeat (first | refine blk_drewN ?_ _ | refine blk_drew ?_ | refine blk_alloc ?_ _)); refine blk_far ?_ NB154_158.out _; apply_rules only [BK154.out, blk_drewN, blk_drew, blk_alloc]) hb); replace BK158 := Aside0.mk (blk_below (g := gb158) (o := .cells #[.string t155, .int .i64 t156] 27 (0, 0)) (by (with_reducible repeat (first | refine blk_drewN ?_ _ | refine blk_drew ?_ | refine blk_alloc ?_ _)); refine blk_put (cs := #[.string t155, .int .i64 0]) ?_ 1 _ rfl; (with_reducible repeat (first | refine blk_drewN ?_ _ | refine blk_drew ?_ | refine blk_alloc ?_ _)); refine blk_put (cs := #[.string (⟨#[]⟩ : ByteArray), .int .i64 0]) ?_ 0 _ rfl; apply_rules only [BK158.out, blk_drewN, blk_drew, blk_alloc]) hb); replace HB := Aside0.mk (below_step k53_ hb); (try clear hb)) | ((with_reducible refine gate_dst (N := 37) rfl ?_); (try (refine gate_guard (by rfl) ?_; dsimp only)); refine box_event ?hg (N := 37) ?hd (cs := #[.string (⟨#[]⟩ : ByteArray), .int .i64 0]) (t := 27) ?hr ?_; (case hd => rfl); (case hg => rfl); (case hr => exact k99_); intro gb162 hg w200 hbox hb; have BK162 := Aside0.mk (hbox); have GW162 := Aside0.mk ((by rw [hg]; exact (below_size k53_) : w.heap.size ≤ gb162)); have GE162 := Aside0.mk ((by rw [hg]; exact (below_size k53_) : w.heap.size ≤ gb162)); replace HB := Aside0.mk (below_step k53_ hb); have NB108_162 := Aside0.mk (BK108.ne hg); have NB162_108 := Aside0.mk (BK108.ne hg).symm; replace BK108 := BK108.mw hb; have NB112_162 := Aside0.mk (BK112.ne hg); have NB162_112 := Aside0.mk (BK112.ne hg).symm; replace BK112 := BK112.mw hb; have NB118_162 := Aside0.mk (BK118.ne hg); have NB162_118 := Aside0.mk (BK118.ne hg).symm; replace BK118 := BK118.mw hb; have NB122_162 := Aside0.mk (BK122.ne hg); have NB162_122 := Aside0.mk (BK122.ne hg).symm; replace BK122 := BK122.mw hb; have NB126_162 := Aside0.mk (BK126.ne hg); have NB162_126 := Aside0.mk (BK126.ne hg).symm; replace BK126 := BK126.mw hb; have NB146_162 := Aside0.mk (BK146.ne hg); have NB162_146 := Aside0.mk (BK146.ne hg).symm; replace BK146 := BK146.mw hb; have NB150_162 := Aside0.mk (BK150.ne hg); have NB162_150 := Aside0.mk (BK150.ne hg).symm; replace BK150 := BK150.mw hb; have NB154_162 := Aside0.mk (BK154.ne hg); have NB162_154 := Aside0.mk (BK154.ne hg).symm; replace BK154 := BK154.mw hb; have NB158_162 := Aside0.mk (BK158.ne hg); have NB162_158 := Aside0.mk (BK158.ne hg).symm; replace BK158 := BK158.mw hb; clear hb hbox hg; have hnb201 := NB162_108.out; have hnc201 := NB108_162.out; have hnb202 := NB162_112.out; have hnc202 := NB112_162.out; have hnb203 := NB162_118.out; have hnc203 := NB118_162.out; have hnb204 := NB162_122.out; have hnc204 := NB122_162.out; have hnb205 := NB162_126.out; have hnc205 := NB126_162.out; have hnb206 := NB162_146.out; have hnc206 := NB146_162.out; have hnb207 := NB162_150.out; have hnc207 := NB150_162.out; have hnb208 := NB162_154.out; have hnc208 := NB154_162.out; have hnb209 := NB162_158.out; have hnc209 := NB158_162.out; have hcz210_0 : w200.cell? ⟨gb162, 0, none⟩ = some (.string (⟨#[]⟩ : ByteArray)) := (blk_cell BK162.out 0).trans rfl; have hcz210_1 : w200.cell? ⟨gb162, 1, none⟩ = some (.int .i64 0) := (blk_cell BK162.out 1).trans rfl; have hfz210_0 := blk_frozen BK162.out 0; have hfz210_1 := blk_frozen BK162.out 1; have hcz211_0 : w200.cell? ⟨gb158, 0, none⟩ = some (.string t155) := (blk_cell BK158.out 0).trans rfl; have hcz211_1 : w200.cell? ⟨gb158, 1, none⟩ = some (.int .i64 t156) := (blk_cell BK158.out 1).trans rfl; have hfz211_0 := blk_frozen BK158.out 0; have hfz211_1 := blk_frozen BK158.out 1) | ((with_reducible refine gate_callee (f := 21) rfl ?_); refine goesL_ (some 256) rfl rfl Tryd.func21 (by kernel_rfl) rfl #[.agg #[.string t155, .int .i64 t156], .int .i64 t157] rfl k70_ ?_; (with_reducible refine (spec_HideNumber.calls kj38 t155 t156 t157 t163 t164 t165 _ A144.out).mono ?_); rintro e w212 ⟨rfl, hb⟩; refine ⟨_, rfl, ?_⟩; replace BK108 := Aside0.mk (blk_below (g := gb108) (o := .cells #[.string t105, .int .i64 t106] 27 (0, 0)) (by (with_reducible repeat (first | refine blk_drewN ?_ _ | refine blk_drew ?_ | refine blk_alloc ?_ _)); refine blk_far ?_ NB108_162.out _; (with_reducible repeat (first | refine blk_drewN ?_ _ | refine blk_drew ?_ | refine blk_alloc ?_ _)); refine blk_far ?_ NB108_162.out _; apply_rules only [BK108.out, blk_drewN, blk_drew, blk_alloc]) hb); replace BK112 := Aside0.mk (blk_below (g := gb112) (o := .cells #[.string t109, .int .i64 t110] 27 (0, 0)) (by (with_reducible repeat (first | refine blk_drewN ?_ _ | refine blk_drew ?_ | refine blk_alloc ?_ _)); refine blk_far ?_ NB112_162.out _; (with_reducible repeat (first | refine blk_drewN ?_ _ | refine blk_drew ?_ | refine blk_alloc ?_ _)); refine blk_far ?_ NB112_162.out _; apply_rules only [BK112.out, blk_drewN, blk_drew, blk_alloc]) hb); replace BK118 := Aside0.mk (blk_below (g := gb118) (o := .cells #[.string t116, .int .i64 t117] 27 (0, 0)) (by (with_reducible repeat (first | refine blk_drewN ?_ _ | refine blk_drew ?_ | refine blk_alloc ?_ _)); refine blk_far ?_ NB118_162.out _; (with_reducible repeat (first | refine blk_drewN ?_ _ | refine blk_drew ?_ | refine blk_alloc ?_ _)); refine blk_far ?_ NB118_162.out _; apply_rules only [BK118.out, blk_drewN, blk_drew, blk_alloc]) hb); replace BK122 := Aside0.mk (blk_below (g := gb122) (o := .cells #[.string t119, .int .i64 t120] 27 (0, 0)) (by (with_reducible repeat (first | refine blk_drewN ?_ _ | refine blk_drew ?_ | refine blk_alloc ?_ _)); refine blk_far ?_ NB122_162.out _; (with_reducible repeat (first | refine blk_drewN ?_ _ | refine blk_drew ?_ | refine blk_alloc ?_ _)); refine blk_far ?_ NB122_162.out _; apply_rules only [BK122.out, blk_drewN, blk_drew, blk_alloc]) hb); replace BK126 := Aside0.mk (blk_below (g := gb126) (o := .cells #[.string t123, .int .i64 t124] 27 (0, 0)) (by (with_reducible repeat (first | refine blk_drewN ?_ _ | refine blk_drew ?_ | refine blk_alloc ?_ _)); refine blk_far ?_ NB126_162.out _; (with_reducible repeat (first | refine blk_drewN ?_ _ | refine blk_drew ?_ | refine blk_alloc ?_ _)); refine blk_far ?_ NB126_162.out _; apply_rules only [BK126.out, blk_drewN, blk_drew, blk_alloc]) hb); replace BK146 := Aside0.mk (blk_below (g := gb146) (o := .cells #[.string t142, .int .i64 t143] 27 (0, 0)) (by (with_reducible repeat (first | refine blk_drewN ?_ _ | refine blk_drew ?_ | refine blk_alloc ?_ _)); refine blk_far ?_ NB146_162.out _; (with_reducible repeat (first | refine blk_drewN ?_ _ | refine blk_drew ?_ | refine blk_alloc ?_ _)); refine blk_far ?_ NB146_162.out _; apply_rules only [BK146.out, blk_drewN, blk_drew, blk_alloc]) hb); replace BK150 := Aside0.mk (blk_below (g := gb150) (o := .cells #[.string t147, .int .i64 t148] 27 (0, 0)) (by (with_reducible repeat (first | refine blk_drewN ?_ _ | refine blk_drew ?_ | refine blk_alloc ?_ _)); refine blk_far ?_ NB150_162.out _; (with_reducible repeat (first | refine blk_drewN ?_ _ | refine blk_drew ?_ | refine blk_alloc ?_ _)); refine blk_far ?_ NB150_162.out _; apply_rules only [BK150.out, blk_drewN, blk_drew, blk_alloc]) hb); replace BK154 := Aside0.mk (blk_below (g := gb154) (o := .cells #[.string t151, .int .i64 t152] 27 (0, 0)) (by (with_reducible repeat (first | refine blk_drewN ?_ _ | refine blk_drew ?_ | refine blk_alloc ?_ _)); refine blk_far ?_ NB154_162.out _; (with_reducible repeat (first | refine blk_drewN ?_ _ | refine blk_drew ?_ | refine blk_alloc ?_ _)); refine blk_far ?_ NB154_162.out _; apply_rules only [BK154.out, blk_drewN, blk_drew, blk_alloc]) hb); replace BK158 := Aside0.mk (blk_below (g := gb158) (o := .cells #[.string t155, .int .i64 t156] 27 (0, 0)) (by (with_reducible repeat (first | refine blk_drewN ?_ _ | refine blk_drew ?_ | refine blk_alloc ?_ _)); refine blk_far ?_ NB158_162.out _; (with_reducible repeat (first | refine blk_drewN ?_ _ | refine blk_drew ?_ | refine blk_alloc ?_ _)); refine blk_far ?_ NB158_162.out _; apply_rules only [BK158.out, blk_drewN, blk_drew, blk_alloc]) hb); replace BK162 := Aside0.mk (blk_below (g := gb162) (o := .cells #[.string t159, .int .i64 t160] 27 (0, 0)) (by (with_reducible repeat (first | refine blk_drewN ?_ _ | refine blk_drew ?_ | refine blk_alloc ?_ _)); refine blk_put (cs := #[.string t159, .int .i64 0]) ?_ 1 _ rfl; (with_reducible repeat (first | refine blk_drewN ?_ _ | refine blk_drew ?_ | refine blk_alloc ?_ _)); refine blk_put (cs := #[.string (⟨#[]⟩ : ByteArray), .int .i64 0]) ?_ 0 _ rfl; apply_rules only [BK162.out, blk_drewN, blk_drew, blk_alloc]) hb); replace HB := Aside0.mk (below_step k51_ hb); (try clear hb)) | ((with_reducible refine gate_dst (N := 39) rfl ?_); (try (refine gate_guard (by rfl) ?_; dsimp only)); refine box_event ?hg (N := 39) ?hd (cs := #[.string (⟨#[]⟩ : ByteArray), .int .i64 0]) (t := 27) ?hr ?_; (case hd => rfl); (case hg => rfl); (case hr => exact k99_); intro gb166 hg w213 hbox hb; have BK166 := Aside0.mk (hbox); have GW166 := Aside0.mk ((by rw [hg]; exact (below_size k51_) : w.heap.size ≤ gb166)); have GE166 := Aside0.mk ((by rw [hg]; exact (below_size k51_) : w.heap.size ≤ gb166)); replace HB := Aside0.mk (below_step k51_ hb); have NB108_166 := Aside0.mk (BK108.ne hg); have NB166_108 := Aside0.mk (BK108.ne hg).symm; replace BK108 := BK108.mw hb; have NB112_166 := Aside0.mk (BK112.ne hg); have NB166_112 := Aside0.mk (BK112.ne hg).symm; replace BK112 := BK112.mw hb; have NB118_166 := Aside0.mk (BK118.ne hg); have NB166_118 := Aside0.mk (BK118.ne hg).symm; replace BK118 := BK118.mw hb; have NB122_166 := Aside0.mk (BK122.ne hg); have NB166_122 := Aside0.mk (BK122.ne hg).symm; replace BK122 := BK122.mw hb; have NB126_166 := Aside0.mk (BK126.ne hg); have NB166_126 := Aside0.mk (BK126.ne hg).symm; replace BK126 := BK126.mw hb; have NB146_166 := Aside0.mk (BK146.ne hg); have NB166_146 := Aside0.mk (BK146.ne hg).symm; replace BK146 := BK146.mw hb; have NB150_166 := Aside0.mk (BK150.ne hg); have NB166_150 := Aside0.mk (BK150.ne hg).symm; replace BK150 := BK150.mw hb; have NB154_166 := Aside0.mk (BK154.ne hg); have NB166_154 := Aside0.mk (BK154.ne hg).symm; replace BK154 := BK154.mw hb; have NB158_166 := Aside0.mk (BK158.ne hg); have NB166_158 := Aside0.mk (BK158.ne hg).symm; replace BK158 := BK158.mw hb; have NB162_166 := Aside0.mk (BK162.ne hg); have NB166_162 := Aside0.mk (BK162.ne hg).symm; replace BK162 := BK162.mw hb; clear hb hbox hg; have hnb214 := NB166_108.out; have hnc214 := NB108_166.out; have hnb215 := NB166_112.out; have hnc215 := NB112_166.out; have hnb216 := NB166_118.out; have hnc216 := NB118_166.out; have hnb217 := NB166_122.out; have hnc217 := NB122_166.out; have hnb218 := NB166_126.out; have hnc218 := NB126_166.out; have hnb219 := NB166_146.out; have hnc219 := NB146_166.out; have hnb220 := NB166_150.out; have hnc220 := NB150_166.out; have hnb221 := NB166_154.out; have hnc221 := NB154_166.out; have hnb222 := NB166_158.out; have hnc222 := NB158_166.out; have hnb223 := NB166_162.out; have hnc223 := NB162_166.out; have hcz224_0 : w213.cell? ⟨gb166, 0, none⟩ = some (.string (⟨#[]⟩ : ByteArray)) := (blk_cell BK166.out 0).trans rfl; have hcz224_1 : w213.cell? ⟨gb166, 1, none⟩ = some (.int .i64 0) := (blk_cell BK166.out 1).trans rfl; have hfz224_0 := blk_frozen BK166.out 0; have hfz224_1 := blk_frozen BK166.out 1) | ((with_reducible refine gate_callee (f := 22) rfl ?_); refine goesL_ (some 260) rfl rfl Tryd.func22 (by kernel_rfl) rfl #[.slice A1 l1.length c1] rfl k70_ ?_; (with_reducible refine (spec_DrawFewestRules.calls kj38 _ _ l1 t167 _ ?side1 ?side2 A145.out).mono ?_); (case side1 => exact Kd.C_below HR1.out k50_); (case side2 => exact HC1.out); rintro e w225 ⟨rfl, hb⟩; refine ⟨_, rfl, ?_⟩; replace BK108 := Aside0.mk (blk_below (g := gb108) (o := .cells #[.string t105, .int .i64 t106] 27 (0, 0)) (by (with_reducible repeat (first | refine blk_drewN ?_ _ | refine blk_drew ?_ | refine blk_alloc ?_ _)); refine blk_far ?_ NB108_166.out _; (with_reducible repeat (first | refine blk_drewN ?_ _ | refine blk_drew ?_ | refine blk_alloc ?_ _)); refine blk_far ?_ NB108_166.out _; apply_rules only [BK108.out, blk_drewN, blk_drew, blk_alloc]) hb); replace BK112 := Aside0.mk (blk_below (g := gb112) (o := .cells #[.string t109, .int .i64 t110] 27 (0, 0)) (by (with_reducible repeat (first | refine blk_drewN ?_ _ | refine blk_drew ?_ | refine blk_alloc ?_ _)); refine blk_far ?_ NB112_166.out _; (with_reducible repeat (first | refine blk_drewN ?_ _ | refine blk_drew ?_ | refine blk_alloc ?_ _)); refine blk_far ?_ NB112_166.out _; apply_rules only [BK112.out, blk_drewN, blk_drew, blk_alloc]) hb); replace BK118 := Aside0.mk (blk_below (g := gb118) (o := .cells #[.string t116, .int .i64 t117] 27 (0, 0)) (by (with_reducible repeat (first | refine blk_drewN ?_ _ | refine blk_drew ?_ | refine blk_alloc ?_ _)); refine blk_far ?_ NB118_166.out _; (with_reducible repeat (first | refine blk_drewN ?_ _ | refine blk_drew ?_ | refine blk_alloc ?_ _)); refine blk_far ?_ NB118_166.out _; apply_rules only [BK118.out, blk_drewN, blk_drew, blk_alloc]) hb); replace BK122 := Aside0.mk (blk_below (g := gb122) (o := .cells #[.string t119, .int .i64 t120] 27 (0, 0)) (by (with_reducible repeat (first | refine blk_drewN ?_ _ | refine blk_drew ?_ | refine blk_alloc ?_ _)); refine blk_far ?_ NB122_166.out _; (with_reducible repeat (first | refine blk_drewN ?_ _ | refine blk_drew ?_ | refine blk_alloc ?_ _)); refine blk_far ?_ NB122_166.out _; apply_rules only [BK122.out, blk_drewN, blk_drew, blk_alloc]) hb); replace BK126 := Aside0.mk (blk_below (g := gb126) (o := .cells #[.string t123, .int .i64 t124] 27 (0, 0)) (by (with_reducible repeat (first | refine blk_drewN ?_ _ | refine blk_drew ?_ | refine blk_alloc ?_ _)); refine blk_far ?_ NB126_166.out _; (with_reducible repeat (first | refine blk_drewN ?_ _ | refine blk_drew ?_ | refine blk_alloc ?_ _)); refine blk_far ?_ NB126_166.out _; apply_rules only [BK126.out, blk_drewN, blk_drew, blk_alloc]) hb); replace BK146 := Aside0.mk (blk_below (g := gb146) (o := .cells #[.string t142, .int .i64 t143] 27 (0, 0)) (by (with_reducible repeat (first | refine blk_drewN ?_ _ | refine blk_drew ?_ | refine blk_alloc ?_ _)); refine blk_far ?_ NB146_166.out _; (with_reducible repeat (first | refine blk_drewN ?_ _ | refine blk_drew ?_ | refine blk_alloc ?_ _)); refine blk_far ?_ NB146_166.out _; apply_rules only [BK146.out, blk_drewN, blk_drew, blk_alloc]) hb); replace BK150 := Aside0.mk (blk_below (g := gb150) (o := .cells #[.string t147, .int .i64 t148] 27 (0, 0)) (by (with_reducible repeat (first | refine blk_drewN ?_ _ | refine blk_drew ?_ | refine blk_alloc ?_ _)); refine blk_far ?_ NB150_166.out _; (with_reducible repeat (first | refine blk_drewN ?_ _ | refine blk_drew ?_ | refine blk_alloc ?_ _)); refine blk_far ?_ NB150_166.out _; apply_rules only [BK150.out, blk_drewN, blk_drew, blk_alloc]) hb); replace BK154 := Aside0.mk (blk_below (g := gb154) (o := .cells #[.string t151, .int .i64 t152] 27 (0, 0)) (by (with_reducible repeat (first | refine blk_drewN ?_ _ | refine blk_drew ?_ | refine blk_alloc ?_ _)); refine blk_far ?_ NB154_166.out _; (with_reducible repeat (first | refine blk_drewN ?_ _ | refine blk_drew ?_ | refine blk_alloc ?_ _)); refine blk_far ?_ NB154_166.out _; apply_rules only [BK154.out, blk_drewN, blk_drew, blk_alloc]) hb); replace BK158 := Aside0.mk (blk_below (g := gb158) (o := .cells #[.string t155, .int .i64 t156] 27 (0, 0)) (by (with_reducible repeat (first | refine blk_drewN ?_ _ | refine blk_drew ?_ | refine blk_alloc ?_ _)); refine blk_far ?_ NB158_166.out _; (with_reducible repeat (first | refine blk_drewN ?_ _ | refine blk_drew ?_ | refine blk_alloc ?_ _)); refine blk_far ?_ NB158_166.out _; apply_rules only [BK158.out, blk_drewN, blk_drew, blk_alloc]) hb); replace BK162 := Aside0.mk (blk_below (g := gb162) (o := .cells #[.string t159, .int .i64 t160] 27 (0, 0)) (by (with_reducible repeat (first | refine blk_drewN ?_ _ | refine blk_drew ?_ | refine blk_alloc ?_ _)); refine blk_far ?_ NB162_166.out _; (with_reducible repeat (first | refine blk_drewN ?_ _ | refine blk_drew ?_ | refine blk_alloc ?_ _)); refine blk_far ?_ NB162_166.out _; apply_rules only [BK162.out, blk_drewN, blk_drew, blk_alloc]) hb); replace BK166 := Aside0.mk (blk_below (g := gb166) (o := .cells #[.string t163, .int .i64 t164] 27 (0, 0)) (by (with_reducible repeat (first | refine blk_drewN ?_ _ | refine blk_drew ?_ | refine blk_alloc ?_ _)); refine blk_put (cs := #[.string t163, .int .i64 0]) ?_ 1 _ rfl; (with_reducible repeat (first | refine blk_drewN ?_ _ | refine blk_drew ?_ | refine blk_alloc ?_ _)); refine blk_put (cs := #[.string (⟨#[]⟩ : ByteArray), .int .i64 0]) ?_ 0 _ rfl; apply_rules only [BK166.out, blk_drewN, blk_drew, blk_alloc]) hb); replace HB := Aside0.mk (below_step k50_ hb); (try clear hb)) | ((with_reducible refine gate_callee (f := 8) rfl ?_); refine goesL_ (some 263) rfl rfl Tryd.func8 (by kernel_rfl) rfl #[.string t167] rfl k70_ ?_; (with_reducible refine (impl_FewestRules.calls kj38 t167 t168 t169 _ A146.out).mono ?_); rintro e w226 ⟨rfl, hb⟩; refine ⟨_, rfl, ?_⟩; replace BK108 := BK108.mw hb; replace BK112 := BK112.mw hb; replace BK118 := BK118.mw hb; replace BK122 := BK122.mw hb; replace BK126 := BK126.mw hb; replace BK146 := BK146.mw hb; replace BK150 := BK150.mw hb; replace BK154 := BK154.mw hb; replace BK158 := BK158.mw hb; replace BK162 := BK162.mw hb; replace BK166 := BK166.mw hb; replace HB := Aside0.mk (below_step k50_ hb); (try clear hb)) | ((with_reducible refine gate_callee (f := 23) rfl ?_); refine goesL_ (some 268) rfl rfl Tryd.func23 (by kernel_rfl) rfl #[.string t167] rfl k70_ ?_; (with_reducible refine (spec_FewestRules.calls kj38 t167 t170 t171 _ A147.out).mono ?_); rintro e w227 ⟨rfl, hb⟩; refine ⟨_, rfl, ?_⟩; replace BK108 := BK108.mw hb; replace BK112 := BK112.mw hb; replace BK118 := BK118.mw hb; replace BK122 := BK122.mw hb; replace BK126 := BK126.mw hb; replace BK146 := BK146.mw hb; replace BK150 := BK150.mw hb; replace BK154 := BK154.mw hb; replace BK158 := BK158.mw hb; replace BK162 := BK162.mw hb; replace BK166 := BK166.mw hb; replace HB := Aside0.mk (below_step k50_ hb); (try clear hb)) | ((with_reducible refine gate_callee (f := 24) rfl ?_); refine goesL_ (some 273) rfl rfl Tryd.func24 (by kernel_rfl) rfl #[.slice A1 l1.length c1] rfl k70_ ?_; (with_reducible refine (spec_DrawPatternOf.calls kj38 _ _ l1 t172 t173 _ ?side1 ?side2 A148.out).mono ?_); (case side1 => exact k55_); (case side2 => exact HC1.out); rintro e w228 ⟨v174, rfl, ho0, hb⟩; refine ⟨_, rfl, ?_⟩; have HO175 := Aside0.mk (Kd.R_lower ho0 (below_size k50_)); replace BK108 := BK108.mw hb; replace BK112 := BK112.mw hb; replace BK118 := BK118.mw hb; replace BK122 := BK122.mw hb; replace BK126 := BK126.mw hb; replace BK146 := BK146.mw hb; replace BK150 := BK150.mw hb; replace BK154 := BK154.mw hb; replace BK158 := BK158.mw hb; replace BK162 := BK162.mw hb; replace BK166 := BK166.mw hb; replace HB := Aside0.mk (below_step k50_ hb); (try clear hb ho0); obtain ⟨Ao229, co229, eo229⟩ := Kd.R_slice HO175.out; subst eo229) | ((with_reducible refine gate_callee (f := 25) rfl ?_); refine goesL_ (some 279) rfl rfl Tryd.func25 (by kernel_rfl) rfl #[.slice Ao229 t172.length co229, .int .i64 t173] rfl k70_ ?_; (with_reducible refine (impl_PatternOf.calls kj38 _ _ t172 t173 t176 t177 _ ?side1 ?side2 A149.out).mono ?_); (case side1 => repeat (first | exact (Kd.R_reads' HO175.out).2.2 | (with_reducible refine Kd.C_alloc ?_ _) | (with_reducible refine Kd.C_drewN ?_ _) | (with_reducible refine Kd.C_drew ?_))); (case side2 => exact (Kd.R_reads' HO175.out).2.1); rintro e w230 ⟨rfl, hb⟩; refine ⟨_, rfl, ?_⟩; replace HO175 := HO175.mw hb; replace BK108 := BK108.mw hb; replace BK112 := BK112.mw hb; replace BK118 := BK118.mw hb; replace BK122 := BK122.mw hb; replace BK126 := BK126.mw hb; replace BK146 := BK146.mw hb; replace BK150 := BK150.mw hb; replace BK154 := BK154.mw hb; replace BK158 := BK158.mw hb; replace BK162 := BK162.mw hb; replace BK166 := BK166.mw hb; replace HB := Aside0.mk (below_step k50_ hb); (try clear hb)) | ((with_reducible refine gate_callee (f := 26) rfl ?_); refine goesL_ (some 285) rfl rfl Tryd.func26 (by kernel_rfl) rfl #[.slice Ao229 t172.length co229, .int .i64 t173] rfl k70_ ?_; (with_reducible refine (spec_PatternOf.calls kj38 _ _ t172 t173 t178 t179 _ ?side1 ?side2 A150.out).mono ?_); (case side1 => repeat (first | exact (Kd.R_reads' HO175.out).2.2 | (with_reducible refine Kd.C_alloc ?_ _) | (with_reducible refine Kd.C_drewN ?_ _) | (with_reducible refine Kd.C_drew ?_))); (case side2 => exact (Kd.R_reads' HO175.out).2.1); rintro e w231 ⟨rfl, hb⟩; refine ⟨_, rfl, ?_⟩; replace HO175 := HO175.mw hb; replace BK108 := BK108.mw hb; replace BK112 := BK112.mw hb; replace BK118 := BK118.mw hb; replace BK122 := BK122.mw hb; replace BK126 := BK126.mw hb; replace BK146 := BK146.mw hb; replace BK150 := BK150.mw hb; replace BK154 := BK154.mw hb; replace BK158 := BK158.mw hb; replace BK162 := BK162.mw hb; replace BK166 := BK166.mw hb; replace HB := Aside0.mk (below_step k50_ hb); (try clear hb); have hcz232_0 : w231.cell? ⟨gb150, 0, none⟩ = some (.string t147) := (blk_cell BK150.out 0).trans rfl; have hcz232_1 : w231.cell? ⟨gb150, 1, none⟩ = some (.int .i64 t148) := (blk_cell BK150.out 1).trans rfl; have hfz232_0 := blk_frozen BK150.out 0; have hfz232_1 := blk_frozen BK150.out 1; have hcz233_0 : w231.cell? ⟨gb154, 0, none⟩ = some (.string t151) := (blk_cell BK154.out 0).trans rfl; have hcz233_1 : w231.cell? ⟨gb154, 1, none⟩ = some (.int .i64 t152) := (blk_cell BK154.out 1).trans rfl; have hfz233_0 := blk_frozen BK154.out 0; have hfz233_1 := blk_frozen BK154.out 1; have hcz234_0 : w231.cell? ⟨gb162, 0, none⟩ = some (.string t159) := (blk_cell BK162.out 0).trans rfl; have hcz234_1 : w231.cell? ⟨gb162, 1, none⟩ = some (.int .i64 t160) := (blk_cell BK162.out 1).trans rfl; have hfz234_0 := blk_frozen BK162.out 0; have hfz234_1 := blk_frozen BK162.out 1; have hcz235_0 : w231.cell? ⟨gb166, 0, none⟩ = some (.string t163) := (blk_cell BK166.out 0).trans rfl; have hcz235_1 : w231.cell? ⟨gb166, 1, none⟩ = some (.int .i64 t164) := (blk_cell BK166.out 1).trans rfl; have hfz235_0 := blk_frozen BK166.out 0; have hfz235_1 := blk_frozen BK166.out 1))
                  (try simp only [Act.put, List.setIfInBounds_toArray, List.set_cons_zero, List.set_cons_succ])
                  go_cut [] from 222 to 326 (fun wc => ∃ (kq : Nat), Aside0 (laws_FnPuzzlesSieved.j3 kq t157 t161 t155 t156 t159 t160 = some true) ∧ Aside0 (kq ≤ kj38) ∧ Aside0 (wc.heap[gb108]? = some (.cells #[.string t105, .int .i64 t106] 27 (0, 0))) ∧ Aside0 (wc.heap[gb112]? = some (.cells #[.string t109, .int .i64 t110] 27 (0, 0))) ∧ Aside0 (wc.heap[gb118]? = some (.cells #[.string t116, .int .i64 t117] 27 (0, 0))) ∧ Aside0 (wc.heap[gb122]? = some (.cells #[.string t119, .int .i64 t120] 27 (0, 0))) ∧ Aside0 (wc.heap[gb126]? = some (.cells #[.string t123, .int .i64 t124] 27 (0, 0))) ∧ Aside0 (wc.heap[gb146]? = some (.cells #[.string t142, .int .i64 t143] 27 (0, 0))) ∧ Aside0 (wc.heap[gb150]? = some (.cells #[.string t147, .int .i64 t148] 27 (0, 0))) ∧ Aside0 (wc.heap[gb154]? = some (.cells #[.string t151, .int .i64 t152] 27 (0, 0))) ∧ Aside0 (wc.heap[gb158]? = some (.cells #[.string t155, .int .i64 t156] 27 (0, 0))) ∧ Aside0 (wc.heap[gb162]? = some (.cells #[.string t159, .int .i64 t160] 27 (0, 0))) ∧ Aside0 (wc.heap[gb166]? = some (.cells #[.string t163, .int .i64 t164] 27 (0, 0))) ∧ Aside0 (Below w.heap.size w wc))
                  case first =>
                   have H := HC159.out
                   clear HC159
                   by_cases c236 : t149 = true
                   ·subst c236
                    rw [if_pos rfl] at H
                    obtain ⟨⟨t180, t181, t182⟩, A237, H⟩ := obnd_ H
                    (try dsimp only at H)
                    by_cases c238 : t182 = true
                    ·subst c238
                     rw [if_pos rfl] at H
                     by_cases c239 : (!(t180.toList == t142.toList) || (!(t181 == t143))) = true
                     ·rw [if_pos c239] at H
                      have c239b0 : (!(t180.toList == t142.toList) || (!(t181 == t143))) = true := c239
                      clear c239
                      (first | rw [c239b0] | rw [c239b1] | (simp only [i64_w, i32_w]; rw [c239b0]) | skip)
                      exact absurd H (by simp)
                     ·rw [if_neg c239] at H
                      have c239b0 : (!(t180.toList == t142.toList) || (!(t181 == t143))) = false := by simpa using c239
                      clear c239
                      (first | rw [c239b0] | rw [c239b1] | (simp only [i64_w, i32_w]; rw [c239b0]) | skip)
                      have H' := Aside0.mk H
                      clear H
                      have hnb240 := NB150_108.out
                      have hnc240 := NB108_150.out
                      have hnb241 := NB150_112.out
                      have hnc241 := NB112_150.out
                      have hnb242 := NB150_118.out
                      have hnc242 := NB118_150.out
                      have hnb243 := NB150_122.out
                      have hnc243 := NB122_150.out
                      have hnb244 := NB150_126.out
                      have hnc244 := NB126_150.out
                      have hnb245 := NB150_146.out
                      have hnc245 := NB146_150.out
                      have hnb246 := NB150_154.out
                      have hnc246 := NB154_150.out
                      have hnb247 := NB150_158.out
                      have hnc247 := NB158_150.out
                      have hnb248 := NB150_162.out
                      have hnc248 := NB162_150.out
                      have hnb249 := NB150_166.out
                      have hnc249 := NB166_150.out
                      have hcz250_0 : w231.cell? ⟨gb150, 0, none⟩ = some (.string t147) := (blk_cell BK150.out 0).trans rfl
                      have hcz250_1 : w231.cell? ⟨gb150, 1, none⟩ = some (.int .i64 t148) := (blk_cell BK150.out 1).trans rfl
                      have hfz250_0 := blk_frozen BK150.out 0
                      have hfz250_1 := blk_frozen BK150.out 1
                      go_wp2_with (first | ((with_reducible refine gate_callee (f := 15) rfl ?_); refine goesL_ (some 330) rfl rfl Tryd.func15 (by kernel_rfl) rfl #[.agg #[.string t147, .int .i64 t148], .int .i64 t144] rfl k70_ ?_; (with_reducible refine (impl_HideNumber.calls t147 t148 t144 t180 t181 true _ A237.out).mono ?_); rintro e w251 ⟨rfl, hb⟩; refine ⟨_, rfl, ?_⟩; replace HO175 := HO175.mw hb; replace BK108 := BK108.mw hb; replace BK112 := BK112.mw hb; replace BK118 := BK118.mw hb; replace BK122 := BK122.mw hb; replace BK126 := BK126.mw hb; replace BK146 := BK146.mw hb; replace BK150 := BK150.mw hb; replace BK154 := BK154.mw hb; replace BK158 := BK158.mw hb; replace BK162 := BK162.mw hb; replace BK166 := BK166.mw hb; replace HB := Aside0.mk (below_step k50_ hb); (try clear hb)) | ((with_reducible refine gate_dst (N := 52) rfl ?_); (try (refine gate_guard (by rfl) ?_; dsimp only)); refine box_event ?hg (N := 52) ?hd (cs := #[.string (⟨#[]⟩ : ByteArray), .int .i64 0]) (t := 27) ?hr ?_; (case hd => rfl); (case hg => rfl); (case hr => exact k99_); intro gb183 hg w252 hbox hb; replace HO175 := HO175.mw hb; have BK183 := Aside0.mk (hbox); have GW183 := Aside0.mk ((by rw [hg]; exact (below_size k50_) : w.heap.size ≤ gb183)); have GE183 := Aside0.mk ((by rw [hg]; exact (below_size k50_) : w.heap.size ≤ gb183)); replace HB := Aside0.mk (below_step k50_ hb); have NB108_183 := Aside0.mk (BK108.ne hg); have NB183_108 := Aside0.mk (BK108.ne hg).symm; replace BK108 := BK108.mw hb; have NB112_183 := Aside0.mk (BK112.ne hg); have NB183_112 := Aside0.mk (BK112.ne hg).symm; replace BK112 := BK112.mw hb; have NB118_183 := Aside0.mk (BK118.ne hg); have NB183_118 := Aside0.mk (BK118.ne hg).symm; replace BK118 := BK118.mw hb; have NB122_183 := Aside0.mk (BK122.ne hg); have NB183_122 := Aside0.mk (BK122.ne hg).symm; replace BK122 := BK122.mw hb; have NB126_183 := Aside0.mk (BK126.ne hg); have NB183_126 := Aside0.mk (BK126.ne hg).symm; replace BK126 := BK126.mw hb; have NB146_183 := Aside0.mk (BK146.ne hg); have NB183_146 := Aside0.mk (BK146.ne hg).symm; replace BK146 := BK146.mw hb; have NB150_183 := Aside0.mk (BK150.ne hg); have NB183_150 := Aside0.mk (BK150.ne hg).symm; replace BK150 := BK150.mw hb; have NB154_183 := Aside0.mk (BK154.ne hg); have NB183_154 := Aside0.mk (BK154.ne hg).symm; replace BK154 := BK154.mw hb; have NB158_183 := Aside0.mk (BK158.ne hg); have NB183_158 := Aside0.mk (BK158.ne hg).symm; replace BK158 := BK158.mw hb; have NB162_183 := Aside0.mk (BK162.ne hg); have NB183_162 := Aside0.mk (BK162.ne hg).symm; replace BK162 := BK162.mw hb; have NB166_183 := Aside0.mk (BK166.ne hg); have NB183_166 := Aside0.mk (BK166.ne hg).symm; replace BK166 := BK166.mw hb; clear hb hbox hg; have hnb253 := NB183_108.out; have hnc253 := NB108_183.out; have hnb254 := NB183_112.out; have hnc254 := NB112_183.out; have hnb255 := NB183_118.out; have hnc255 := NB118_183.out; have hnb256 := NB183_122.out; have hnc256 := NB122_183.out; have hnb257 := NB183_126.out; have hnc257 := NB126_183.out; have hnb258 := NB183_146.out; have hnc258 := NB146_183.out; have hnb259 := NB183_150.out; have hnc259 := NB150_183.out; have hnb260 := NB183_154.out; have hnc260 := NB154_183.out; have hnb261 := NB183_158.out; have hnc261 := NB158_183.out; have hnb262 := NB183_162.out; have hnc262 := NB162_183.out; have hnb263 := NB183_166.out; have hnc263 := NB166_183.out; have hcz264_0 : w252.cell? ⟨gb183, 0, none⟩ = some (.string (⟨#[]⟩ : ByteArray)) := (blk_cell BK183.out 0).trans rfl; have hcz264_1 : w252.cell? ⟨gb183, 1, none⟩ = some (.int .i64 0) := (blk_cell BK183.out 1).trans rfl; have hfz264_0 := blk_frozen BK183.out 0; have hfz264_1 := blk_frozen BK183.out 1; have hnb265 := NB146_108.out; have hnc265 := NB108_146.out; have hnb266 := NB146_112.out; have hnc266 := NB112_146.out; have hnb267 := NB146_118.out; have hnc267 := NB118_146.out; have hnb268 := NB146_122.out; have hnc268 := NB122_146.out; have hnb269 := NB146_126.out; have hnc269 := NB126_146.out; have hnb270 := NB146_154.out; have hnc270 := NB154_146.out; have hnb271 := NB146_158.out; have hnc271 := NB158_146.out; have hnb272 := NB146_162.out; have hnc272 := NB162_146.out; have hnb273 := NB146_166.out; have hnc273 := NB166_146.out; have hcz274_0 : w252.cell? ⟨gb146, 0, none⟩ = some (.string t142) := (blk_cell BK146.out 0).trans rfl; have hcz274_1 : w252.cell? ⟨gb146, 1, none⟩ = some (.int .i64 t143) := (blk_cell BK146.out 1).trans rfl; have hfz274_0 := blk_frozen BK146.out 0; have hfz274_1 := blk_frozen BK146.out 1))
                      go_meet
                      case rel => exact ⟨_, H', ⟨by have := HJ9.out; have := HJ38.out; first | omega | exact Nat.le_refl _⟩, ⟨by (with_reducible repeat (first | refine blk_drewN ?_ _ | refine blk_drew ?_ | refine blk_alloc ?_ _)); refine blk_far ?_ NB108_183.out _; (with_reducible repeat (first | refine blk_drewN ?_ _ | refine blk_drew ?_ | refine blk_alloc ?_ _)); refine blk_far ?_ NB108_183.out _; apply_rules only [BK108.out, blk_drewN, blk_drew, blk_alloc]⟩, ⟨by (with_reducible repeat (first | refine blk_drewN ?_ _ | refine blk_drew ?_ | refine blk_alloc ?_ _)); refine blk_far ?_ NB112_183.out _; (with_reducible repeat (first | refine blk_drewN ?_ _ | refine blk_drew ?_ | refine blk_alloc ?_ _)); refine blk_far ?_ NB112_183.out _; apply_rules only [BK112.out, blk_drewN, blk_drew, blk_alloc]⟩, ⟨by (with_reducible repeat (first | refine blk_drewN ?_ _ | refine blk_drew ?_ | refine blk_alloc ?_ _)); refine blk_far ?_ NB118_183.out _; (with_reducible repeat (first | refine blk_drewN ?_ _ | refine blk_drew ?_ | refine blk_alloc ?_ _)); refine blk_far ?_ NB118_183.out _; apply_rules only [BK118.out, blk_drewN, blk_drew, blk_alloc]⟩, ⟨by (with_reducible repeat (first | refine blk_drewN ?_ _ | refine blk_drew ?_ | refine blk_alloc ?_ _)); refine blk_far ?_ NB122_183.out _; (with_reducible repeat (first | refine blk_drewN ?_ _ | refine blk_drew ?_ | refine blk_alloc ?_ _)); refine blk_far ?_ NB122_183.out _; apply_rules only [BK122.out, blk_drewN, blk_drew, blk_alloc]⟩, ⟨by (with_reducible repeat (first | refine blk_drewN ?_ _ | refine blk_drew ?_ | refine blk_alloc ?_ _)); refine blk_far ?_ NB126_183.out _; (with_reducible repeat (first | refine blk_drewN ?_ _ | refine blk_drew ?_ | refine blk_alloc ?_ _)); refine blk_far ?_ NB126_183.out _; apply_rules only [BK126.out, blk_drewN, blk_drew, blk_alloc]⟩, ⟨by (with_reducible repeat (first | refine blk_drewN ?_ _ | refine blk_drew ?_ | refine blk_alloc ?_ _)); refine blk_far ?_ NB146_183.out _; (with_reducible repeat (first | refine blk_drewN ?_ _ | refine blk_drew ?_ | refine blk_alloc ?_ _)); refine blk_far ?_ NB146_183.out _; apply_rules only [BK146.out, blk_drewN, blk_drew, blk_alloc]⟩, ⟨by (with_reducible repeat (first | refine blk_drewN ?_ _ | refine blk_drew ?_ | refine blk_alloc ?_ _)); refine blk_far ?_ NB150_183.out _; (with_reducible repeat (first | refine blk_drewN ?_ _ | refine blk_drew ?_ | refine blk_alloc ?_ _)); refine blk_far ?_ NB150_183.out _; apply_rules only [BK150.out, blk_drewN, blk_drew, blk_alloc]⟩, ⟨by (with_reducible repeat (first | refine blk_drewN ?_ _ | refine blk_drew ?_ | refine blk_alloc ?_ _)); refine blk_far ?_ NB154_183.out _; (with_reducible repeat (first | refine blk_drewN ?_ _ | refine blk_drew ?_ | refine blk_alloc ?_ _)); refine blk_far ?_ NB154_183.out _; apply_rules only [BK154.out, blk_drewN, blk_drew, blk_alloc]⟩, ⟨by (with_reducible repeat (first | refine blk_drewN ?_ _ | refine blk_drew ?_ | refine blk_alloc ?_ _)); refine blk_far ?_ NB158_183.out _; (with_reducible repeat (first | refine blk_drewN ?_ _ | refine blk_drew ?_ | refine blk_alloc ?_ _)); refine blk_far ?_ NB158_183.out _; apply_rules only [BK158.out, blk_drewN, blk_drew, blk_alloc]⟩, ⟨by (with_reducible repeat (first | refine blk_drewN ?_ _ | refine blk_drew ?_ | refine blk_alloc ?_ _)); refine blk_far ?_ NB162_183.out _; (with_reducible repeat (first | refine blk_drewN ?_ _ | refine blk_drew ?_ | refine blk_alloc ?_ _)); refine blk_far ?_ NB162_183.out _; apply_rules only [BK162.out, blk_drewN, blk_drew, blk_alloc]⟩, ⟨by (with_reducible repeat (first | refine blk_drewN ?_ _ | refine blk_drew ?_ | refine blk_alloc ?_ _)); refine blk_far ?_ NB166_183.out _; (with_reducible repeat (first | refine blk_drewN ?_ _ | refine blk_drew ?_ | refine blk_alloc ?_ _)); refine blk_far ?_ NB166_183.out _; apply_rules only [BK166.out, blk_drewN, blk_drew, blk_alloc]⟩, ⟨by apply_rules only [HB.out, below_alloc, pw_below_drewN, below_drew1, below_set, GE108.out, GE112.out, GE118.out, GE122.out, GE126.out, GE146.out, GE150.out, GE154.out, GE158.out, GE162.out, GE166.out, GE183.out]⟩⟩
                    ·replace c238 := Bool.eq_false_iff.mpr c238
                     subst c238
                     rw [if_neg (show ¬ (false = true) by decide)] at H
                     exact absurd H (by simp)
                   ·replace c236 := Bool.eq_false_iff.mpr c236
                    subst c236
                    rw [if_neg (show ¬ (false = true) by decide)] at H
                    have H' := Aside0.mk H
                    clear H
                    go_wp2
                    go_meet
                    case rel => exact ⟨_, H', ⟨by have := HJ9.out; have := HJ38.out; first | omega | exact Nat.le_refl _⟩, ⟨k94_⟩, ⟨k92_⟩, ⟨k88_⟩, ⟨k89_⟩, ⟨k95_⟩, ⟨by apply_rules only [BK146.out, blk_drewN, blk_drew, blk_alloc]⟩, ⟨by apply_rules only [BK150.out, blk_drewN, blk_drew, blk_alloc]⟩, ⟨by apply_rules only [BK154.out, blk_drewN, blk_drew, blk_alloc]⟩, ⟨by apply_rules only [BK158.out, blk_drewN, blk_drew, blk_alloc]⟩, ⟨by apply_rules only [BK162.out, blk_drewN, blk_drew, blk_alloc]⟩, ⟨by apply_rules only [BK166.out, blk_drewN, blk_drew, blk_alloc]⟩, ⟨k50_⟩⟩
                  case rest =>
                   clear HC159
                   (try clear c1); (try clear c8); (try clear c9); (try clear c151); (try clear c151b0); (try clear c151b1); (try clear c151b2); (try clear c152); (try clear c152b0); (try clear c153); (try clear c153b0); (try clear c153b1); (try clear c153b2); (try clear c154); (try clear c154b0); (try clear c155); (try clear c155b0); (try clear c155b1); (try clear c155b2); (try clear c156); (try clear c156b0); (try clear c156b1); (try clear c157); (try clear c157b0); (try clear c157b1); (try clear c157b2); (try clear c158); (try clear c158b0); (try clear c158b1); (try clear hcz167_0); (try clear hcz167_1); (try clear hcz176_0); (try clear hcz176_1); (try clear hcz177_0); (try clear hcz177_1); (try clear hcz187_0); (try clear hcz187_1); (try clear hcz198_0); (try clear hcz198_1); (try clear hcz210_0); (try clear hcz210_1); (try clear hcz211_0); (try clear hcz211_1); (try clear hcz224_0); (try clear hcz224_1); (try clear hcz232_0); (try clear hcz232_1); (try clear hcz233_0); (try clear hcz233_1); (try clear hcz234_0); (try clear hcz234_1); (try clear hcz235_0); (try clear hcz235_1); (try clear hfz167_0); (try clear hfz167_1); (try clear hfz176_0); (try clear hfz176_1); (try clear hfz177_0); (try clear hfz177_1); (try clear hfz187_0); (try clear hfz187_1); (try clear hfz198_0); (try clear hfz198_1); (try clear hfz210_0); (try clear hfz210_1); (try clear hfz211_0); (try clear hfz211_1); (try clear hfz224_0); (try clear hfz224_1); (try clear hfz232_0); (try clear hfz232_1); (try clear hfz233_0); (try clear hfz233_1); (try clear hfz234_0); (try clear hfz234_1); (try clear hfz235_0); (try clear hfz235_1)
                   obtain ⟨kq, HA, HJ158, BK108, BK112, BK118, BK122, BK126, BK146, BK150, BK154, BK158, BK162, BK166, HB⟩ := hcut
                   cases kq with
                   | zero => exact absurd HA.out (by simp [laws_FnPuzzlesSieved.j3])
                   | succ kj158 =>
                    have H := HA.out
                    clear HA
                    simp only [laws_FnPuzzlesSieved.j3] at H
                    by_cases c275 : t161 = true
                    ·subst c275
                     rw [if_pos rfl] at H
                     obtain ⟨ji276, hji276⟩ : ∃ j_ : Int, (wrap64 (t157 - 1)) = j_ := ⟨_, rfl⟩
                     replace H : (if 0 ≤ (ji276) then (if (ji276) < (t155.size : Int) then ((impl_ShowNumber.f kj158 t159 t160 t157 ((bt t155 (ji276)) == 111)).bind fun bt184 => (if bt184.2.2 = true then (if (!(bt184.1.toList == t155.toList) || (!(bt184.2.1 == t156))) = true then (some false) else (some true)) else (some false))) else (none)) else (none)) = some true := by first | (rw [hji276] at H; exact H) | (simp only [hji276] at H ⊢; exact H)
                     have hji276w : (IntKind.i64.wrap (t157 - 1)) = ji276 := (i64_w _).trans hji276
                     by_cases c277 : 0 ≤ (ji276)
                     ·rw [if_pos c277] at H
                      have c277b0 : decide (0 ≤ (ji276)) = true := decide_eq_true c277
                      clear c277
                      by_cases c278 : (ji276) < (t155.size : Int)
                      ·rw [if_pos c278] at H
                       have c278b0 : decide ((ji276) < (t155.size : Int)) = true := decide_eq_true c278
                       clear c278
                       obtain ⟨⟨t184, t185, t186⟩, A280, H⟩ := obnd_ H
                       (try dsimp only at H)
                       by_cases c281 : t186 = true
                       ·subst c281
                        rw [if_pos rfl] at H
                        by_cases c282 : (!(t184.toList == t155.toList) || (!(t185 == t156))) = true
                        ·rw [if_pos c282] at H
                         have c282b0 : (!(t184.toList == t155.toList) || (!(t185 == t156))) = true := c282
                         clear c282
                         exact absurd H (by simp)
                        ·rw [if_neg c282] at H
                         have c282b0 : (!(t184.toList == t155.toList) || (!(t185 == t156))) = false := by simpa using c282
                         clear c282
                         clear H
                         try go_wp2
                         have n0_ := Aside0.mk (blk_drew BK108.out)
                         have n1_ := Aside0.mk (blk_drew BK112.out)
                         have n2_ := Aside0.mk (blk_drew BK118.out)
                         have n3_ := Aside0.mk (blk_drew BK122.out)
                         have n4_ := Aside0.mk (blk_drew BK126.out)
                         have n5_ := Aside0.mk (blk_drew BK146.out)
                         have n6_ := Aside0.mk (blk_drew BK150.out)
                         have n7_ := Aside0.mk (blk_drew BK154.out)
                         have n8_ := Aside0.mk (blk_drew BK158.out)
                         have n9_ := Aside0.mk (blk_drew BK162.out)
                         have n10_ := Aside0.mk (blk_drew BK166.out)
                         have n11_ := Aside0.mk (below_drew1 HB.out)
                         clear BK108
                         clear BK112
                         clear BK118
                         clear BK122
                         clear BK126
                         clear BK146
                         clear BK150
                         clear BK154
                         clear BK158
                         clear BK162
                         clear BK166
                         clear HB
                         have BK108 := n0_
                         have BK112 := n1_
                         have BK118 := n2_
                         have BK122 := n3_
                         have BK126 := n4_
                         have BK146 := n5_
                         have BK150 := n6_
                         have BK154 := n7_
                         have BK158 := n8_
                         have BK162 := n9_
                         have BK166 := n10_
                         have HB := n11_
                         clear n0_ n1_ n2_ n3_ n4_ n5_ n6_ n7_ n8_ n9_ n10_ n11_
                         have p279 : 0 ≤ ((ji276) : Int) := of_decide_eq_true k97_
                         have q279 : (ji276) < (t155.size : Int) := of_decide_eq_true k97_
                         have hx279 := bt_at t155 (ji276)
                         replace p279 := eq_true p279
                         replace q279 := eq_true q279
                         refine start_ (n := 15) (S := fun w' => w'.cell? ⟨gb162, 0, none⟩ = some (.string t159) ∧ w'.cell? ⟨gb162, 1, none⟩ = some (.int .i64 t160) ∧ w'.cell? ⟨gb158, 0, none⟩ = some (.string t155) ∧ w'.cell? ⟨gb158, 1, none⟩ = some (.int .i64 t156)) (ds := []) #[false, false, false, false, false, false, false, false, false, false, false, false, false, false, false] (by kernel_rfl) rfl rfl ⟨(blk_cell BK162.out 0).trans rfl, (blk_cell BK162.out 1).trans rfl, (blk_cell BK158.out 0).trans rfl, (blk_cell BK158.out 1).trans rfl⟩ (fun hHeld => ?_); refine with_tabW laws_FnPuzzlesSieved.tab49 laws_FnPuzzlesSieved.bits49 (fun HT_ HW_ => ?_)
                         generalize wc.drew = w283 at BK108 BK112 BK118 BK122 BK126 BK146 BK150 BK154 BK158 BK162 BK166 HB hHeld ⊢
                         refine pure_ (i := 1) (N := some 343) (v := ?_) (a' := ?_) #[false, true, false, false, false, false, false, false, false, false, false, false, false, false, false] rfl rfl (any_of HT_.out (by kernel_rfl)) (fun _ _ _ h => h) (Or.inl ⟨by rfl, ?_⟩) ?_ ?_
                         rotate_left
                         ·intro w'
                          go_simp
                          with_reducible rfl
                         rotate_left
                         ·simp only [Act.put, List.setIfInBounds_toArray, List.set_cons_zero, List.set_cons_succ, i64_w, i32_w]
                          rfl
                         refine pure_ (i := 2) (N := some 344) (v := ?_) (a' := ?_) #[false, true, true, false, false, false, false, false, false, false, false, false, false, false, false] rfl rfl (any_of HT_.out (by kernel_rfl)) (fun _ _ _ h => h) (Or.inl ⟨by rfl, ?_⟩) ?_ ?_
                         rotate_left
                         ·intro w'
                          go_simp
                          with_reducible rfl
                         rotate_left
                         ·simp only [Act.put, List.setIfInBounds_toArray, List.set_cons_zero, List.set_cons_succ, i64_w, i32_w]
                          rfl
                         refine pure_ (i := 4) (N := some 346) (v := ?_) (a' := ?_) #[false, true, true, false, true, false, false, false, false, false, false, false, false, false, false] rfl rfl (any_of HT_.out (by kernel_rfl)) (fun _ _ _ h => h) (Or.inl ⟨by rfl, ?_⟩) ?_ ?_
                         rotate_left
                         ·intro w'
                          go_simp
                          with_reducible rfl
                         rotate_left
                         ·simp only [Act.put, List.setIfInBounds_toArray, List.set_cons_zero, List.set_cons_succ, i64_w, i32_w]
                          rfl
                         refine pure_ (i := 5) (N := some 347) (v := ?_) (a' := ?_) #[false, true, true, false, true, true, false, false, false, false, false, false, false, false, false] rfl rfl (any_of HT_.out (by kernel_rfl)) (fun _ _ _ h => h) (Or.inl ⟨by rfl, ?_⟩) ?_ ?_
                         rotate_left
                         ·intro w'
                          go_simp
                          with_reducible rfl
                         rotate_left
                         ·simp only [Act.put, List.setIfInBounds_toArray, List.set_cons_zero, List.set_cons_succ, i64_w, i32_w]
                          rfl
                         refine take_ (i := 0) (N := some 342) (v := ?_) (a' := ?_) #[true, true, true, false, true, true, false, false, false, false, false, false, false, false, false] rfl rfl (take_ofW HT_.out HW_.out (by kernel_rfl)) (fun _ _ _ h => h) (Or.inl ⟨by rfl, ?_⟩) hHeld ?_ ?_
                         rotate_left
                         ·rintro w' ⟨s0, s1, s2, s3⟩
                          go_simp
                          with_reducible rfl
                         rotate_left
                         ·simp only [Act.put, List.setIfInBounds_toArray, List.set_cons_zero, List.set_cons_succ, i64_w, i32_w]
                          rfl
                         refine take_ (i := 3) (N := some 345) (v := ?_) (a' := ?_) #[true, true, true, true, true, true, false, false, false, false, false, false, false, false, false] rfl rfl (take_ofW HT_.out HW_.out (by kernel_rfl)) (fun _ _ _ h => h) (Or.inl ⟨by rfl, ?_⟩) hHeld ?_ ?_
                         rotate_left
                         ·rintro w' ⟨s0, s1, s2, s3⟩
                          go_simp
                          with_reducible rfl
                         rotate_left
                         ·simp only [Act.put, List.setIfInBounds_toArray, List.set_cons_zero, List.set_cons_succ, i64_w, i32_w]
                          rfl
                         refine take_ (i := 6) (N := some 348) (v := ?_) (a' := ?_) #[true, true, true, true, true, true, true, false, false, false, false, false, false, false, false] rfl rfl (take_ofW HT_.out HW_.out (by kernel_rfl)) (fun _ _ _ h => h) (Or.inl ⟨by rfl, ?_⟩) hHeld ?_ ?_
                         rotate_left
                         ·rintro w' ⟨s0, s1, s2, s3⟩
                          go_simp
                          with_reducible rfl
                         rotate_left
                         ·simp only [Act.put, List.setIfInBounds_toArray, List.set_cons_zero, List.set_cons_succ, i64_w, i32_w]
                          rfl
                         refine pure_ (i := 7) (N := some 349) (v := ?_) (a' := ?_) #[true, true, true, true, true, true, true, true, false, false, false, false, false, false, false] rfl rfl (any_of HT_.out (by kernel_rfl)) (fun _ _ _ h => h) (Or.inl ⟨by rfl, ?_⟩) ?_ ?_
                         rotate_left
                         ·intro w'
                          go_simp
                          with_reducible rfl
                         rotate_left
                         ·simp only [Act.put, List.setIfInBounds_toArray, List.set_cons_zero, List.set_cons_succ, i64_w, i32_w]
                          rfl
                         refine join_ (σ := Nat) 2 #[true, true, true, true, true, true, true, true, true, true, true, true, true, false, false] (fun s_ => [(350, .tuple #[.agg #[.string t184, .int .i64 t185], .bool true]), (54, .pointer (some ⟨s_, 0, none⟩)), (341, .tuple #[.agg #[.string t184, .int .i64 t185], .bool true]), (351, .agg #[.string t184, .int .i64 t185]), (352, .bool true)]) (fun s_ w' => (w'.cell? ⟨gb162, 0, none⟩ = some (.string t159) ∧ w'.cell? ⟨gb162, 1, none⟩ = some (.int .i64 t160) ∧ w'.cell? ⟨gb158, 0, none⟩ = some (.string t155) ∧ w'.cell? ⟨gb158, 1, none⟩ = some (.int .i64 t156)) ∧ (w'.heap[gb108]? = some (.cells #[.string t105, .int .i64 t106] 27 (0, 0))) ∧ (w'.heap[gb112]? = some (.cells #[.string t109, .int .i64 t110] 27 (0, 0))) ∧ (w'.heap[gb118]? = some (.cells #[.string t116, .int .i64 t117] 27 (0, 0))) ∧ (w'.heap[gb122]? = some (.cells #[.string t119, .int .i64 t120] 27 (0, 0))) ∧ (w'.heap[gb126]? = some (.cells #[.string t123, .int .i64 t124] 27 (0, 0))) ∧ (w'.heap[gb146]? = some (.cells #[.string t142, .int .i64 t143] 27 (0, 0))) ∧ (w'.heap[gb150]? = some (.cells #[.string t147, .int .i64 t148] 27 (0, 0))) ∧ (w'.heap[gb154]? = some (.cells #[.string t151, .int .i64 t152] 27 (0, 0))) ∧ (w'.heap[gb158]? = some (.cells #[.string t155, .int .i64 t156] 27 (0, 0))) ∧ (w'.heap[gb162]? = some (.cells #[.string t159, .int .i64 t160] 27 (0, 0))) ∧ (w'.heap[gb166]? = some (.cells #[.string t163, .int .i64 t164] 27 (0, 0))) ∧ (w'.heap[s_]? = some (.cells #[.string (⟨#[]⟩ : ByteArray), .int .i64 0] 27 (0, 0))) ∧ (w.heap.size ≤ s_) ∧ (w.heap.size ≤ s_) ∧ (gb108 ≠ s_) ∧ (s_ ≠ gb108) ∧ (gb112 ≠ s_) ∧ (s_ ≠ gb112) ∧ (gb118 ≠ s_) ∧ (s_ ≠ gb118) ∧ (gb122 ≠ s_) ∧ (s_ ≠ gb122) ∧ (gb126 ≠ s_) ∧ (s_ ≠ gb126) ∧ (gb146 ≠ s_) ∧ (s_ ≠ gb146) ∧ (gb150 ≠ s_) ∧ (s_ ≠ gb150) ∧ (gb154 ≠ s_) ∧ (s_ ≠ gb154) ∧ (gb158 ≠ s_) ∧ (s_ ≠ gb158) ∧ (gb162 ≠ s_) ∧ (s_ ≠ gb162) ∧ (gb166 ≠ s_) ∧ (s_ ≠ gb166) ∧ (Below w.heap.size w w')) ?_ ?_
                         rotate_left
                         ·intro hCont
                          refine two_ (i := 8) (j := 12) (Ni := some 350) (Nj := some 54) #[true, true, true, true, true, true, true, true, true, false, false, false, false, false, false] #[true, true, true, true, true, true, true, true, false, false, false, false, true, false, false] rfl rfl rfl rfl (two_of HT_.out (by kernel_rfl)) (by decide) (by decide) (fun K hK => ?_) (fun K hK => ?_)
                          ·skip
                           refine goes_ Tryd.func18 (by kernel_rfl) rfl #[.agg #[.string t159, .int .i64 t160], .int .i64 t157, .bool ((bt t155 (ji276)) == 111)] (by rfl) rfl rfl (by (try simp only [List.map_toArray, List.map_cons, List.map_nil]); first | done | (simp only [hji276]; rfl) | rfl | (simp only [List.length_drop, List.length_take]; rfl)) ?_
                           with_reducible refine (impl_ShowNumber.calls kj158 t159 t160 t157 ((bt t155 (ji276)) == 111) t184 t185 true _ A280.out).mono ?_
                           rintro e w284 ⟨rfl, hb⟩
                           refine ⟨_, rfl, ?_⟩
                           have n0_ := Aside0.mk (BK108.mv hb)
                           have n1_ := Aside0.mk (BK112.mv hb)
                           have n2_ := Aside0.mk (BK118.mv hb)
                           have n3_ := Aside0.mk (BK122.mv hb)
                           have n4_ := Aside0.mk (BK126.mv hb)
                           have n5_ := Aside0.mk (BK146.mv hb)
                           have n6_ := Aside0.mk (BK150.mv hb)
                           have n7_ := Aside0.mk (BK154.mv hb)
                           have n8_ := Aside0.mk (BK158.mv hb)
                           have n9_ := Aside0.mk (BK162.mv hb)
                           have n10_ := Aside0.mk (BK166.mv hb)
                           have n11_ := Aside0.mk (below_step k50_ hb)
                           clear BK108
                           clear BK112
                           clear BK118
                           clear BK122
                           clear BK126
                           clear BK146
                           clear BK150
                           clear BK154
                           clear BK158
                           clear BK162
                           clear BK166
                           clear HB
                           have BK108 := n0_
                           have BK112 := n1_
                           have BK118 := n2_
                           have BK122 := n3_
                           have BK126 := n4_
                           have BK146 := n5_
                           have BK150 := n6_
                           have BK154 := n7_
                           have BK158 := n8_
                           have BK162 := n9_
                           have BK166 := n10_
                           have HB := n11_
                           clear n0_ n1_ n2_ n3_ n4_ n5_ n6_ n7_ n8_ n9_ n10_ n11_
                           (try clear hb)
                           (try clear hb2)
                           (try clear hk)
                           (try clear hi)
                           refine hK.out _ _ ⟨(blk_cell BK162.out 0).trans rfl, (blk_cell BK162.out 1).trans rfl, (blk_cell BK158.out 0).trans rfl, (blk_cell BK158.out 1).trans rfl⟩ (fun hHeld => ?_)
                           clear hK K
                           refine norm_ (a' := ?_) ?_ ?_
                           rotate_left
                           ·show Act.put _ (some 350) _ = _
                            simp only [Act.put, List.setIfInBounds_toArray, List.set_cons_zero, List.set_cons_succ, i64_w, i32_w]
                            rfl
                           refine pure_ (i := 9) (N := some 341) (v := ?_) (a' := ?_) #[true, true, true, true, true, true, true, true, true, true, false, false, false, false, false] rfl rfl (any_of HT_.out (by kernel_rfl)) (fun _ _ _ h => h) (Or.inl ⟨by rfl, ?_⟩) ?_ ?_
                           rotate_left
                           ·intro w'
                            go_simp
                            with_reducible rfl
                           rotate_left
                           ·simp only [Act.put, List.setIfInBounds_toArray, List.set_cons_zero, List.set_cons_succ, i64_w, i32_w]
                            rfl
                           refine pure_ (i := 10) (N := some 351) (v := ?_) (a' := ?_) #[true, true, true, true, true, true, true, true, true, true, true, false, false, false, false] rfl rfl (any_of HT_.out (by kernel_rfl)) (fun _ _ _ h => h) (Or.inl ⟨by rfl, ?_⟩) ?_ ?_
                           rotate_left
                           ·intro w'
                            go_simp
                            with_reducible rfl
                           rotate_left
                           ·simp only [Act.put, List.setIfInBounds_toArray, List.set_cons_zero, List.set_cons_succ, i64_w, i32_w]
                            rfl
                           refine pure_ (i := 11) (N := some 352) (v := ?_) (a' := ?_) #[true, true, true, true, true, true, true, true, true, true, true, true, false, false, false] rfl rfl (any_of HT_.out (by kernel_rfl)) (fun _ _ _ h => h) (Or.inl ⟨by rfl, ?_⟩) ?_ ?_
                           rotate_left
                           ·intro w'
                            go_simp
                            with_reducible rfl
                           rotate_left
                           ·simp only [Act.put, List.setIfInBounds_toArray, List.set_cons_zero, List.set_cons_succ, i64_w, i32_w]
                            rfl
                           refine one_ (i := 12) (N := some 54) #[true, true, true, true, true, true, true, true, true, true, true, true, true, false, false] rfl rfl (one_of HT_.out (by kernel_rfl)) (by decide) (fun K hK => ?_)
                           refine box_step ?hg (N := 54) ?hd (cs := #[.string (⟨#[]⟩ : ByteArray), .int .i64 0]) (t := 27) ?hr ?_; (case hd => rfl); (case hg => rfl); (case hr => exact k99_)
                           intro gb187 hg w285 hbox hb
                           have n0_ := Aside0.mk (BK108.mv hb)
                           have n1_ := Aside0.mk (BK112.mv hb)
                           have n2_ := Aside0.mk (BK118.mv hb)
                           have n3_ := Aside0.mk (BK122.mv hb)
                           have n4_ := Aside0.mk (BK126.mv hb)
                           have n5_ := Aside0.mk (BK146.mv hb)
                           have n6_ := Aside0.mk (BK150.mv hb)
                           have n7_ := Aside0.mk (BK154.mv hb)
                           have n8_ := Aside0.mk (BK158.mv hb)
                           have n9_ := Aside0.mk (BK162.mv hb)
                           have n10_ := Aside0.mk (BK166.mv hb)
                           have n11_ := Aside0.mk (below_step k50_ hb)
                           have n12_ := Aside0.mk (hbox)
                           have n13_ := Aside0.mk ((by rw [hg]; exact (below_size k50_) : w.heap.size ≤ gb187))
                           have n14_ := Aside0.mk ((by rw [hg]; exact (below_size k50_) : w.heap.size ≤ gb187))
                           have n15_ := Aside0.mk (BK108.ne hg)
                           have n16_ := Aside0.mk (BK108.ne hg).symm
                           have n17_ := Aside0.mk (BK112.ne hg)
                           have n18_ := Aside0.mk (BK112.ne hg).symm
                           have n19_ := Aside0.mk (BK118.ne hg)
                           have n20_ := Aside0.mk (BK118.ne hg).symm
                           have n21_ := Aside0.mk (BK122.ne hg)
                           have n22_ := Aside0.mk (BK122.ne hg).symm
                           have n23_ := Aside0.mk (BK126.ne hg)
                           have n24_ := Aside0.mk (BK126.ne hg).symm
                           have n25_ := Aside0.mk (BK146.ne hg)
                           have n26_ := Aside0.mk (BK146.ne hg).symm
                           have n27_ := Aside0.mk (BK150.ne hg)
                           have n28_ := Aside0.mk (BK150.ne hg).symm
                           have n29_ := Aside0.mk (BK154.ne hg)
                           have n30_ := Aside0.mk (BK154.ne hg).symm
                           have n31_ := Aside0.mk (BK158.ne hg)
                           have n32_ := Aside0.mk (BK158.ne hg).symm
                           have n33_ := Aside0.mk (BK162.ne hg)
                           have n34_ := Aside0.mk (BK162.ne hg).symm
                           have n35_ := Aside0.mk (BK166.ne hg)
                           have n36_ := Aside0.mk (BK166.ne hg).symm
                           clear BK108
                           clear BK112
                           clear BK118
                           clear BK122
                           clear BK126
                           clear BK146
                           clear BK150
                           clear BK154
                           clear BK158
                           clear BK162
                           clear BK166
                           clear HB
                           have BK108 := n0_
                           have BK112 := n1_
                           have BK118 := n2_
                           have BK122 := n3_
                           have BK126 := n4_
                           have BK146 := n5_
                           have BK150 := n6_
                           have BK154 := n7_
                           have BK158 := n8_
                           have BK162 := n9_
                           have BK166 := n10_
                           have HB := n11_
                           have BK187 := n12_
                           have GW187 := n13_
                           have GE187 := n14_
                           have NB108_187 := n15_
                           have NB187_108 := n16_
                           have NB112_187 := n17_
                           have NB187_112 := n18_
                           have NB118_187 := n19_
                           have NB187_118 := n20_
                           have NB122_187 := n21_
                           have NB187_122 := n22_
                           have NB126_187 := n23_
                           have NB187_126 := n24_
                           have NB146_187 := n25_
                           have NB187_146 := n26_
                           have NB150_187 := n27_
                           have NB187_150 := n28_
                           have NB154_187 := n29_
                           have NB187_154 := n30_
                           have NB158_187 := n31_
                           have NB187_158 := n32_
                           have NB162_187 := n33_
                           have NB187_162 := n34_
                           have NB166_187 := n35_
                           have NB187_166 := n36_
                           clear n0_ n1_ n2_ n3_ n4_ n5_ n6_ n7_ n8_ n9_ n10_ n11_ n12_ n13_ n14_ n15_ n16_ n17_ n18_ n19_ n20_ n21_ n22_ n23_ n24_ n25_ n26_ n27_ n28_ n29_ n30_ n31_ n32_ n33_ n34_ n35_ n36_
                           clear hb hbox hg
                           refine hK.out _ _ ⟨(blk_cell BK162.out 0).trans rfl, (blk_cell BK162.out 1).trans rfl, (blk_cell BK158.out 0).trans rfl, (blk_cell BK158.out 1).trans rfl⟩ (fun hHeld => ?_)
                           clear hK K
                           refine norm_ (a' := ?_) ?_ ?_
                           rotate_left
                           ·show Act.put _ (some 54) _ = _
                            simp only [Act.put, List.setIfInBounds_toArray, List.set_cons_zero, List.set_cons_succ, i64_w, i32_w]
                            rfl
                           exact norm_ k80_ (hCont (gb187) _ ⟨hHeld, k94_, k92_, k88_, k89_, k95_, (by apply_rules only [BK146.out, blk_drewN, blk_drew, blk_alloc]), (by apply_rules only [BK150.out, blk_drewN, blk_drew, blk_alloc]), (by apply_rules only [BK154.out, blk_drewN, blk_drew, blk_alloc]), (by apply_rules only [BK158.out, blk_drewN, blk_drew, blk_alloc]), (by apply_rules only [BK162.out, blk_drewN, blk_drew, blk_alloc]), (by apply_rules only [BK166.out, blk_drewN, blk_drew, blk_alloc]), (by apply_rules only [BK187.out, blk_drewN, blk_drew, blk_alloc]), GW187.out, GE187.out, NB108_187.out, NB187_108.out, NB112_187.out, NB187_112.out, NB118_187.out, NB187_118.out, NB122_187.out, NB187_122.out, NB126_187.out, NB187_126.out, NB146_187.out, NB187_146.out, NB150_187.out, NB187_150.out, NB154_187.out, NB187_154.out, NB158_187.out, NB187_158.out, NB162_187.out, NB187_162.out, NB166_187.out, NB187_166.out, k47_⟩)
                          ·skip
                           refine box_step ?hg (N := 54) ?hd (cs := #[.string (⟨#[]⟩ : ByteArray), .int .i64 0]) (t := 27) ?hr ?_; (case hd => rfl); (case hg => rfl); (case hr => exact k99_)
                           intro gb187 hg w284 hbox hb
                           have n0_ := Aside0.mk (BK108.mv hb)
                           have n1_ := Aside0.mk (BK112.mv hb)
                           have n2_ := Aside0.mk (BK118.mv hb)
                           have n3_ := Aside0.mk (BK122.mv hb)
                           have n4_ := Aside0.mk (BK126.mv hb)
                           have n5_ := Aside0.mk (BK146.mv hb)
                           have n6_ := Aside0.mk (BK150.mv hb)
                           have n7_ := Aside0.mk (BK154.mv hb)
                           have n8_ := Aside0.mk (BK158.mv hb)
                           have n9_ := Aside0.mk (BK162.mv hb)
                           have n10_ := Aside0.mk (BK166.mv hb)
                           have n11_ := Aside0.mk (below_step k50_ hb)
                           have n12_ := Aside0.mk (hbox)
                           have n13_ := Aside0.mk ((by rw [hg]; exact (below_size k50_) : w.heap.size ≤ gb187))
                           have n14_ := Aside0.mk ((by rw [hg]; exact (below_size k50_) : w.heap.size ≤ gb187))
                           have n15_ := Aside0.mk (BK108.ne hg)
                           have n16_ := Aside0.mk (BK108.ne hg).symm
                           have n17_ := Aside0.mk (BK112.ne hg)
                           have n18_ := Aside0.mk (BK112.ne hg).symm
                           have n19_ := Aside0.mk (BK118.ne hg)
                           have n20_ := Aside0.mk (BK118.ne hg).symm
                           have n21_ := Aside0.mk (BK122.ne hg)
                           have n22_ := Aside0.mk (BK122.ne hg).symm
                           have n23_ := Aside0.mk (BK126.ne hg)
                           have n24_ := Aside0.mk (BK126.ne hg).symm
                           have n25_ := Aside0.mk (BK146.ne hg)
                           have n26_ := Aside0.mk (BK146.ne hg).symm
                           have n27_ := Aside0.mk (BK150.ne hg)
                           have n28_ := Aside0.mk (BK150.ne hg).symm
                           have n29_ := Aside0.mk (BK154.ne hg)
                           have n30_ := Aside0.mk (BK154.ne hg).symm
                           have n31_ := Aside0.mk (BK158.ne hg)
                           have n32_ := Aside0.mk (BK158.ne hg).symm
                           have n33_ := Aside0.mk (BK162.ne hg)
                           have n34_ := Aside0.mk (BK162.ne hg).symm
                           have n35_ := Aside0.mk (BK166.ne hg)
                           have n36_ := Aside0.mk (BK166.ne hg).symm
                           clear BK108
                           clear BK112
                           clear BK118
                           clear BK122
                           clear BK126
                           clear BK146
                           clear BK150
                           clear BK154
                           clear BK158
                           clear BK162
                           clear BK166
                           clear HB
                           have BK108 := n0_
                           have BK112 := n1_
                           have BK118 := n2_
                           have BK122 := n3_
                           have BK126 := n4_
                           have BK146 := n5_
                           have BK150 := n6_
                           have BK154 := n7_
                           have BK158 := n8_
                           have BK162 := n9_
                           have BK166 := n10_
                           have HB := n11_
                           have BK187 := n12_
                           have GW187 := n13_
                           have GE187 := n14_
                           have NB108_187 := n15_
                           have NB187_108 := n16_
                           have NB112_187 := n17_
                           have NB187_112 := n18_
                           have NB118_187 := n19_
                           have NB187_118 := n20_
                           have NB122_187 := n21_
                           have NB187_122 := n22_
                           have NB126_187 := n23_
                           have NB187_126 := n24_
                           have NB146_187 := n25_
                           have NB187_146 := n26_
                           have NB150_187 := n27_
                           have NB187_150 := n28_
                           have NB154_187 := n29_
                           have NB187_154 := n30_
                           have NB158_187 := n31_
                           have NB187_158 := n32_
                           have NB162_187 := n33_
                           have NB187_162 := n34_
                           have NB166_187 := n35_
                           have NB187_166 := n36_
                           clear n0_ n1_ n2_ n3_ n4_ n5_ n6_ n7_ n8_ n9_ n10_ n11_ n12_ n13_ n14_ n15_ n16_ n17_ n18_ n19_ n20_ n21_ n22_ n23_ n24_ n25_ n26_ n27_ n28_ n29_ n30_ n31_ n32_ n33_ n34_ n35_ n36_
                           clear hb hbox hg
                           refine hK.out _ _ ⟨(blk_cell BK162.out 0).trans rfl, (blk_cell BK162.out 1).trans rfl, (blk_cell BK158.out 0).trans rfl, (blk_cell BK158.out 1).trans rfl⟩ (fun hHeld => ?_)
                           clear hK K
                           refine norm_ (a' := ?_) ?_ ?_
                           rotate_left
                           ·show Act.put _ (some 54) _ = _
                            simp only [Act.put, List.setIfInBounds_toArray, List.set_cons_zero, List.set_cons_succ, i64_w, i32_w]
                            rfl
                           refine one_ (i := 8) (N := some 350) #[true, true, true, true, true, true, true, true, true, false, false, false, true, false, false] rfl rfl (one_of HT_.out (by kernel_rfl)) (by decide) (fun K hK => ?_)
                           refine goes_ Tryd.func18 (by kernel_rfl) rfl #[.agg #[.string t159, .int .i64 t160], .int .i64 t157, .bool ((bt t155 (ji276)) == 111)] (by rfl) rfl rfl (by (try simp only [List.map_toArray, List.map_cons, List.map_nil]); first | done | (simp only [hji276]; rfl) | rfl | (simp only [List.length_drop, List.length_take]; rfl)) ?_
                           with_reducible refine (impl_ShowNumber.calls kj158 t159 t160 t157 ((bt t155 (ji276)) == 111) t184 t185 true _ A280.out).mono ?_
                           rintro e w285 ⟨rfl, hb⟩
                           refine ⟨_, rfl, ?_⟩
                           have n0_ := Aside0.mk (BK108.mv hb)
                           have n1_ := Aside0.mk (BK112.mv hb)
                           have n2_ := Aside0.mk (BK118.mv hb)
                           have n3_ := Aside0.mk (BK122.mv hb)
                           have n4_ := Aside0.mk (BK126.mv hb)
                           have n5_ := Aside0.mk (BK146.mv hb)
                           have n6_ := Aside0.mk (BK150.mv hb)
                           have n7_ := Aside0.mk (BK154.mv hb)
                           have n8_ := Aside0.mk (BK158.mv hb)
                           have n9_ := Aside0.mk (BK162.mv hb)
                           have n10_ := Aside0.mk (BK166.mv hb)
                           have n11_ := Aside0.mk (blk_below (by apply_rules only [BK187.out, blk_drewN, blk_drew, blk_alloc]) hb)
                           have n12_ := Aside0.mk (below_step k47_ hb)
                           clear BK108
                           clear BK112
                           clear BK118
                           clear BK122
                           clear BK126
                           clear BK146
                           clear BK150
                           clear BK154
                           clear BK158
                           clear BK162
                           clear BK166
                           clear BK187
                           clear HB
                           have BK108 := n0_
                           have BK112 := n1_
                           have BK118 := n2_
                           have BK122 := n3_
                           have BK126 := n4_
                           have BK146 := n5_
                           have BK150 := n6_
                           have BK154 := n7_
                           have BK158 := n8_
                           have BK162 := n9_
                           have BK166 := n10_
                           have BK187 := n11_
                           have HB := n12_
                           clear n0_ n1_ n2_ n3_ n4_ n5_ n6_ n7_ n8_ n9_ n10_ n11_ n12_
                           (try clear hb)
                           (try clear hb2)
                           (try clear hk)
                           (try clear hi)
                           refine hK.out _ _ ⟨(blk_cell BK162.out 0).trans rfl, (blk_cell BK162.out 1).trans rfl, (blk_cell BK158.out 0).trans rfl, (blk_cell BK158.out 1).trans rfl⟩ (fun hHeld => ?_)
                           clear hK K
                           refine norm_ (a' := ?_) ?_ ?_
                           rotate_left
                           ·show Act.put _ (some 350) _ = _
                            simp only [Act.put, List.setIfInBounds_toArray, List.set_cons_zero, List.set_cons_succ, i64_w, i32_w]
                            rfl
                           refine pure_ (i := 9) (N := some 341) (v := ?_) (a' := ?_) #[true, true, true, true, true, true, true, true, true, true, false, false, true, false, false] rfl rfl (any_of HT_.out (by kernel_rfl)) (fun _ _ _ h => h) (Or.inl ⟨by rfl, ?_⟩) ?_ ?_
                           rotate_left
                           ·intro w'
                            go_simp
                            with_reducible rfl
                           rotate_left
                           ·simp only [Act.put, List.setIfInBounds_toArray, List.set_cons_zero, List.set_cons_succ, i64_w, i32_w]
                            rfl
                           refine pure_ (i := 10) (N := some 351) (v := ?_) (a' := ?_) #[true, true, true, true, true, true, true, true, true, true, true, false, true, false, false] rfl rfl (any_of HT_.out (by kernel_rfl)) (fun _ _ _ h => h) (Or.inl ⟨by rfl, ?_⟩) ?_ ?_
                           rotate_left
                           ·intro w'
                            go_simp
                            with_reducible rfl
                           rotate_left
                           ·simp only [Act.put, List.setIfInBounds_toArray, List.set_cons_zero, List.set_cons_succ, i64_w, i32_w]
                            rfl
                           refine pure_ (i := 11) (N := some 352) (v := ?_) (a' := ?_) #[true, true, true, true, true, true, true, true, true, true, true, true, true, false, false] rfl rfl (any_of HT_.out (by kernel_rfl)) (fun _ _ _ h => h) (Or.inl ⟨by rfl, ?_⟩) ?_ ?_
                           rotate_left
                           ·intro w'
                            go_simp
                            with_reducible rfl
                           rotate_left
                           ·simp only [Act.put, List.setIfInBounds_toArray, List.set_cons_zero, List.set_cons_succ, i64_w, i32_w]
                            rfl
                           exact norm_ k80_ (hCont (gb187) _ ⟨hHeld, k94_, k92_, k88_, k89_, k95_, (by apply_rules only [BK146.out, blk_drewN, blk_drew, blk_alloc]), (by apply_rules only [BK150.out, blk_drewN, blk_drew, blk_alloc]), (by apply_rules only [BK154.out, blk_drewN, blk_drew, blk_alloc]), (by apply_rules only [BK158.out, blk_drewN, blk_drew, blk_alloc]), (by apply_rules only [BK162.out, blk_drewN, blk_drew, blk_alloc]), (by apply_rules only [BK166.out, blk_drewN, blk_drew, blk_alloc]), (by apply_rules only [BK187.out, blk_drewN, blk_drew, blk_alloc]), GW187.out, GE187.out, NB108_187.out, NB187_108.out, NB112_187.out, NB187_112.out, NB118_187.out, NB187_118.out, NB122_187.out, NB187_122.out, NB126_187.out, NB187_126.out, NB146_187.out, NB187_146.out, NB150_187.out, NB187_150.out, NB154_187.out, NB187_154.out, NB158_187.out, NB187_158.out, NB162_187.out, NB187_162.out, NB166_187.out, NB187_166.out, k47_⟩)
                         rintro gb187 w286 ⟨hS_, h0_, h1_, h2_, h3_, h4_, h5_, h6_, h7_, h8_, h9_, h10_, h11_, h12_, h13_, h14_, h15_, h16_, h17_, h18_, h19_, h20_, h21_, h22_, h23_, h24_, h25_, h26_, h27_, h28_, h29_, h30_, h31_, h32_, h33_, h34_, h35_, h36_⟩
                         have n0_ : Aside0 (w286.heap[gb108]? = some (.cells #[.string t105, .int .i64 t106] 27 (0, 0))) := ⟨h0_⟩
                         have n1_ : Aside0 (w286.heap[gb112]? = some (.cells #[.string t109, .int .i64 t110] 27 (0, 0))) := ⟨h1_⟩
                         have n2_ : Aside0 (w286.heap[gb118]? = some (.cells #[.string t116, .int .i64 t117] 27 (0, 0))) := ⟨h2_⟩
                         have n3_ : Aside0 (w286.heap[gb122]? = some (.cells #[.string t119, .int .i64 t120] 27 (0, 0))) := ⟨h3_⟩
                         have n4_ : Aside0 (w286.heap[gb126]? = some (.cells #[.string t123, .int .i64 t124] 27 (0, 0))) := ⟨h4_⟩
                         have n5_ : Aside0 (w286.heap[gb146]? = some (.cells #[.string t142, .int .i64 t143] 27 (0, 0))) := ⟨h5_⟩
                         have n6_ : Aside0 (w286.heap[gb150]? = some (.cells #[.string t147, .int .i64 t148] 27 (0, 0))) := ⟨h6_⟩
                         have n7_ : Aside0 (w286.heap[gb154]? = some (.cells #[.string t151, .int .i64 t152] 27 (0, 0))) := ⟨h7_⟩
                         have n8_ : Aside0 (w286.heap[gb158]? = some (.cells #[.string t155, .int .i64 t156] 27 (0, 0))) := ⟨h8_⟩
                         have n9_ : Aside0 (w286.heap[gb162]? = some (.cells #[.string t159, .int .i64 t160] 27 (0, 0))) := ⟨h9_⟩
                         have n10_ : Aside0 (w286.heap[gb166]? = some (.cells #[.string t163, .int .i64 t164] 27 (0, 0))) := ⟨h10_⟩
                         have n11_ : Aside0 (w286.heap[gb187]? = some (.cells #[.string (⟨#[]⟩ : ByteArray), .int .i64 0] 27 (0, 0))) := ⟨h11_⟩
                         have n12_ : Aside0 (w.heap.size ≤ gb187) := ⟨h12_⟩
                         have n13_ : Aside0 (w.heap.size ≤ gb187) := ⟨h13_⟩
                         have n14_ : Aside0 (gb108 ≠ gb187) := ⟨h14_⟩
                         have n15_ : Aside0 (gb187 ≠ gb108) := ⟨h15_⟩
                         have n16_ : Aside0 (gb112 ≠ gb187) := ⟨h16_⟩
                         have n17_ : Aside0 (gb187 ≠ gb112) := ⟨h17_⟩
                         have n18_ : Aside0 (gb118 ≠ gb187) := ⟨h18_⟩
                         have n19_ : Aside0 (gb187 ≠ gb118) := ⟨h19_⟩
                         have n20_ : Aside0 (gb122 ≠ gb187) := ⟨h20_⟩
                         have n21_ : Aside0 (gb187 ≠ gb122) := ⟨h21_⟩
                         have n22_ : Aside0 (gb126 ≠ gb187) := ⟨h22_⟩
                         have n23_ : Aside0 (gb187 ≠ gb126) := ⟨h23_⟩
                         have n24_ : Aside0 (gb146 ≠ gb187) := ⟨h24_⟩
                         have n25_ : Aside0 (gb187 ≠ gb146) := ⟨h25_⟩
                         have n26_ : Aside0 (gb150 ≠ gb187) := ⟨h26_⟩
                         have n27_ : Aside0 (gb187 ≠ gb150) := ⟨h27_⟩
                         have n28_ : Aside0 (gb154 ≠ gb187) := ⟨h28_⟩
                         have n29_ : Aside0 (gb187 ≠ gb154) := ⟨h29_⟩
                         have n30_ : Aside0 (gb158 ≠ gb187) := ⟨h30_⟩
                         have n31_ : Aside0 (gb187 ≠ gb158) := ⟨h31_⟩
                         have n32_ : Aside0 (gb162 ≠ gb187) := ⟨h32_⟩
                         have n33_ : Aside0 (gb187 ≠ gb162) := ⟨h33_⟩
                         have n34_ : Aside0 (gb166 ≠ gb187) := ⟨h34_⟩
                         have n35_ : Aside0 (gb187 ≠ gb166) := ⟨h35_⟩
                         have n36_ : Aside0 (Below w.heap.size w w286) := ⟨h36_⟩
                         clear BK108
                         clear BK112
                         clear BK118
                         clear BK122
                         clear BK126
                         clear BK146
                         clear BK150
                         clear BK154
                         clear BK158
                         clear BK162
                         clear BK166
                         clear HB
                         clear h0_ h1_ h2_ h3_ h4_ h5_ h6_ h7_ h8_ h9_ h10_ h11_ h12_ h13_ h14_ h15_ h16_ h17_ h18_ h19_ h20_ h21_ h22_ h23_ h24_ h25_ h26_ h27_ h28_ h29_ h30_ h31_ h32_ h33_ h34_ h35_ h36_
                         have BK108 := n0_
                         have BK112 := n1_
                         have BK118 := n2_
                         have BK122 := n3_
                         have BK126 := n4_
                         have BK146 := n5_
                         have BK150 := n6_
                         have BK154 := n7_
                         have BK158 := n8_
                         have BK162 := n9_
                         have BK166 := n10_
                         have BK187 := n11_
                         have GW187 := n12_
                         have GE187 := n13_
                         have NB108_187 := n14_
                         have NB187_108 := n15_
                         have NB112_187 := n16_
                         have NB187_112 := n17_
                         have NB118_187 := n18_
                         have NB187_118 := n19_
                         have NB122_187 := n20_
                         have NB187_122 := n21_
                         have NB126_187 := n22_
                         have NB187_126 := n23_
                         have NB146_187 := n24_
                         have NB187_146 := n25_
                         have NB150_187 := n26_
                         have NB187_150 := n27_
                         have NB154_187 := n28_
                         have NB187_154 := n29_
                         have NB158_187 := n30_
                         have NB187_158 := n31_
                         have NB162_187 := n32_
                         have NB187_162 := n33_
                         have NB166_187 := n34_
                         have NB187_166 := n35_
                         have HB := n36_
                         clear n0_ n1_ n2_ n3_ n4_ n5_ n6_ n7_ n8_ n9_ n10_ n11_ n12_ n13_ n14_ n15_ n16_ n17_ n18_ n19_ n20_ n21_ n22_ n23_ n24_ n25_ n26_ n27_ n28_ n29_ n30_ n31_ n32_ n33_ n34_ n35_ n36_
                         have hHeld : w286.cell? ⟨gb162, 0, none⟩ = some (.string t159) ∧ w286.cell? ⟨gb162, 1, none⟩ = some (.int .i64 t160) ∧ w286.cell? ⟨gb158, 0, none⟩ = some (.string t155) ∧ w286.cell? ⟨gb158, 1, none⟩ = some (.int .i64 t156) := hS_
                         refine norm_ (a' := ?_) ?_ ?_
                         rotate_left
                         ·simp only [putAll, Act.put, List.setIfInBounds_toArray, List.set_cons_zero, List.set_cons_succ]
                          rfl
                         refine one_ (i := 13) (N := none) #[true, true, true, true, true, true, true, true, true, true, true, true, true, true, false] rfl rfl (one_of HT_.out (by kernel_rfl)) (by decide) (fun K hK => ?_)
                         have hs287 : w286.cell? ⟨gb187, 0, none⟩ = some (.string (⟨#[]⟩ : ByteArray)) := (blk_cell BK187.out 0).trans rfl
                         have hfs287 := blk_frozen BK187.out 0
                         have hns287_0 := NB108_187.out
                         have hns287_1 := NB112_187.out
                         have hns287_2 := NB118_187.out
                         have hns287_3 := NB122_187.out
                         have hns287_4 := NB126_187.out
                         have hns287_5 := NB146_187.out
                         have hns287_6 := NB150_187.out
                         have hns287_7 := NB154_187.out
                         have hns287_8 := NB158_187.out
                         have hns287_9 := NB162_187.out
                         have hns287_10 := NB166_187.out
                         have hms287_0 := NB187_108.out
                         have hms287_1 := NB187_112.out
                         have hms287_2 := NB187_118.out
                         have hms287_3 := NB187_122.out
                         have hms287_4 := NB187_126.out
                         have hms287_5 := NB187_146.out
                         have hms287_6 := NB187_150.out
                         have hms287_7 := NB187_154.out
                         have hms287_8 := NB187_158.out
                         have hms287_9 := NB187_162.out
                         have hms287_10 := NB187_166.out
                         have hs288 : w286.cell? ⟨gb187, 1, none⟩ = some (.int .i64 0) := (blk_cell BK187.out 1).trans rfl
                         have hfs288 := blk_frozen BK187.out 1
                         have hns288_0 := NB108_187.out
                         have hns288_1 := NB112_187.out
                         have hns288_2 := NB118_187.out
                         have hns288_3 := NB122_187.out
                         have hns288_4 := NB126_187.out
                         have hns288_5 := NB146_187.out
                         have hns288_6 := NB150_187.out
                         have hns288_7 := NB154_187.out
                         have hns288_8 := NB158_187.out
                         have hns288_9 := NB162_187.out
                         have hns288_10 := NB166_187.out
                         have hms288_0 := NB187_108.out
                         have hms288_1 := NB187_112.out
                         have hms288_2 := NB187_118.out
                         have hms288_3 := NB187_122.out
                         have hms288_4 := NB187_126.out
                         have hms288_5 := NB187_146.out
                         have hms288_6 := NB187_150.out
                         have hms288_7 := NB187_154.out
                         have hms288_8 := NB187_158.out
                         have hms288_9 := NB187_162.out
                         have hms288_10 := NB187_166.out
                         refine skip_ (w1 := ?_) (by rfl) rfl ?_ ?_
                         rotate_left
                         ·go_simp
                          rfl
                         refine hK.out _ _ ⟨((cell_far (p := ⟨gb187, _, none⟩) NB162_187.out _).trans (((cell_far (p := ⟨gb187, _, none⟩) NB162_187.out _).trans (hHeld.1)))), ((cell_far (p := ⟨gb187, _, none⟩) NB162_187.out _).trans (((cell_far (p := ⟨gb187, _, none⟩) NB162_187.out _).trans (hHeld.2.1)))), ((cell_far (p := ⟨gb187, _, none⟩) NB158_187.out _).trans (((cell_far (p := ⟨gb187, _, none⟩) NB158_187.out _).trans (hHeld.2.2.1)))), ((cell_far (p := ⟨gb187, _, none⟩) NB158_187.out _).trans (((cell_far (p := ⟨gb187, _, none⟩) NB158_187.out _).trans (hHeld.2.2.2))))⟩ (fun hHeld => ?_)
                         clear hK K
                         refine pure_ (i := 14) (N := some 55) (v := ?_) (a' := ?_) #[true, true, true, true, true, true, true, true, true, true, true, true, true, true, true] rfl rfl (any_of HT_.out (by kernel_rfl)) (fun _ _ _ h => h) (Or.inl ⟨by rfl, ?_⟩) ?_ ?_
                         rotate_left
                         ·intro w'
                          go_simp
                          with_reducible rfl
                         rotate_left
                         ·simp only [Act.put, List.setIfInBounds_toArray, List.set_cons_zero, List.set_cons_succ, i64_w, i32_w]
                          rfl
                         refine done_ (done_of HT_.out (by kernel_rfl)) ?_
                         have hnb289 := NB187_108.out
                         have hnc289 := NB108_187.out
                         have hnb290 := NB187_112.out
                         have hnc290 := NB112_187.out
                         have hnb291 := NB187_118.out
                         have hnc291 := NB118_187.out
                         have hnb292 := NB187_122.out
                         have hnc292 := NB122_187.out
                         have hnb293 := NB187_126.out
                         have hnc293 := NB126_187.out
                         have hnb294 := NB187_146.out
                         have hnc294 := NB146_187.out
                         have hnb295 := NB187_150.out
                         have hnc295 := NB150_187.out
                         have hnb296 := NB187_154.out
                         have hnc296 := NB154_187.out
                         have hnb297 := NB187_158.out
                         have hnc297 := NB158_187.out
                         have hnb298 := NB187_162.out
                         have hnc298 := NB162_187.out
                         have hnb299 := NB187_166.out
                         have hnc299 := NB166_187.out
                         have hcz300_0 : w286.cell? ⟨gb187, 0, none⟩ = some (.string (⟨#[]⟩ : ByteArray)) := (blk_cell BK187.out 0).trans rfl
                         have hcz300_1 : w286.cell? ⟨gb187, 1, none⟩ = some (.int .i64 0) := (blk_cell BK187.out 1).trans rfl
                         have hfz300_0 := blk_frozen BK187.out 0
                         have hfz300_1 := blk_frozen BK187.out 1
                         have hnb301 := NB158_108.out
                         have hnc301 := NB108_158.out
                         have hnb302 := NB158_112.out
                         have hnc302 := NB112_158.out
                         have hnb303 := NB158_118.out
                         have hnc303 := NB118_158.out
                         have hnb304 := NB158_122.out
                         have hnc304 := NB122_158.out
                         have hnb305 := NB158_126.out
                         have hnc305 := NB126_158.out
                         have hnb306 := NB158_146.out
                         have hnc306 := NB146_158.out
                         have hnb307 := NB158_150.out
                         have hnc307 := NB150_158.out
                         have hnb308 := NB158_154.out
                         have hnc308 := NB154_158.out
                         have hnb309 := NB158_162.out
                         have hnc309 := NB162_158.out
                         have hnb310 := NB158_166.out
                         have hnc310 := NB166_158.out
                         have hcz311_0 : w286.cell? ⟨gb158, 0, none⟩ = some (.string t155) := (blk_cell BK158.out 0).trans rfl
                         have hcz311_1 : w286.cell? ⟨gb158, 1, none⟩ = some (.int .i64 t156) := (blk_cell BK158.out 1).trans rfl
                         have hfz311_0 := blk_frozen BK158.out 0
                         have hfz311_1 := blk_frozen BK158.out 1
                         try go_wp2
                         go_ret
                         exact ⟨by first | rfl | (simp [errW_none, errW_some] <;> rfl) | (simp only [← hji276]; first | rfl | (simp [errW_none, errW_some] <;> rfl)) | (simp [*, errW_none, errW_some] <;> rfl), k47_⟩
                       ·replace c281 := Bool.eq_false_iff.mpr c281
                        subst c281
                        rw [if_neg (show ¬ (false = true) by decide)] at H
                        exact absurd H (by simp)
                      ·rw [if_neg c278] at H
                       exact absurd H (by simp)
                     ·rw [if_neg c277] at H
                      exact absurd H (by simp)
                    ·replace c275 := Bool.eq_false_iff.mpr c275
                     subst c275
                     have H1 : (some true) = some true := rfl
                     clear H
                     have H := H1
                     clear H1
                     clear H
                     go_wp2
                     go_ret
                     exact ⟨k81_, k50_⟩
                 ·rw [if_neg c158] at H
                  have c158b0 : (t176.toList == t178.toList) = false := beq_eq_false_iff_ne.mpr c158
                  have c158b1 : (t176.toList != t178.toList) = true := bne_iff_ne.mpr c158
                  exact absurd H (by simp)
               ·rw [if_neg c156] at H
                have c156b0 : (t168 == t170) = false := beq_eq_false_iff_ne.mpr c156
                have c156b1 : (t168 != t170) = true := bne_iff_ne.mpr c156
                exact absurd H (by simp)
def laws_FnPuzzlesSieved.Pure : Prop := ∀ (l0 : List Int) (l1 : List Int), l0.length ≤ 9223372036854775807 → (∀ z_ ∈ l0, (Lit.int .u8 z_).wf = true) → l1.length ≤ 9223372036854775807 → (∀ z_ ∈ l1, (Lit.int .u8 z_).wf = true) → ∃ k, laws_FnPuzzlesSieved.f k l0 l1 = some true
end Go.Proofs.YtgmfaleamhpfjaaDoor.P
