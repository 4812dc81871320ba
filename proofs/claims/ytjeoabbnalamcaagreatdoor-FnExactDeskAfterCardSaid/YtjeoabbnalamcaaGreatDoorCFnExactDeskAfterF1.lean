/- What functions of the program answer. Proved in this text: its theorems. Conditions: as each theorem states them. -/
import Derived.Test.YtjeoabbnalamcaaGreatDoorCFnExactDeskAfterP
import Derived.Test.YtjeoabbnalamcaaGreatDoorCFnExactDeskAfterF0
namespace Go.Proofs.YtjeoabbnalamcaaGreatDoor.P
open Go.RowKit Go.Proofs.YtjeoabbnalamcaaGreatDoorW.qaZ Go.Proofs.YtjeoabbnalamcaaGreatDoorW.PrintLast Go.Proofs.YtjeoabbnalamcaaGreatDoorW.PrintMore
set_option linter.unusedVariables false
set_option linter.unusedSimpArgs false
set_option maxHeartbeats 8000000
set_option maxRecDepth 100000
section
attribute [local go_sem] qhj qhl qiE qiF qgt qgu qhk qhm
def qfy (n : Int) (x : qac) : Bool := n % x.f0 == x.f1
theorem qtH (n b : Int) (h1 : 2 ≤ b) (h2 : b ≤ 60) : qfA.f n b = some (n % b) := by
  unfold qfA.f; rw [if_neg (by omega)]; have a1 := Int.tmod_lt_of_pos n (b := b) (by omega); have a2 := Int.lt_tmod_of_pos n (b := b) (by omega); rw [show wrap64 (Int.tmod n b + b) = Int.tmod n b + b by unfold wrap64; omega]; rw [Int.tmod_eq_emod_of_nonneg (by omega : 0 ≤ Int.tmod n b + b), Int.add_emod_right]
  congr 1
  rw [Int.tmod_eq_emod]; split
  ·simp
  rw [Int.sub_emod, Int.emod_emod_of_dvd _ (Int.dvd_refl _)]
  have : ((b.natAbs : Int)) % b = 0 := by rw [show (b.natAbs : Int) = b by omega]; exact Int.emod_self
  rw [this]; simp
def qek.f (l0 : List (qac)) (a1 : Int) : Option (Int) := if l0.all qbF = true then some (qei (qfy a1) l0 0) else none
set_option maxHeartbeats 2000000 in
theorem qjo (n : Int) (B : Nat) (x : qac) (W : World) (hx : qbF x = true) (hB : B < W.heap.size) (hn : W.cell? ⟨B, 0, none⟩ = some (.int .i64 n)) :
    Calls Tryz.prog 257 #[.agg #[.int .i64 x.f0, .int .i64 x.f1], .pointer (some ⟨B, 0, none⟩)] W fun e w' => e = .returned (.bool (qfy n x)) ∧ Below W.heap.size W w' := by
  have hu := Tryz.underlying85
  have h1 : 2 ≤ x.f0 ∧ x.f0 ≤ 60 := by unfold qbF at hx; simp at hx; omega
  have HM := ak_ (fun W => qfA.calls n x.f0 _ W (qtH n x.f0 h1.1 h1.2)); clear hx h1; unfold qfy; go_enter Tryz.func257, Tryz.ntmps257; go_wp2
  go_quiet ((go_at_call 185; exact Calls.quiet_of ((HM.1 _).mono (fun e w' h => ⟨h.1, h.2.1⟩))))
  go_wp2
  go_ret
  exact ⟨rfl, qaf (qal (Below.refl _ _) _) _⟩
set_option maxHeartbeats 2000000 in
theorem qek.calls (A0 : Option Addr) (c0 : Nat) (l0 : List (qac)) (a1 : Int) (r : Int) (w : World) (hr0 : Kd.C qaG w A0 l0.length l0) (hc0 : l0.length ≤ c0) (h : qek.f l0 a1 = some r) :
    Calls Tryz.prog 238 #[.slice A0 l0.length c0, .int .i64 a1] w fun e w' => e = .returned (.int .i64 r) ∧ Below w.heap.size w w' := by
  unfold qek.f at h; by_cases hl : l0.all qbF = true; rotate_left
  ·rw [if_neg hl] at h; exact absurd h (by simp)
  rw [if_pos hl] at h; obtain rfl := Option.some.inj h; clear h; have hb := qal (Below.refl w.heap.size w) (.cells #[.int .i64 a1] 3 (0, 0)); have hcall := qoe (qfy a1) 257 #[.pointer (some ⟨w.heap.size, 0, none⟩)] (enters_of Tryz.func257 (by kernel_rfl) rfl) A0 c0 l0 (w.alloc (.cells #[.int .i64 a1] 3 (0, 0)))
    (fun W' x hx hb' => (qjo a1 w.heap.size x W' (List.all_eq_true.mp hl x hx) (by have := hb'.size; simp at this; omega) ((hb'.cell (p := ⟨w.heap.size, 0, none⟩) (by simp)).trans (by simp))).mono fun e w' ⟨he, hb2⟩ => ⟨he, hb'.trans (hb2.mono hb'.size)⟩) (Kd.qd0 hr0 hb)
  have HC := ak_ hcall; have HB := ak_ hb; clear hcall hr0 hl hb; go_enter Tryz.func238, Tryz.ntmps238
  go_wp2_with (go_at_call 145; refine HC.1.mono ?_; rintro e w' ⟨rfl, hb'⟩)
  go_ret
  exact ⟨rfl, HB.1.trans (hb'.mono HB.1.size)⟩
def qcU.f (l0 : List (qac)) (a1 : Int) : Option (Bool) := (qek.f l0 a1).bind fun qav => (some (decide (qav < 0)))
theorem qcU.calls (A0 : Option Addr) (c0 : Nat) (l0 : List (qac)) (a1 : Int) (r : Bool) (w : World) (hr0 : Kd.C qaG w A0 l0.length l0) (hc0 : l0.length ≤ c0) (h : qcU.f l0 a1 = some r) :
  Calls Tryz.prog 199 #[.slice A0 l0.length c0, .int .i64 a1] w fun e w' => e = .returned (.bool r) ∧ Below w.heap.size w w' := by
 have HR0 := ak_ hr0; have HC0 := ak_ hc0; clear hr0 hc0; have HB := br_ w; have H : ((qek.f l0 a1).bind fun qav => (some (decide (qav < 0)))) = some r := h; clear h; obtain ⟨qav, A3, H⟩ := qaB H; (try dsimp only at H); obtain rfl := sj_ H; go_enter Tryz.func199, Tryz.ntmps199
 go_wp2_with (first | (refine gl_ 7 Tryz.func238 #[.slice A0 l0.length c0, .int .i64 a1] rfl qbJ ?_; (with_reducible refine (qek.calls _ _ l0 a1 qav _ ?qaz ?qaA A3.1).mono ?_); (case qaz => exact qf0); (case qaA => exact qb9); rintro e w4 ⟨rfl, hb⟩; refine ⟨_, rfl, ?_⟩; replace HB := HB.mw hb; (try clear hb)))
 go_ret
 exact ⟨qca, qao⟩
def qaD.l0 : Nat → List (qac) → Int → List Int → Int → Option (List Int)
 | 0, _, _, _, _ => none
 | k + 1, x0, x2, x7, x8 => if x8 ≤ x2 then ((qcU.f x0 x8).bind fun qcq => (if qcq = true then (if x7.length < 17592186044416 then (qaD.l0 k x0 x2 (x7 ++ [x8]) (wrap64 (x8 + 1))) else (none)) else (qaD.l0 k x0 x2 x7 (wrap64 (x8 + 1))))) else (some x7)
def qaD.f (k : Nat) (l0 : List (qac)) (a1 : Int) (a2 : Int) : Option (List Int) := qaD.l0 k l0 a2 (([] : List Int)) a1
theorem qaD.calls (k : Nat) (A0 : Option Addr) (c0 : Nat) (l0 : List (qac)) (a1 : Int) (a2 : Int) (r : List Int) (w : World) (hr0 : Kd.C qaG w A0 l0.length l0) (hc0 : l0.length ≤ c0) (h : qaD.f k l0 a1 a2 = some r) :
  Calls Tryz.prog 139 #[.slice A0 l0.length c0, .int .i64 a1, .int .i64 a2] w fun e w' => ∃ v0_ : Value, e = .returned (v0_) ∧ Kd.R (Kd.int .i64) 3 w' w.heap.size (fun _ => True) v0_ r ∧ Below w.heap.size w w' := by
 have HR0 := ak_ hr0; have HC0 := ak_ hc0; clear hr0 hc0; have HB := br_ w; have H : (qaD.l0 k l0 a2 (([] : List Int)) a1) = some r := h; clear h
 obtain ⟨qeW, hy_⟩ : ∃ y_ : List Int, y_ = (([] : List Int)) := ⟨_, rfl⟩
 replace H : (qaD.l0 k l0 a2 qeW a1) = some r := qfb; have qet := ak_ hy_; clear hy_; have H' := ak_ H; clear H; go_enter Tryz.func139, Tryz.ntmps139
 go_wp2_with (first | ((with_reducible refine qam (N := 9) rfl ?_); refine li_ (Kd.int .i64) 3 9 rfl (xs := ([] : List Int)) qa1 ?_; intro qjd w4 ho5 hb; (first | rw [← qet.1] at ho5 | (simp only [Int.reduceToNat] at ho5; rw [← qet.1] at ho5)); have qcI := ak_ (Kd.qaw ho5 (qab qao)); replace HB := HB.mw hb; clear hb ho5))
 go_loopg [7, 8] k (fun kq v7 v8 w' => ∃ (qdE : List Int) (qdl : Int), v8 = .int .i64 qdl ∧ qai (qaD.l0 kq l0 a2 qdE qdl = some r) ∧ qai (kq ≤ k) ∧ qai (Kd.R (Kd.int .i64) 3 w' w.heap.size (fun _ => True) v7 qdE) ∧ qai (Below w.heap.size w w'))
 case atStart => exact ⟨(qeW), (a1), qay, H', ⟨Nat.le_refl _⟩, ⟨qoL⟩, ⟨qao⟩⟩
 case round =>
  clear H'; obtain ⟨qdE, qdl, rfl, HA, HK1, qiP, HB⟩ := hrel
  cases gk with
  | zero => exact absurd HA.1 (by simp [qaD.l0])
  | succ k1 =>
   have H := HA.1; clear HA; simp only [qaD.l0] at H; by_cases c6 : qdl ≤ a2; rotate_left
   ·rw [if_neg c6] at H; have qgc := decide_eq_false c6; clear c6; obtain rfl := sj_ H; go_wp2
    go_ret
    exact ⟨_, qca, by (with_reducible repeat (first | apply Kd.qaq | apply Kd.qar | apply Kd.qax)); exact qiP.1, qao⟩
   rw [if_pos c6] at H; have qgc := decide_eq_true c6; clear c6; obtain ⟨qcq, A7, H⟩ := qaB H; (try dsimp only at H); by_cases c8 : qcq = true; rotate_left
   ·replace c8 := Bool.eq_false_iff.mpr c8; subst c8; rw [if_neg ff_] at H; have H' := ak_ H; clear H
    go_wp2_with (first | (refine gl_ 18 Tryz.func199 #[.slice A0 l0.length c0, .int .i64 qdl] rfl qbJ ?_; (with_reducible refine (qcU.calls _ _ l0 qdl false _ ?qaz ?qaA A7.1).mono ?_); (case qaz => exact qhr); (case qaA => exact qb9); rintro e w12 ⟨rfl, hb⟩; refine ⟨_, rfl, ?_⟩; replace qiP := qiP.mw hb; replace HB := HB.mw hb; (try clear hb)))
    go_roundg k1
    case measure => have := HK1.1; omega
    case rel => exact ⟨(qdE), (wrap64 (qdl + 1)), qay, H', ⟨qc9⟩, ⟨k91_⟩, ⟨qao⟩⟩
   subst c8; rw [if_pos rfl] at H; obtain ⟨c9, H⟩ := qct H; have LMc9 := ak_ c9; clear c9
   obtain ⟨qic, hy_⟩ : ∃ y_ : List Int, y_ = (qdE ++ [qdl]) := ⟨_, rfl⟩
   replace H : (qaD.l0 k1 l0 a2 qic (wrap64 (qdl + 1))) = some r := qfb; have qhG := ak_ hy_; clear hy_; have H' := ak_ H; clear H
   go_wp2_with (first | (refine gl_ 18 Tryz.func199 #[.slice A0 l0.length c0, .int .i64 qdl] rfl qbJ ?_; (with_reducible refine (qcU.calls _ _ l0 qdl true _ ?qaz ?qaA A7.1).mono ?_); (case qaz => exact qhr); (case qaA => exact qb9); rintro e w10 ⟨rfl, hb⟩; refine ⟨_, rfl, ?_⟩; replace qiP := qiP.mw hb; replace HB := HB.mw hb; (try clear hb)) | ((with_reducible refine qa5 (b := .append) (xs := #[.tmp 19, .tmp 21]) rfl ?_); at_builtin; refine Kd.qc8 (Kd.int .i64) (w0 := w) w.heap.size rfl (.tmp 19) (.tmp 21) 48 3 (.int .i64 0) 8 rfl Tryz.underlying48 info3 rfl (by decide) (by omega) u7 qdE qdl [.int .i64 qdl] (fun _ => True) (fun _ => False) rfl rfl ?aP (fun _ hk => hk.elim) ?aF ?aO ?aB ?aS ?aL ?_; (case aP => exact rfl); (case aB => exact qao); (case aF => exact (fun _ _ => trivial)); (case aO => exact k91_); (case aS => exact (qab qao)); (case aL => have := LMc9.1; omega); intro qrK w11 ho hb hg hat; rw [← qhG.1] at ho; replace HB := ak_ (hb); have qfa := ak_ (ho); clear qiP; clear ho hb hg hat))
   go_roundg k1
   case measure => have := HK1.1; omega
   case rel => exact ⟨(qic), (wrap64 (qdl + 1)), qay, H', ⟨qc9⟩, ⟨by apply_rules only [qfa.1, Kd.qaq, Kd.qar, Kd.qax]⟩, ⟨qao⟩⟩
def qde.l0 : Nat → Int → Int → Option (Int)
 | 0, _, _ => none
 | k + 1, x0, x1 => if x1 > 0 then (if x1 = 0 then (none) else (qde.l0 k x1 (Int.tmod x0 x1))) else (some x0)
def qde.f (k : Nat) (a0 : Int) (a1 : Int) : Option (Int) := qde.l0 k a0 a1
theorem qde.calls (k : Nat) (a0 : Int) (a1 : Int) (r : Int) (w : World) (h : qde.f k a0 a1 = some r) :
  Calls Tryz.prog 239 #[.int .i64 a0, .int .i64 a1] w fun e w' => e = .returned (.int .i64 r) ∧ qcY w w' := by
 have H : (qde.l0 k a0 a1) = some r := h; clear h; have H' := ak_ H; clear H; go_enter Tryz.func239, Tryz.ntmps239; go_wp2
 repeat (go_quiet (fail); try go_wp2)
 go_loopg [0, 1] k (fun kq v0 v1 w' => ∃ (qfJ : Int) (qfK : Int), v0 = .int .i64 qfJ ∧ v1 = .int .i64 qfK ∧ qai (qde.l0 kq qfJ qfK = some r) ∧ qai (kq ≤ k) ∧ qcY w w')
 case atStart => exact ⟨(a0), (a1), qay, qay, H', ⟨Nat.le_refl _⟩, qc3⟩
 case round =>
  clear H'; obtain ⟨qfJ, qfK, rfl, rfl, HA, HK1, ⟨m1, rfl⟩⟩ := hrel
  cases gk with
  | zero => exact absurd HA.1 (by simp [qde.l0])
  | succ k1 =>
   have H := HA.1; clear HA; simp only [qde.l0] at H; by_cases c3 : qfK > 0; rotate_left
   ·rw [if_neg c3] at H; have qfr : decide (0 < qfK) = false := decide_eq_false c3; clear c3; obtain rfl := sj_ H; go_wp2
    repeat (go_quiet (fail); try go_wp2)
    go_ret
    exact ⟨qay, qc3⟩
   rw [if_pos c3] at H; have qfr : decide (0 < qfK) = true := decide_eq_true c3; clear c3; by_cases c4 : qfK = 0
   ·rw [if_pos c4] at H; exact absurd H (by simp)
   rw [if_neg c4] at H; have qfw : (qfK == 0) = false := beq_eq_false_iff_ne.mpr c4; have qlY : (qfK != 0) = true := bne_iff_ne.mpr c4; have H' := ak_ H; clear H; go_wp2
   repeat (go_quiet (fail); try go_wp2)
   go_roundg k1
   case measure => have := HK1.1; omega
   case rel => exact ⟨(qfK), (Int.tmod qfJ qfK), qay, qay, H', ⟨qc9⟩, qc3⟩
def qcW.l0 : Nat → Int → List (qac) → Int → Int → Option (Int × Bool)
 | 0, _, _, _, _ => none
 | k + 1, x4, x7, x8, x9 => if x9 < x8 then (if 0 ≤ x9 then (if x9 < (x7.length : Int) then ((qde.f k x4 ((qad x7 x9).f0)).bind fun qcb => (if qcb = 0 then (none) else (if (wrap64 ((wrap64 (Int.tdiv x4 qcb)) * ((qad x7 x9).f0))) > 100000 then (some (0, false)) else (qcW.l0 k (wrap64 ((wrap64 (Int.tdiv x4 qcb)) * ((qad x7 x9).f0))) x7 x8 (wrap64 (x9 + 1)))))) else (none)) else (none)) else (some (x4, true))
def qcW.f (k : Nat) (l0 : List (qac)) : Option (Int × Bool) := qcW.l0 k 1 l0 (l0.length : Int) 0
theorem qcW.calls (k : Nat) (A0 : Option Addr) (c0 : Nat) (l0 : List (qac)) (r1 : Int) (r2 : Bool) (w : World) (hr0 : Kd.C qaG w A0 l0.length l0) (hc0 : l0.length ≤ c0) (h : qcW.f k l0 = some (r1, r2)) :
  Calls Tryz.prog 200 #[.slice A0 l0.length c0] w fun e w' => e = .returned (.tuple #[.int .i64 r1, .bool r2]) ∧ Below w.heap.size w w' := by
 have qme := Tryz.underlying85; have HR0 := ak_ hr0; have HC0 := ak_ hc0; clear hr0 hc0; have HB := br_ w; have H : (qcW.l0 k 1 l0 (l0.length : Int) 0) = some (r1, r2) := h; clear h; have H' := ak_ H; clear H; go_enter Tryz.func200, Tryz.ntmps200; go_wp2
 repeat (go_quiet (fail); try go_wp2)
 go_loopg [4, 9] k (fun kq v4 v9 w' => ∃ (qcP : Int) (qdt : Int), v4 = .int .i64 qcP ∧ v9 = .int .i64 qdt ∧ qai (qcW.l0 kq qcP l0 (l0.length : Int) qdt = some (r1, r2)) ∧ qai (kq ≤ k) ∧ qai (Below w.heap.size w w'))
 case atStart => exact ⟨(1), (0), qay, qay, H', ⟨Nat.le_refl _⟩, ⟨qao⟩⟩
 case round =>
  clear H'; obtain ⟨qcP, qdt, rfl, rfl, HA, HK1, HB⟩ := hrel
  cases gk with
  | zero => exact absurd HA.1 (by simp [qcW.l0])
  | succ k1 =>
   have H := HA.1; clear HA; simp only [qcW.l0] at H; by_cases c2 : qdt < (l0.length : Int); rotate_left
   ·rw [if_neg c2] at H; have qfB := decide_eq_false c2; clear c2; obtain ⟨rfl, rfl⟩ := qdQ H; go_wp2
    repeat (go_quiet (fail); try go_wp2)
    go_ret2
    exact ⟨qca, qao⟩
   rw [if_pos c2] at H; have qfB := decide_eq_true c2; clear c2; obtain ⟨c3, H⟩ := qct H; have qfr := decide_eq_true c3; clear c3; obtain ⟨c4, H⟩ := qct H; have qfw := decide_eq_true c4; clear c4; obtain ⟨qcb, A5, H⟩ := qaB H; (try dsimp only at H); by_cases c6 : qcb = 0
   ·rw [if_pos c6] at H; exact absurd H (by simp)
   rw [if_neg c6] at H; have qgc : (qcb == 0) = false := beq_eq_false_iff_ne.mpr c6; have qnJ : (qcb != 0) = true := bne_iff_ne.mpr c6; by_cases c7 : (wrap64 ((wrap64 (Int.tdiv qcP qcb)) * ((qad l0 qdt).f0))) > 100000
   ·rw [if_pos c7] at H; have qhx : decide (100000 < (wrap64 ((wrap64 (Int.tdiv qcP qcb)) * ((qad l0 qdt).f0)))) = true := decide_eq_true c7; clear c7; obtain ⟨rfl, rfl⟩ := qdQ H; have qeC : 0 ≤ (qdt : Int) := of_decide_eq_true qaL; have qeJ : qdt < (l0.length : Int) := of_decide_eq_true qaL; obtain ⟨qfL, qg7, qbk, qbL⟩ := qc6 HR0.1 qdt qeC qeJ
    cases qg7
    replace qbk := (HB.1.cell (World.block_lt_of_cell? w _ qbk)).trans qbk; replace qbL := (HB.1.cell (World.block_lt_of_cell? w _ qbL)).trans qbL; replace qeC := eq_true qeC; replace qeJ := eq_true qeJ
    go_wp2_with (first | ((with_reducible refine qam (N := 6) rfl ?_); refine bx_ 6 rfl (cs := #[.int .i64 0, .int .i64 0]) (t := 85) qa1 ?_; intro qcO hg w8 hbox hb; have qbI := ak_ (hbox); have qfE := ak_ (HB.ge hg); have qfq := ak_ (HB.ge hg); replace HB := HB.mw hb; clear hb hbox hg; obtain ⟨qgA, qgB, qgC, qgD⟩ := qbl qbI.1) | (go_at_call 239; (with_reducible refine (qde.calls k1 qcP ((qad l0 qdt).f0) qcb _ A5.1).mono ?_); rintro e w' ⟨rfl, ⟨nd, rfl⟩⟩; (try first | exact ⟨rfl, _, World.drewN_drewN _ _ _⟩ | exact ⟨rfl, _, Eq.trans (World.drewN_drewN _ _ _) (congrArg (World.drewN _) (Nat.add_assoc _ _ _))⟩)))
    repeat (go_quiet (first | ((with_reducible refine qam (N := 6) rfl ?_); refine bx_ 6 rfl (cs := #[.int .i64 0, .int .i64 0]) (t := 85) qa1 ?_; intro qcO hg w8 hbox hb; have qbI := ak_ (hbox); have qfE := ak_ (HB.ge hg); have qfq := ak_ (HB.ge hg); replace HB := HB.mw hb; clear hb hbox hg; obtain ⟨qgA, qgB, qgC, qgD⟩ := qbl qbI.1) | (go_at_call 239; (with_reducible refine (qde.calls k1 qcP ((qad l0 qdt).f0) qcb _ A5.1).mono ?_); rintro e w' ⟨rfl, ⟨nd, rfl⟩⟩; (try first | exact ⟨rfl, _, World.drewN_drewN _ _ _⟩ | exact ⟨rfl, _, Eq.trans (World.drewN_drewN _ _ _) (congrArg (World.drewN _) (Nat.add_assoc _ _ _))⟩))); try go_wp2_with (first | ((with_reducible refine qam (N := 6) rfl ?_); refine bx_ 6 rfl (cs := #[.int .i64 0, .int .i64 0]) (t := 85) qa1 ?_; intro qcO hg w8 hbox hb; have qbI := ak_ (hbox); have qfE := ak_ (HB.ge hg); have qfq := ak_ (HB.ge hg); replace HB := HB.mw hb; clear hb hbox hg; obtain ⟨qgA, qgB, qgC, qgD⟩ := qbl qbI.1) | (go_at_call 239; (with_reducible refine (qde.calls k1 qcP ((qad l0 qdt).f0) qcb _ A5.1).mono ?_); rintro e w' ⟨rfl, ⟨nd, rfl⟩⟩; (try first | exact ⟨rfl, _, World.drewN_drewN _ _ _⟩ | exact ⟨rfl, _, Eq.trans (World.drewN_drewN _ _ _) (congrArg (World.drewN _) (Nat.add_assoc _ _ _))⟩))))
    go_ret2
    exact ⟨qca, qnp⟩
   rw [if_neg c7] at H; have qhx : decide (100000 < (wrap64 ((wrap64 (Int.tdiv qcP qcb)) * ((qad l0 qdt).f0)))) = false := decide_eq_false c7; clear c7; have H' := ak_ H; clear H; have qeC : 0 ≤ (qdt : Int) := of_decide_eq_true qaL; have qeJ : qdt < (l0.length : Int) := of_decide_eq_true qaL; obtain ⟨qfL, qg7, qbk, qbL⟩ := qc6 HR0.1 qdt qeC qeJ
   cases qg7
   replace qbk := (HB.1.cell (World.block_lt_of_cell? w _ qbk)).trans qbk; replace qbL := (HB.1.cell (World.block_lt_of_cell? w _ qbL)).trans qbL; replace qeC := eq_true qeC; replace qeJ := eq_true qeJ
   go_wp2_with (first | ((with_reducible refine qam (N := 6) rfl ?_); refine bx_ 6 rfl (cs := #[.int .i64 0, .int .i64 0]) (t := 85) qa1 ?_; intro qcO hg w10 hbox hb; have qbI := ak_ (hbox); have qfE := ak_ (HB.ge hg); have qfq := ak_ (HB.ge hg); replace HB := HB.mw hb; clear hb hbox hg; obtain ⟨qgj, qgk, qgl, qgm⟩ := qbl qbI.1) | (go_at_call 239; (with_reducible refine (qde.calls k1 qcP ((qad l0 qdt).f0) qcb _ A5.1).mono ?_); rintro e w' ⟨rfl, ⟨nd, rfl⟩⟩; (try first | exact ⟨rfl, _, World.drewN_drewN _ _ _⟩ | exact ⟨rfl, _, Eq.trans (World.drewN_drewN _ _ _) (congrArg (World.drewN _) (Nat.add_assoc _ _ _))⟩)))
   repeat (go_quiet (first | ((with_reducible refine qam (N := 6) rfl ?_); refine bx_ 6 rfl (cs := #[.int .i64 0, .int .i64 0]) (t := 85) qa1 ?_; intro qcO hg w10 hbox hb; have qbI := ak_ (hbox); have qfE := ak_ (HB.ge hg); have qfq := ak_ (HB.ge hg); replace HB := HB.mw hb; clear hb hbox hg; obtain ⟨qgj, qgk, qgl, qgm⟩ := qbl qbI.1) | (go_at_call 239; (with_reducible refine (qde.calls k1 qcP ((qad l0 qdt).f0) qcb _ A5.1).mono ?_); rintro e w' ⟨rfl, ⟨nd, rfl⟩⟩; (try first | exact ⟨rfl, _, World.drewN_drewN _ _ _⟩ | exact ⟨rfl, _, Eq.trans (World.drewN_drewN _ _ _) (congrArg (World.drewN _) (Nat.add_assoc _ _ _))⟩))); try go_wp2_with (first | ((with_reducible refine qam (N := 6) rfl ?_); refine bx_ 6 rfl (cs := #[.int .i64 0, .int .i64 0]) (t := 85) qa1 ?_; intro qcO hg w10 hbox hb; have qbI := ak_ (hbox); have qfE := ak_ (HB.ge hg); have qfq := ak_ (HB.ge hg); replace HB := HB.mw hb; clear hb hbox hg; obtain ⟨qgj, qgk, qgl, qgm⟩ := qbl qbI.1) | (go_at_call 239; (with_reducible refine (qde.calls k1 qcP ((qad l0 qdt).f0) qcb _ A5.1).mono ?_); rintro e w' ⟨rfl, ⟨nd, rfl⟩⟩; (try first | exact ⟨rfl, _, World.drewN_drewN _ _ _⟩ | exact ⟨rfl, _, Eq.trans (World.drewN_drewN _ _ _) (congrArg (World.drewN _) (Nat.add_assoc _ _ _))⟩))))
   go_roundg k1
   case measure => have := HK1.1; omega
   case rel => exact ⟨(wrap64 ((wrap64 (Int.tdiv qcP qcb)) * ((qad l0 qdt).f0))), (wrap64 (qdt + 1)), qay, qay, H', ⟨qc9⟩, ⟨qnp⟩⟩
def qcf.f (k : Nat) (l0 : List (qac)) : Option (Int × Bool) := (qbb.f l0).bind fun qav => (if qav = true then ((qcW.f k l0).bind fun qdo => (some (qdo.1, qdo.2))) else (some (0, false)))
theorem qcf.calls (k : Nat) (A0 : Option Addr) (c0 : Nat) (l0 : List (qac)) (r1 : Int) (r2 : Bool) (w : World) (hr0 : Kd.C qaG w A0 l0.length l0) (hc0 : l0.length ≤ c0) (h : qcf.f k l0 = some (r1, r2)) :
  Calls Tryz.prog 140 #[.slice A0 l0.length c0] w fun e w' => e = .returned (.tuple #[.int .i64 r1, .bool r2]) ∧ Below w.heap.size w w' := by
 have HR0 := ak_ hr0; have HC0 := ak_ hc0; clear hr0 hc0; have HB := br_ w; have H : ((qbb.f l0).bind fun qav => (if qav = true then ((qcW.f k l0).bind fun qdo => (some (qdo.1, qdo.2))) else (some (0, false)))) = some (r1, r2) := h; clear h; obtain ⟨qav, A2, H⟩ := qaB H; (try dsimp only at H); by_cases c3 : qav = true
 ·subst c3; rw [if_pos rfl] at H; obtain ⟨⟨qaQ, qcb⟩, A4, H⟩ := qaB H; (try dsimp only at H); obtain ⟨rfl, rfl⟩ := qdQ H; go_enter Tryz.func140, Tryz.ntmps140
  go_wp2_with (first | (refine gl_ 5 Tryz.func53 #[.slice A0 l0.length c0] rfl qbJ ?_; (with_reducible refine (qbb.calls _ _ l0 true _ ?qaz ?qaA A2.1).mono ?_); (case qaz => exact qf0); (case qaA => exact qb9); rintro e w5 ⟨rfl, hb⟩; refine ⟨_, rfl, ?_⟩; replace HB := HB.mw hb; (try clear hb)) | (refine gl_ 8 Tryz.func200 #[.slice A0 l0.length c0] rfl qbJ ?_; (with_reducible refine (qcW.calls k _ _ l0 qaQ qcb _ ?qaz ?qaA A4.1).mono ?_); (case qaz => exact qhr); (case qaA => exact qb9); rintro e w6 ⟨rfl, hb⟩; refine ⟨_, rfl, ?_⟩; replace HB := HB.mw hb; (try clear hb)))
  go_ret2
  exact ⟨qca, qao⟩
 replace c3 := Bool.eq_false_iff.mpr c3; subst c3; rw [if_neg ff_] at H; obtain ⟨rfl, rfl⟩ := qdQ H; go_enter Tryz.func140, Tryz.ntmps140
 go_wp2_with (first | (refine gl_ 5 Tryz.func53 #[.slice A0 l0.length c0] rfl qbJ ?_; (with_reducible refine (qbb.calls _ _ l0 false _ ?qaz ?qaA A2.1).mono ?_); (case qaz => exact qf0); (case qaA => exact qb9); rintro e w7 ⟨rfl, hb⟩; refine ⟨_, rfl, ?_⟩; replace HB := HB.mw hb; (try clear hb)))
 go_ret2
 exact ⟨qca, qao⟩
def qbW.f (k : Nat) (l0 : List (qac)) : Option (Int × List Int × Bool) := (qcf.f k l0).bind fun qdo => (if qdo.2 = true then (if qdo.1 > 5000 then (some (0, ([] : List Int), false)) else ((qaD.f k l0 1 qdo.1).bind fun qcq => (some (qdo.1, qcq, decide ((qcq.length : Int) > 0))))) else (some (0, ([] : List Int), false)))
theorem qbW.calls (k : Nat) (A0 : Option Addr) (c0 : Nat) (l0 : List (qac)) (r1 : Int) (r2 : List Int) (r3 : Bool) (w : World) (hr0 : Kd.C qaG w A0 l0.length l0) (hc0 : l0.length ≤ c0) (h : qbW.f k l0 = some (r1, r2, r3)) :
  Calls Tryz.prog 187 #[.slice A0 l0.length c0] w fun e w' => ∃ v1_ : Value, e = .returned (.tuple #[.agg #[.int .i64 r1, v1_], .bool r3]) ∧ Kd.R (Kd.int .i64) 3 w' w.heap.size (fun _ => True) v1_ r2 ∧ Below w.heap.size w w' := by
 have hu169 := Tryz.underlying169; have HR0 := ak_ hr0; have HC0 := ak_ hc0; clear hr0 hc0; have HB := br_ w; have H : ((qcf.f k l0).bind fun qdo => (if qdo.2 = true then (if qdo.1 > 5000 then (some (0, ([] : List Int), false)) else ((qaD.f k l0 1 qdo.1).bind fun qcq => (some (qdo.1, qcq, decide ((qcq.length : Int) > 0))))) else (some (0, ([] : List Int), false)))) = some (r1, r2, r3) := h; clear h; obtain ⟨⟨qaQ, qcb⟩, A2, H⟩ := qaB H; (try dsimp only at H); by_cases c3 : qcb = true; rotate_left
 ·replace c3 := Bool.eq_false_iff.mpr c3; subst c3; rw [if_neg ff_] at H; obtain ⟨rfl, rfl, rfl⟩ := qfI H; go_enter Tryz.func187, Tryz.ntmps187
  go_wp2_with (first | ((with_reducible refine qam (N := 2) rfl ?_); refine bx_ 2 rfl (cs := #[.int .i64 0, .slice none 0 0]) (t := 169) qa1 ?_; intro qbD hg w20 hbox hb; have qas := ak_ (hbox); have qdO := ak_ (HB.ge hg); have qdz := ak_ (HB.ge hg); replace HB := HB.mw hb; clear hb hbox hg) | (refine gl_ 9 Tryz.func140 #[.slice A0 l0.length c0] rfl qbJ ?_; (with_reducible refine (qcf.calls k _ _ l0 qaQ false _ ?qaz ?qaA A2.1).mono ?_); (case qaz => exact qhr); (case qaA => exact qb9); rintro e w21 ⟨rfl, hb⟩; refine ⟨_, rfl, ?_⟩; replace qas := qas.mw hb; replace HB := ak_ (qaa qcw hb); (try clear hb); obtain ⟨qsT, qsU, qs9, qta⟩ := qbl qas.1))
  refine bodyPost_ret (qe6 rfl _ _ qbD 169 #[.int .i64 0, .slice none 0 0] (0, 0) _ rfl k7_ Tryz.underlying169 rfl (by kernel_rfl)) rfl ?_; exact ⟨_, qca, qhg, qcw⟩
 subst c3; rw [if_pos rfl] at H; by_cases c4 : qaQ > 5000
 ·rw [if_pos c4] at H; have qfw : decide (5000 < qaQ) = true := decide_eq_true c4; clear c4; obtain ⟨rfl, rfl, rfl⟩ := qfI H; go_enter Tryz.func187, Tryz.ntmps187
  go_wp2_with (first | ((with_reducible refine qam (N := 2) rfl ?_); refine bx_ 2 rfl (cs := #[.int .i64 0, .slice none 0 0]) (t := 169) qa1 ?_; intro qbD hg w5 hbox hb; have qas := ak_ (hbox); have qdO := ak_ (HB.ge hg); have qdz := ak_ (HB.ge hg); replace HB := HB.mw hb; clear hb hbox hg) | (refine gl_ 9 Tryz.func140 #[.slice A0 l0.length c0] rfl qbJ ?_; (with_reducible refine (qcf.calls k _ _ l0 qaQ true _ ?qaz ?qaA A2.1).mono ?_); (case qaz => exact qhr); (case qaA => exact qb9); rintro e w6 ⟨rfl, hb⟩; refine ⟨_, rfl, ?_⟩; replace qas := qas.mw hb; replace HB := ak_ (qaa qcw hb); (try clear hb); obtain ⟨qn4, qn5, qn7, qn8⟩ := qbl qas.1))
  refine bodyPost_ret (qe6 rfl _ _ qbD 169 #[.int .i64 0, .slice none 0 0] (0, 0) _ rfl k7_ Tryz.underlying169 rfl (by kernel_rfl)) rfl ?_; exact ⟨_, qca, qhg, qcw⟩
 rw [if_neg c4] at H; have qfw : decide (5000 < qaQ) = false := decide_eq_false c4; clear c4; obtain ⟨qcq, A8, H⟩ := qaB H; (try dsimp only at H); obtain ⟨rfl, rfl, rfl⟩ := qfI H; go_enter Tryz.func187, Tryz.ntmps187
 try go_wp2_with (first | ((with_reducible refine qam (N := 2) rfl ?_); refine bx_ 2 rfl (cs := #[.int .i64 0, .slice none 0 0]) (t := 169) qa1 ?_; intro qbD hg w9 hbox hb; have qas := ak_ (hbox); have qdO := ak_ (HB.ge hg); have qdz := ak_ (HB.ge hg); replace HB := HB.mw hb; clear hb hbox hg) | (refine gl_ 9 Tryz.func140 #[.slice A0 l0.length c0] rfl qbJ ?_; (with_reducible refine (qcf.calls k _ _ l0 qaQ true _ ?qaz ?qaA A2.1).mono ?_); (case qaz => exact qhr); (case qaA => exact qb9); rintro e w10 ⟨rfl, hb⟩; refine ⟨_, rfl, ?_⟩; replace qas := qas.mw hb; replace HB := ak_ (qaa qcw hb); (try clear hb)) | (refine gl_ 22 Tryz.func139 #[.slice A0 l0.length c0, .int .i64 1, .int .i64 qaQ] rfl qbJ ?_; (with_reducible refine (qaD.calls k _ _ l0 1 qaQ qcq _ ?qaz ?qaA A8.1).mono ?_); (case qaz => exact qhr); (case qaA => exact qb9); rintro e w11 ⟨v105, rfl, ho0, hb⟩; refine ⟨_, rfl, ?_⟩; have qff := ak_ (Kd.qaw ho0 (qab qcw)); replace qas := qas.mw hb; replace HB := ak_ (qaa qcw hb); (try clear hb ho0); obtain ⟨qjI, qjK, qoJ⟩ := Kd.qaI qff.1; subst qoJ) | ((with_reducible refine qam (N := 6) rfl ?_); refine bx_ 6 rfl (cs := #[.int .i64 0, .slice none 0 0]) (t := 169) qa1 ?_; intro qeO hg w13 hbox hb; replace qff := qff.mw hb; have qft := ak_ (hbox); have GW107 := ak_ ((by rw [hg]; exact (qab qcw) : w.heap.size ≤ qeO)); have qoO := ak_ ((by rw [hg]; exact (qab qcw) : w.heap.size ≤ qeO)); replace HB := ak_ (qaa qcw hb); have qhE := ak_ (qas.ne hg); have qgg := ak_ (qas.ne hg).symm; replace qas := qas.mw hb; clear hb hbox hg; have hnb14 := qgg.1; have hnc14 := qhE.1; obtain ⟨qpp, qpq, qpv, qpw⟩ := qbl qft.1))
 have n0_ : qai (Kd.R (Kd.int .i64) 3 ((w13.setCell ⟨qeO, 0, none⟩ (.int .i64 qaQ)).setCell ⟨qeO, 1, none⟩ (.slice qjI qcq.length qjK)) w.heap.size (fun _ => True) (.slice qjI qcq.length qjK) qcq) := ⟨by (with_reducible repeat (first | apply Kd.qaq | apply Kd.qar | apply Kd.qax)); exact Kd.qa2 (Kd.qco (p := ⟨qeO, 1, none⟩) (Kd.qco (p := ⟨qeO, 0, none⟩) (Kd.qcc qff.1 qft.1 (by decide)) (fun _ hk => hk.2) (.int .i64 qaQ)) (fun _ hk => hk.2) (.slice qjI qcq.length qjK)) (fun _ hk => trivial)⟩
 have n1_ : qai (((w13.setCell ⟨qeO, 0, none⟩ (.int .i64 qaQ)).setCell ⟨qeO, 1, none⟩ (.slice qjI qcq.length qjK)).heap[qbD]? = some (.cells #[.int .i64 0, .slice none 0 0] 169 (0, 0))) := ⟨by (with_reducible repeat (first | refine qaj ?_ _ | refine qak ?_ | refine qag ?_ _)); refine qce ?_ qhE.1 _; (with_reducible repeat (first | refine qaj ?_ _ | refine qak ?_ | refine qag ?_ _)); refine qce ?_ qhE.1 _; apply_rules only [qas.1, qaj, qak, qag]⟩
 have n2_ : qai (((w13.setCell ⟨qeO, 0, none⟩ (.int .i64 qaQ)).setCell ⟨qeO, 1, none⟩ (.slice qjI qcq.length qjK)).heap[qeO]? = some (.cells #[.int .i64 qaQ, .slice qjI qcq.length qjK] 169 (0, 0))) := ⟨by (with_reducible repeat (first | refine qaj ?_ _ | refine qak ?_ | refine qag ?_ _)); refine qa9 (cs := #[.int .i64 qaQ, .slice none 0 0]) ?_ 1 _ rfl; (with_reducible repeat (first | refine qaj ?_ _ | refine qak ?_ | refine qag ?_ _)); refine qa9 (cs := #[.int .i64 0, .slice none 0 0]) ?_ 0 _ rfl; apply_rules only [qft.1, qaj, qak, qag]⟩
 have n3_ : qai (Below w.heap.size w ((w13.setCell ⟨qeO, 0, none⟩ (.int .i64 qaQ)).setCell ⟨qeO, 1, none⟩ (.slice qjI qcq.length qjK))) := ⟨by apply_rules only [HB.1, qal, qaf, qah, qat, qdz.1, qoO.1]⟩
 (try clear qff); (try clear qas); (try clear qft); (try clear HB)
 generalize ((w13.setCell ⟨qeO, 0, none⟩ (.int .i64 qaQ)).setCell ⟨qeO, 1, none⟩ (.slice qjI qcq.length qjK)) = w16 at n0_ n1_ n2_ n3_ ⊢
 have qff := n0_; have qas := n1_; have qft := n2_; have HB := n3_; clear n0_ n1_ n2_ n3_; replace qff := ak_ (Kd.qax qff.1); replace qas := ak_ (qak qas.1); replace qft := ak_ (qak qft.1); replace HB := ak_ (qah HB.1); refine qeS (n := 7) (S := fun w' => w'.cell? ⟨qeO, 0, none⟩ = some (.int .i64 qaQ) ∧ w'.cell? ⟨qeO, 1, none⟩ = some (.slice qjI qcq.length qjK)) (ds := []) #[false, false, false, false, false, false, false] (by kernel_rfl) rfl rfl ⟨qd4 qft.1, qbA qft.1⟩ (fun hHeld => ?_)
 generalize w16.drew = w17 at qff qas qft HB hHeld ⊢
 refine qgP (i := 1) (N := some 25) (v := ?_) (a' := ?_) #[false, true, false, false, false, false, false] rfl rfl (by kernel_rfl) (fun _ _ _ h => h) (Or.inl ⟨by rfl, ?_⟩) ?_ ?_; rotate_left
 ·intro w'; go_simp
  with_reducible rfl
 rotate_left
 ·simp only [Act.put, List.setIfInBounds_toArray, List.set_cons_zero, List.set_cons_succ, qec, qey]; rfl
 refine qlP (i := 0) (N := some 24) (v := ?_) (a' := ?_) #[true, true, false, false, false, false, false] rfl rfl (by kernel_rfl) (fun _ _ _ h => h) (Or.inl ⟨by rfl, ?_⟩) hHeld ?_ ?_; rotate_left
 ·rintro w' ⟨s0, s1⟩; go_simp
  with_reducible rfl
 rotate_left
 ·simp only [Act.put, List.setIfInBounds_toArray, List.set_cons_zero, List.set_cons_succ, qec, qey]; rfl
 refine qlP (i := 2) (N := some 26) (v := ?_) (a' := ?_) #[true, true, true, false, false, false, false] rfl rfl (by kernel_rfl) (fun _ _ _ h => h) (Or.inl ⟨by rfl, ?_⟩) hHeld ?_ ?_; rotate_left
 ·rintro w' ⟨s0, s1⟩; go_simp
  with_reducible rfl
 rotate_left
 ·simp only [Act.put, List.setIfInBounds_toArray, List.set_cons_zero, List.set_cons_succ, qec, qey]; rfl
 refine qgP (i := 3) (N := some 27) (v := ?_) (a' := ?_) #[true, true, true, true, false, false, false] rfl rfl (by kernel_rfl) (fun _ _ _ h => h) (Or.inl ⟨by rfl, ?_⟩) ?_ ?_; rotate_left
 ·intro w'; go_simp
  with_reducible rfl
 rotate_left
 ·simp only [Act.put, List.setIfInBounds_toArray, List.set_cons_zero, List.set_cons_succ, qec, qey]; rfl
 refine qgP (i := 4) (N := some 28) (v := ?_) (a' := ?_) #[true, true, true, true, true, false, false] rfl rfl (by kernel_rfl) (fun _ _ _ h => h) (Or.inl ⟨by rfl, ?_⟩) ?_ ?_; rotate_left
 ·intro w'; go_simp
  with_reducible rfl
 rotate_left
 ·simp only [Act.put, List.setIfInBounds_toArray, List.set_cons_zero, List.set_cons_succ, qec, qey]; rfl
 refine qfC (i := 5) (N := none) #[true, true, true, true, true, true, false] rfl rfl (by kernel_rfl) (by decide) (fun K hK => ?_); obtain ⟨hs18, hfs18⟩ := qcx qas.1; have hns18_1 := qgg.1; have hms18_1 := qhE.1; have hs19 := qbA qas.1; have hfs19 := qae qas.1 1; have hns19_1 := qgg.1; have hms19_1 := qhE.1; refine skip_ (w1 := ?_) (by rfl) rfl ?_ ?_; rotate_left
 ·go_simp; rfl
 refine hK.out _ _ ⟨((cell_far (p := ⟨qbD, _, none⟩) qgg.1 _).trans (((cell_far (p := ⟨qbD, _, none⟩) qgg.1 _).trans (hHeld.1)))), ((cell_far (p := ⟨qbD, _, none⟩) qgg.1 _).trans (((cell_far (p := ⟨qbD, _, none⟩) qgg.1 _).trans (hHeld.2))))⟩ (fun hHeld => ?_); clear hK K; refine qgP (i := 6) (N := some 3) (v := ?_) (a' := ?_) #[true, true, true, true, true, true, true] rfl rfl (by kernel_rfl) (fun _ _ _ h => h) (Or.inl ⟨by rfl, ?_⟩) ?_ ?_; rotate_left
 ·intro w'; go_simp
  with_reducible rfl
 rotate_left
 ·simp only [Act.put, List.setIfInBounds_toArray, List.set_cons_zero, List.set_cons_succ, qec, qey]; rfl
 refine qf5 (by kernel_rfl) ?_
 try go_wp2
 refine bodyPost_ret (qe6 rfl _ _ qbD 169 #[.int .i64 qaQ, .slice qjI qcq.length qjK] (0, 0) _ rfl (by (with_reducible repeat (first | refine qaj ?_ _ | refine qak ?_ | refine qag ?_ _)); refine qa9 (cs := #[.int .i64 qaQ, .slice none 0 0]) ?_ 1 _ rfl; (with_reducible repeat (first | refine qaj ?_ _ | refine qak ?_ | refine qag ?_ _)); refine qa9 (cs := #[.int .i64 0, .slice none 0 0]) ?_ 0 _ rfl; apply_rules only [qas.1, qaj, qak, qag]) Tryz.underlying169 rfl (by kernel_rfl)) rfl ?_; exact ⟨_, qca, by (with_reducible repeat (first | apply Kd.qaq | apply Kd.qar | apply Kd.qax)); exact Kd.qa2 (Kd.qco (p := ⟨qbD, 1, none⟩) (Kd.qco (p := ⟨qbD, 0, none⟩) (Kd.qcc qff.1 qas.1 (by decide)) (fun _ hk => hk.2) (.int .i64 qaQ)) (fun _ hk => hk.2) (.slice qjI qcq.length qjK)) (fun _ hk => trivial), by apply_rules only [HB.1, qal, qaf, qah, qat, qdz.1, qoO.1]⟩
def qe5.f (a0 : Int) : Option (Bool) := if a0 ≥ 0 then (some (decide (a0 ≤ 1000000000))) else (some false)
theorem qe5.calls (a0 : Int) (r : Bool) (w : World) (h : qe5.f a0 = some r) :
  Calls Tryz.prog 188 #[.int .i64 a0] w fun e w' => e = .returned (.bool r) ∧ qcY w w' := by
 have H : (if a0 ≥ 0 then (some (decide (a0 ≤ 1000000000))) else (some false)) = some r := h; clear h; by_cases c2 : a0 ≥ 0
 ·rw [if_pos c2] at H; have qfB : decide (0 ≤ a0) = true := decide_eq_true c2; clear c2; obtain rfl := sj_ H; go_enter Tryz.func188, Tryz.ntmps188; go_wp2
  go_ret
  exact ⟨qay, qc3⟩
 rw [if_neg c2] at H; have qfB : decide (0 ≤ a0) = false := decide_eq_false c2; clear c2; obtain rfl := sj_ H; go_enter Tryz.func188, Tryz.ntmps188; go_wp2
 go_ret
 exact ⟨qay, qc3⟩
def qbE.j0 : Nat → Int → Bool → Int → List Int → Option (Int × Bool)
 | 0, _, _, _, _ => none
 | k + 1, x1, x20, qt8, qgR => if x20 = true then (some (0, false)) else (if (qgR.length : Int) = 0 then (none) else (if 0 ≤ (Int.tmod x1 (qgR.length : Int)) then (if (Int.tmod x1 (qgR.length : Int)) < (qgR.length : Int) then (if (wrap64 ((wrap64 ((wrap64 (Int.tdiv x1 (qgR.length : Int))) * qt8)) + (rd qgR (Int.tmod x1 (qgR.length : Int))))) > 1000000000000000 then (some (0, false)) else (some (wrap64 ((wrap64 ((wrap64 (Int.tdiv x1 (qgR.length : Int))) * qt8)) + (rd qgR (Int.tmod x1 (qgR.length : Int)))), true))) else (none)) else (none)))
def qbE.f (k : Nat) (l0 : List (qac)) (a1 : Int) : Option (Int × Bool) := (qbW.f k l0).bind fun qdw => (if qdw.2.2 = true then ((qe5.f a1).bind fun t107 => (qbE.j0 k a1 (!t107) qdw.1 qdw.2.1)) else (qbE.j0 k a1 true qdw.1 qdw.2.1))
theorem qbE.calls (k : Nat) (A0 : Option Addr) (c0 : Nat) (l0 : List (qac)) (a1 : Int) (r1 : Int) (r2 : Bool) (w : World) (hr0 : Kd.C qaG w A0 l0.length l0) (hc0 : l0.length ≤ c0) (h : qbE.f k l0 a1 = some (r1, r2)) :
  Calls Tryz.prog 126 #[.slice A0 l0.length c0, .int .i64 a1] w fun e w' => e = .returned (.tuple #[.int .i64 r1, .bool r2]) ∧ Below w.heap.size w w' := by
 have hu169 := Tryz.underlying169; have HR0 := ak_ hr0; have HC0 := ak_ hc0; clear hr0 hc0; have HB := br_ w; have H : ((qbW.f k l0).bind fun qdw => (if qdw.2.2 = true then ((qe5.f a1).bind fun t107 => (qbE.j0 k a1 (!t107) qdw.1 qdw.2.1)) else (qbE.j0 k a1 true qdw.1 qdw.2.1))) = some (r1, r2) := h; clear h; obtain ⟨⟨qav, qaQ, t105⟩, A3, H⟩ := qaB H; (try dsimp only at H); have HC4 := ak_ H; clear H; go_enter Tryz.func126, Tryz.ntmps126
 go_upto_region 2 with (first | (go_at_call 187; (with_reducible refine (qbW.calls k _ _ l0 qav qaQ t105 _ ?qaz ?qaA A3.1).mono ?_); (case qaz => exact qf0); (case qaA => exact qb9); rintro e w5 ⟨qht, rfl, ho0, hb⟩; have qbZ := ak_ (Kd.qaw ho0 (qab qao)); replace HB := HB.mw hb; (try clear hb ho0)) | ((with_reducible refine qam (N := 6) rfl ?_); refine bx_ 6 rfl (cs := #[.int .i64 0, .slice none 0 0]) (t := 169) qa1 ?_; intro qev hg w6 hbox hb; replace qbZ := qbZ.mw hb; have qcQ := ak_ (hbox); have qnv := ak_ (HB.ge hg); have qjg := ak_ (HB.ge hg); replace HB := HB.mw hb; clear hb hbox hg; obtain ⟨qn4, qn5, qn7, qn8⟩ := qbl qcQ.1; obtain ⟨Ao8, co8, eo8⟩ := Kd.qaI qbZ.1; subst eo8))
 repeat (go_quiet (first | (go_at_call 187; (with_reducible refine (qbW.calls k _ _ l0 qav qaQ t105 _ ?qaz ?qaA A3.1).mono ?_); (case qaz => exact qf0); (case qaA => exact qb9); rintro e w5 ⟨qht, rfl, ho0, hb⟩; have qbZ := ak_ (Kd.qaw ho0 (qab qao)); replace HB := HB.mw hb; (try clear hb ho0)) | ((with_reducible refine qam (N := 6) rfl ?_); refine bx_ 6 rfl (cs := #[.int .i64 0, .slice none 0 0]) (t := 169) qa1 ?_; intro qev hg w6 hbox hb; replace qbZ := qbZ.mw hb; have qcQ := ak_ (hbox); have qnv := ak_ (HB.ge hg); have qjg := ak_ (HB.ge hg); replace HB := HB.mw hb; clear hb hbox hg; obtain ⟨qn4, qn5, qn7, qn8⟩ := qbl qcQ.1; obtain ⟨Ao8, co8, eo8⟩ := Kd.qaI qbZ.1; subst eo8)); go_upto_region 2 with (first | (go_at_call 187; (with_reducible refine (qbW.calls k _ _ l0 qav qaQ t105 _ ?qaz ?qaA A3.1).mono ?_); (case qaz => exact qf0); (case qaA => exact qb9); rintro e w5 ⟨qht, rfl, ho0, hb⟩; have qbZ := ak_ (Kd.qaw ho0 (qab qao)); replace HB := HB.mw hb; (try clear hb ho0)) | ((with_reducible refine qam (N := 6) rfl ?_); refine bx_ 6 rfl (cs := #[.int .i64 0, .slice none 0 0]) (t := 169) qa1 ?_; intro qev hg w6 hbox hb; replace qbZ := qbZ.mw hb; have qcQ := ak_ (hbox); have qnv := ak_ (HB.ge hg); have qjg := ak_ (HB.ge hg); replace HB := HB.mw hb; clear hb hbox hg; obtain ⟨qn4, qn5, qn7, qn8⟩ := qbl qcQ.1; obtain ⟨Ao8, co8, eo8⟩ := Kd.qaI qbZ.1; subst eo8)))
 (try simp only [Act.put, List.setIfInBounds_toArray, List.set_cons_zero, List.set_cons_succ])
 go_cut [20] (fun v20 wc => ∃ (kq : Nat) (x20_3 : Bool), v20 = .bool x20_3 ∧ qai (qbE.j0 kq a1 x20_3 qav qaQ = some (r1, r2)) ∧ qai (kq ≤ k) ∧ qai (Kd.R (Kd.int .i64) 3 wc w.heap.size (fun _ => True) (.slice Ao8 qaQ.length co8) qaQ) ∧ qai (wc.heap[qev]? = some (.cells #[.int .i64 qav, (.slice Ao8 qaQ.length co8)] 169 (0, 0))) ∧ qai (Below w.heap.size w wc))
 case first =>
  have H := HC4.1; clear HC4; by_cases c9 : t105 = true
  ·subst c9; rw [if_pos rfl] at H; obtain ⟨t107, A10, H⟩ := qaB H; (try dsimp only at H); have H' := ak_ H; clear H
   go_wp2_with (first | (go_at_call 188; (with_reducible refine (qe5.calls a1 t107 _ A10.1).mono ?_); rintro e w' ⟨rfl, ⟨nd, rfl⟩⟩; (try first | exact ⟨rfl, _, World.drewN_drewN _ _ _⟩ | exact ⟨rfl, _, Eq.trans (World.drewN_drewN _ _ _) (congrArg (World.drewN _) (Nat.add_assoc _ _ _))⟩)))
   repeat (go_quiet (first | (go_at_call 188; (with_reducible refine (qe5.calls a1 t107 _ A10.1).mono ?_); rintro e w' ⟨rfl, ⟨nd, rfl⟩⟩; (try first | exact ⟨rfl, _, World.drewN_drewN _ _ _⟩ | exact ⟨rfl, _, Eq.trans (World.drewN_drewN _ _ _) (congrArg (World.drewN _) (Nat.add_assoc _ _ _))⟩))); try go_wp2_with (first | (go_at_call 188; (with_reducible refine (qe5.calls a1 t107 _ A10.1).mono ?_); rintro e w' ⟨rfl, ⟨nd, rfl⟩⟩; (try first | exact ⟨rfl, _, World.drewN_drewN _ _ _⟩ | exact ⟨rfl, _, Eq.trans (World.drewN_drewN _ _ _) (congrArg (World.drewN _) (Nat.add_assoc _ _ _))⟩))))
   go_meet
   case rel => exact ⟨_, (!t107), qay, H', ⟨qiC⟩, ⟨k18_⟩, ⟨k6_⟩, ⟨qlJ⟩⟩
  replace c9 := Bool.eq_false_iff.mpr c9; subst c9; rw [if_neg ff_] at H; have H' := ak_ H; clear H; go_wp2
  repeat (go_quiet (fail); try go_wp2)
  go_meet
  case rel => exact ⟨_, (true), qay, H', ⟨qiC⟩, ⟨k18_⟩, ⟨k6_⟩, ⟨qlJ⟩⟩
 case rest =>
  clear HC4
  skip
  obtain ⟨kq, x20_3, rfl, HA, HJ3, qny, qcQ, HB⟩ := hcut
  cases kq with
  | zero => exact absurd HA.1 (by simp [qbE.j0])
  | succ kj3 =>
   have H := HA.1; clear HA; simp only [qbE.j0] at H; by_cases c11 : x20_3 = true
   ·subst c11; rw [if_pos rfl] at H; obtain ⟨rfl, rfl⟩ := qdQ H; go_wp2
    repeat (go_quiet (fail); try go_wp2)
    go_ret2
    exact ⟨qca, qlJ⟩
   replace c11 := Bool.eq_false_iff.mpr c11; subst c11; rw [if_neg ff_] at H; by_cases c12 : (qaQ.length : Int) = 0
   ·rw [if_pos c12] at H; exact absurd H (by simp)
   rw [if_neg c12] at H; have qhN : ((qaQ.length : Int) == 0) = false := beq_eq_false_iff_ne.mpr c12; have c12b1 : ((qaQ.length : Int) != 0) = true := bne_iff_ne.mpr c12
   have c12b2 : ¬ (qaQ = []) := fun h_ => c12 (by rw [h_]; rfl)
   obtain ⟨qrq, hji13⟩ : ∃ j_ : Int, (Int.tmod a1 (qaQ.length : Int)) = j_ := ⟨_, rfl⟩
   replace H : (if 0 ≤ (qrq) then (if (qrq) < (qaQ.length : Int) then (if (wrap64 ((wrap64 ((wrap64 (Int.tdiv a1 (qaQ.length : Int))) * qav)) + (rd qaQ (qrq)))) > 1000000000000000 then (some (0, false)) else (some (wrap64 ((wrap64 ((wrap64 (Int.tdiv a1 (qaQ.length : Int))) * qav)) + (rd qaQ (qrq))), true))) else (none)) else (none)) = some (r1, r2) := by first | (rw [hji13] at H; exact H) | (simp only [hji13] at H ⊢; exact H)
   obtain ⟨c14, H⟩ := qct H; have qpa := decide_eq_true c14; clear c14; obtain ⟨c15, H⟩ := qct H; have qnH := decide_eq_true c15; clear c15; by_cases c16 : (wrap64 ((wrap64 ((wrap64 (Int.tdiv a1 (qaQ.length : Int))) * qav)) + (rd qaQ (qrq)))) > 1000000000000000
   ·rw [if_pos c16] at H; have c16b0 : decide (1000000000000000 < (wrap64 ((wrap64 ((wrap64 (Int.tdiv a1 (qaQ.length : Int))) * qav)) + (rd qaQ (qrq))))) = true := decide_eq_true c16; clear c16; obtain ⟨rfl, rfl⟩ := qdQ H; obtain ⟨qsR, qsS, qs7, qs8⟩ := qbl qcQ.1; have qrQ : 0 ≤ ((qrq) : Int) := of_decide_eq_true qaL; have qrR : (qrq) < (qaQ.length : Int) := of_decide_eq_true qaL; obtain ⟨qsa, e108, qk8⟩ := Kd.qew (Kd.qan qny.1).2.2 (qrq) qrQ qrR
    cases e108
    replace qrQ := eq_true qrQ; replace qrR := eq_true qrR; go_wp2
    repeat (go_quiet (fail); try go_wp2)
    go_ret2
    exact ⟨by first | rfl | (simp [qea, qeb] <;> rfl) | (simp only [← hji13]; first | rfl | (simp [qea, qeb] <;> rfl)) | (simp [*, qea, qeb] <;> rfl), qlJ⟩
   rw [if_neg c16] at H; have c16b0 : decide (1000000000000000 < (wrap64 ((wrap64 ((wrap64 (Int.tdiv a1 (qaQ.length : Int))) * qav)) + (rd qaQ (qrq))))) = false := decide_eq_false c16; clear c16; obtain ⟨rfl, rfl⟩ := qdQ H; obtain ⟨qpr, qps, qpx, qpy⟩ := qbl qcQ.1; have qrQ : 0 ≤ ((qrq) : Int) := of_decide_eq_true qaL; have qrR : (qrq) < (qaQ.length : Int) := of_decide_eq_true qaL; obtain ⟨qsa, e108, qk8⟩ := Kd.qew (Kd.qan qny.1).2.2 (qrq) qrQ qrR
   cases e108
   replace qrQ := eq_true qrQ; replace qrR := eq_true qrR; go_wp2
   repeat (go_quiet (fail); try go_wp2)
   go_ret2
   exact ⟨by first | rfl | (simp [qea, qeb] <;> rfl) | (simp only [← hji13]; first | rfl | (simp [qea, qeb] <;> rfl)) | (simp [*, qea, qeb] <;> rfl), qlJ⟩
def qdH.f (a0 : Int) : Option (Bool) := if a0 ≥ 1 then (some (decide (a0 ≤ 1000000000))) else (some false)
theorem qdH.calls (a0 : Int) (r : Bool) (w : World) (h : qdH.f a0 = some r) :
  Calls Tryz.prog 189 #[.int .i64 a0] w fun e w' => e = .returned (.bool r) ∧ qcY w w' := by
 have H : (if a0 ≥ 1 then (some (decide (a0 ≤ 1000000000))) else (some false)) = some r := h; clear h; by_cases c2 : a0 ≥ 1
 ·rw [if_pos c2] at H; have qfB : decide (1 ≤ a0) = true := decide_eq_true c2; clear c2; obtain rfl := sj_ H; go_enter Tryz.func189, Tryz.ntmps189; go_wp2
  go_ret
  exact ⟨qay, qc3⟩
 rw [if_neg c2] at H; have qfB : decide (1 ≤ a0) = false := decide_eq_false c2; clear c2; obtain rfl := sj_ H; go_enter Tryz.func189, Tryz.ntmps189; go_wp2
 go_ret
 exact ⟨qay, qc3⟩
mutual
def qaX.l0 : Nat → Int → List (List Int) → Option ((List (List Int)))
 | 0, _, _ => none
 | k + 1, x0, x3 => if x0 > 1 then ((qbd.f k x0).bind fun qcq => (qaX.l1 k x0 x3 qcq 0)) else (some x3)
def qaX.l1 : Nat → Int → List (List Int) → Int → Int → Option ((List (List Int)))
 | 0, _, _, _, _ => none
 | k + 1, x0, x3, x4, x5 => if x4 = 0 then (none) else (if (Int.tmod x0 x4) = 0 then (qaX.l1 k (wrap64 (Int.tdiv x0 x4)) x3 x4 (wrap64 (x5 + 1))) else (if x3.length < 5864062014805 then (qaX.l0 k x0 (x3 ++ [(([x4, x5] : List Int))])) else (none)))
end
def qaX.f (k : Nat) (a0 : Int) : Option ((List (List Int))) := qaX.l0 k a0 (([] : List (List Int)))
theorem qaX.calls (k : Nat) (a0 : Int) (r : List (List Int)) (w : World) (h : qaX.f k a0 = some r) :
  Calls Tryz.prog 190 #[.int .i64 a0] w fun e w' => ∃ v0_ : Value, e = .returned (v0_) ∧ Kd.S (Kd.slice 3 (Kd.int .i64)) 48 w' w.heap.size (fun _ => True) v0_ r ∧ Below w.heap.size w w' := by
 have HB := br_ w; have H : (qaX.l0 k a0 (([] : List (List Int)))) = some r := h; clear h
 obtain ⟨qeW, hy_⟩ : ∃ y_ : List (List Int), y_ = (([] : List (List Int))) := ⟨_, rfl⟩
 replace H : (qaX.l0 k a0 qeW) = some r := qfb; have qet := ak_ hy_; clear hy_; have H' := ak_ H; clear H; go_enter Tryz.func190, Tryz.ntmps190
 go_wp2_with (first | ((with_reducible refine qam (N := 6) rfl ?_); refine Kd.S_lit (Kd.slice 3 (Kd.int .i64)) _ 48 ?hg (N := 6) ?hd (xs := ([] : List (List Int))) (inner := []) (ok := fun _ => True) (okp := fun _ => True) ?hr ?hp (fun _ hk => hk) trivial (Below.refl _ _) (Nat.le_refl _) (by simp) ?_; (case hd => rfl); (case hg => rfl); (case hr => exact qa1); (case hp => exact (qep.none _ _)); intro qjd w2 ho3 hb hg_ hnew_; clear hg_ hnew_; (first | rw [← qet.1] at ho3 | (simp only [Int.reduceToNat] at ho3; rw [← qet.1] at ho3)); have qcI := ak_ (Kd.qd3 ho3 (qab qao)); replace HB := HB.mw hb; clear hb ho3))
 go_loopg [0, 3] k (fun kq v0 v3 w' => ∃ (qfJ : Int) (qbx : List (List Int)), v0 = .int .i64 qfJ ∧ qai (qaX.l0 kq qfJ qbx = some r) ∧ qai (kq ≤ k) ∧ qai (Kd.S (Kd.slice 3 (Kd.int .i64)) 48 w' w.heap.size (fun _ => True) v3 qbx) ∧ qai (Below w.heap.size w w'))
 case atStart => exact ⟨(a0), (qeW), qay, H', ⟨Nat.le_refl _⟩, ⟨by apply_rules only [qcI.1, Kd.qdm, Kd.qdn, Kd.qeo]⟩, ⟨qao⟩⟩
 case round =>
  clear H'; obtain ⟨qfJ, qbx, rfl, HA, HK1, qdu, HB⟩ := hrel
  cases gk with
  | zero => exact absurd HA.1 (by simp [qaX.l0])
  | succ k1 =>
   have H := HA.1; clear HA; simp only [qaX.l0] at H; by_cases c4 : qfJ > 1; rotate_left
   ·rw [if_neg c4] at H; have qfw : decide (1 < qfJ) = false := decide_eq_false c4; clear c4; obtain rfl := sj_ H; go_wp2
    go_ret
    exact ⟨_, qca, by (with_reducible repeat (first | apply Kd.qdm | apply Kd.qdn | apply Kd.qeo)); exact qdu.1, qao⟩
   rw [if_pos c4] at H; have qfw : decide (1 < qfJ) = true := decide_eq_true c4; clear c4; obtain ⟨qcq, A5, H⟩ := qaB H; (try dsimp only at H); have H' := ak_ H; clear H
   go_wp2_with (first | (refine gl_ 10 Tryz.func225 #[.int .i64 qfJ] rfl qbJ ?_; (with_reducible refine (qbd.calls k1 qfJ qcq _ A5.1).mono ?_); rintro e w' ⟨rfl, ⟨nd, rfl⟩⟩; refine ⟨_, rfl, ?_⟩))
   go_loopg [0, 5] k1 (fun kq v0 v5 w' => ∃ (qkh : Int) (qf3 : Int), v0 = .int .i64 qkh ∧ v5 = .int .i64 qf3 ∧ qai (qaX.l1 kq qkh qbx qcq qf3 = some r) ∧ qai (kq ≤ k1) ∧ qai (Kd.S (Kd.slice 3 (Kd.int .i64)) 48 w' w.heap.size (fun _ => True) u3 qbx) ∧ qai (Below w.heap.size w w'))
   case atStart => exact ⟨(qfJ), (0), qay, qay, H', ⟨Nat.le_refl _⟩, ⟨by apply_rules only [qdu.1, Kd.qdm, Kd.qdn, Kd.qeo]⟩, ⟨qao⟩⟩
   case round =>
    clear H'
    skip
    obtain ⟨qkh, qf3, rfl, rfl, HA, HK2, qdu, HB⟩ := hrel
    cases gk with
    | zero => exact absurd HA.1 (by simp [qaX.l1])
    | succ k2 =>
     have H := HA.1; clear HA; simp only [qaX.l1] at H; by_cases c6 : qcq = 0
     ·rw [if_pos c6] at H; exact absurd H (by simp)
     rw [if_neg c6] at H; have qgc : (qcq == 0) = false := beq_eq_false_iff_ne.mpr c6; have qnJ : (qcq != 0) = true := bne_iff_ne.mpr c6; by_cases c7 : (Int.tmod qkh qcq) = 0
     ·rw [if_pos c7] at H; have qhx : ((Int.tmod qkh qcq) == 0) = true := beq_iff_eq.mpr c7; have qoH : ((Int.tmod qkh qcq) != 0) = false := bne_eq_false_iff_eq.mpr c7; clear c7; have H' := ak_ H; clear H; go_wp2
      go_roundg k2
      case measure => have := HK1.1; have := HK2.1; omega
      case rel => exact ⟨(wrap64 (Int.tdiv qkh qcq)), (wrap64 (qf3 + 1)), qay, qay, H', ⟨qm3⟩, ⟨by apply_rules only [qdu.1, Kd.qdm, Kd.qdn, Kd.qeo]⟩, ⟨qao⟩⟩
     rw [if_neg c7] at H; have qhx : ((Int.tmod qkh qcq) == 0) = false := beq_eq_false_iff_ne.mpr c7; have qoH : ((Int.tmod qkh qcq) != 0) = true := bne_iff_ne.mpr c7
     obtain ⟨qic, hy_⟩ : ∃ y_ : List Int, y_ = (([qcq, qf3] : List Int)) := ⟨_, rfl⟩
     replace H : (if qbx.length < 5864062014805 then (qaX.l0 k2 qkh (qbx ++ [qic])) else (none)) = some r := qfb; have qhG := ak_ hy_; clear hy_; obtain ⟨c8, H⟩ := qct H; have LMc8 := ak_ c8; clear c8
     obtain ⟨qjc, hy_⟩ : ∃ y_ : List (List Int), y_ = (qbx ++ [qic]) := ⟨_, rfl⟩
     replace H : (qaX.l0 k2 qkh qjc) = some r := qfb; have qoX := ak_ hy_; clear hy_; have H' := ak_ H; clear H
     go_wp2_with (first | ((with_reducible refine qam (N := 23) rfl ?_); refine Kd.qhH (Kd.int .i64) _ 3 ?hg (N := 23) ?hd (xs := ([qcq, qf3] : List Int)) (inner := [.int .i64 qcq, .int .i64 qf3]) (ok := fun _ => True) (okp := fun _ => True) ?hr ?hp (fun _ hk => hk) trivial (Below.refl _ _) (Nat.le_refl _) (by simp) ?_; (case hd => rfl); (case hg => rfl); (case hr => exact qa1); (case hp => exact (qep.one (show Kd.M (Kd.int .i64) _ _ _ qcq [.int .i64 qcq] from rfl) (qep.one (show Kd.M (Kd.int .i64) _ _ _ qf3 [.int .i64 qf3] from rfl) (qep.none _ _)))); intro qrK w9 qmb hb hg_ hnew_; clear hg_ hnew_; (first | rw [← qhG.1] at qmb | (simp only [Int.reduceToNat] at qmb; rw [← qhG.1] at qmb)); replace qdu := ak_ (Kd.qqe (by apply_rules only [qdu.1, Kd.qdm, Kd.qdn, Kd.qeo]) (Kd.qfm qmb) hb); have qfa := ak_ (Kd.qaw qmb (qab qao)); replace HB := HB.mw hb; clear hb qmb; obtain ⟨qjI, qjK, qoJ⟩ := Kd.qaI qfa.1; subst qoJ) | ((with_reducible refine qa5 (b := .append) (xs := #[.tmp 20, .tmp 24]) rfl ?_); at_builtin; refine Kd.qkk (Kd.slice 3 (Kd.int .i64)) (w0 := w) w.heap.size rfl (.tmp 20) (.tmp 24) 129 48 (.slice none 0 0) 24 rfl Tryz.underlying129 info48 rfl (by decide) (by omega) u3 qbx qic [.slice qjI qic.length qjK] (fun _ => True) (fun k_ => some k_ = (.slice qjI qic.length qjK : Value).ownBlock) rfl rfl ?aP (fun k_ hk_ => ((Kd.qa2 (ok' := fun k_ => ((fun _ => True)) k_ ∧ some k_ ≠ (u3 : Value).ownBlock) (Kd.qkj (qfa.1) (Kd.qkI qdu.1) (by decide)) (fun k_ hk => ⟨trivial, hk.2⟩))).1 k_ hk_.symm) ?aF ?aO ?aB ?aS ?aL ?_; (case aP => exact Kd.M_row (Kd.qa2 (Kd.qhJ rfl (Kd.qa2 (ok' := fun k_ => ((fun _ => True)) k_ ∧ some k_ ≠ (u3 : Value).ownBlock) (Kd.qkj (qfa.1) (Kd.qkI qdu.1) (by decide)) (fun k_ hk => ⟨trivial, hk.2⟩))) (fun _ h_ => h_))); (case aB => exact qao); (case aF => exact (fun _ _ => trivial)); (case aO => exact (by (with_reducible repeat (first | apply Kd.qdm | apply Kd.qdn | apply Kd.qeo)); exact Kd.qgz qdu.1 (fun k_ hk => ⟨trivial, fun e_ => hk.2 e_⟩))); (case aS => exact (qab qao)); (case aL => have := LMc8.1; omega); intro v109 w11 ho hb hg hat; rw [← qoX.1] at ho; replace HB := ak_ (hb); have qnw := ak_ (ho); clear qdu qfa; clear ho hb hg hat))
     go_roundg k2
     case measure => have := HK1.1; have := HK2.1; omega
     case rel => exact ⟨(qkh), (qjc), qay, H', ⟨qm3⟩, ⟨by apply_rules only [qnw.1, Kd.qdm, Kd.qdn, Kd.qeo]⟩, ⟨qao⟩⟩
def qcL.f (k : Nat) (a0 : Int) : Option ((List (List Int)) × Bool) := (qdH.f a0).bind fun qav => (if qav = true then ((qaX.f k a0).bind fun qaQ => (some (qaQ, true))) else (some (([] : List (List Int)), false)))
theorem qcL.calls (k : Nat) (a0 : Int) (r1 : List (List Int)) (r2 : Bool) (w : World) (h : qcL.f k a0 = some (r1, r2)) :
  Calls Tryz.prog 127 #[.int .i64 a0] w fun e w' => ∃ v0_ : Value, e = .returned (.tuple #[v0_, .bool r2]) ∧ Kd.S (Kd.slice 3 (Kd.int .i64)) 48 w' w.heap.size (fun _ => True) v0_ r1 ∧ Below w.heap.size w w' := by
 have HB := br_ w; have H : ((qdH.f a0).bind fun qav => (if qav = true then ((qaX.f k a0).bind fun qaQ => (some (qaQ, true))) else (some (([] : List (List Int)), false)))) = some (r1, r2) := h; clear h; obtain ⟨qav, A2, H⟩ := qaB H; (try dsimp only at H); by_cases c3 : qav = true
 ·subst c3; rw [if_pos rfl] at H; obtain ⟨qaQ, A4, H⟩ := qaB H; (try dsimp only at H); obtain ⟨rfl, rfl⟩ := qdQ H; go_enter Tryz.func127, Tryz.ntmps127
  go_wp2_with (first | (refine gl_ 5 Tryz.func189 #[.int .i64 a0] rfl qbJ ?_; (with_reducible refine (qdH.calls a0 true _ A2.1).mono ?_); rintro e w' ⟨rfl, ⟨nd, rfl⟩⟩; refine ⟨_, rfl, ?_⟩) | (refine gl_ 8 Tryz.func190 #[.int .i64 a0] rfl qbJ ?_; (with_reducible refine (qaX.calls k a0 qaQ _ A4.1).mono ?_); rintro e w5 ⟨qht, rfl, ho0, hb⟩; refine ⟨_, rfl, ?_⟩; have qbZ := ak_ (Kd.qd3 ho0 (qab qao)); replace HB := HB.mw hb; (try clear hb ho0)))
  go_ret2
  exact ⟨_, qca, by (with_reducible repeat (first | apply Kd.qdm | apply Kd.qdn | apply Kd.qeo)); exact qbZ.1, qao⟩
 replace c3 := Bool.eq_false_iff.mpr c3; subst c3; rw [if_neg ff_] at H; obtain ⟨rfl, rfl⟩ := qdQ H; go_enter Tryz.func127, Tryz.ntmps127
 go_wp2_with (first | (refine gl_ 5 Tryz.func189 #[.int .i64 a0] rfl qbJ ?_; (with_reducible refine (qdH.calls a0 false _ A2.1).mono ?_); rintro e w' ⟨rfl, ⟨nd, rfl⟩⟩; refine ⟨_, rfl, ?_⟩))
 go_ret2
 exact ⟨_, qca, k55_, qao⟩
def qbq.l0 : Nat → List ByteArray → List Int → Int → Int → Option (ByteArray)
 | 0, _, _, _, _ => none
 | k + 1, x3, x7, x8, x9 => if x9 < x8 then (if 0 ≤ x9 then (if x9 < (x7.length : Int) then ((qbm.f (rd x7 x9)).bind fun t105 => (if x3.length < 8796093022208 then (qbq.l0 k (x3 ++ [t105]) x7 x8 (wrap64 (x9 + 1))) else (none))) else (none)) else (none)) else (if (x3.length : Int) = 0 then (some (⟨#[45]⟩ : ByteArray)) else ((strings_Join.f x3 (⟨#[44]⟩ : ByteArray)).bind fun t109 => (some t109)))
def qbq.f (k : Nat) (l0 : List Int) : Option (ByteArray) := qbq.l0 k (([] : List ByteArray)) l0 (l0.length : Int) 0
theorem qbq.calls (k : Nat) (A0 : Option Addr) (c0 : Nat) (l0 : List Int) (r : ByteArray) (w : World) (hr0 : Kd.C (Kd.int .i64) w A0 l0.length l0) (hc0 : l0.length ≤ c0) (h : qbq.f k l0 = some r) (hG : qbc w) :
  Calls Tryz.prog 131 #[.slice A0 l0.length c0] w fun e w' => e = .returned (.string r) ∧ Below w.heap.size w w' := by
 have HR0 := ak_ hr0; have HC0 := ak_ hc0; clear hr0 hc0; have HB := br_ w; have HG := ak_ hG; clear hG; have H : (qbq.l0 k (([] : List ByteArray)) l0 (l0.length : Int) 0) = some r := h; clear h
 obtain ⟨qeW, hy_⟩ : ∃ y_ : List ByteArray, y_ = (([] : List ByteArray)) := ⟨_, rfl⟩
 replace H : (qbq.l0 k qeW l0 (l0.length : Int) 0) = some r := qfb; have qet := ak_ hy_; clear hy_; have H' := ak_ H; clear H; go_enter Tryz.func131, Tryz.ntmps131
 go_wp2_with (first | ((with_reducible refine qam (N := 6) rfl ?_); refine li_ Kd.string 9 6 rfl (xs := ([] : List ByteArray)) qa1 ?_; intro qjd w2 ho3 hb; (first | rw [← qet.1] at ho3 | (simp only [Int.reduceToNat] at ho3; rw [← qet.1] at ho3)); have qcI := ak_ (Kd.qaw ho3 (qab qao)); replace HB := HB.mw hb; clear hb ho3))
 go_loopg [3, 9] k (fun kq v3 v9 w' => ∃ (qbx : List ByteArray) (qdt : Int), v9 = .int .i64 qdt ∧ qai (qbq.l0 kq qbx l0 (l0.length : Int) qdt = some r) ∧ qai (kq ≤ k) ∧ qai (Kd.R Kd.string 9 w' w.heap.size (fun _ => True) v3 qbx) ∧ qai (Below w.heap.size w w'))
 case atStart => exact ⟨(qeW), (0), qay, H', ⟨Nat.le_refl _⟩, ⟨qoL⟩, ⟨qao⟩⟩
 case round =>
  clear H'; obtain ⟨qbx, qdt, rfl, HA, HK1, qdu, HB⟩ := hrel
  cases gk with
  | zero => exact absurd HA.1 (by simp [qbq.l0])
  | succ k1 =>
   have H := HA.1; clear HA; simp only [qbq.l0] at H; by_cases c4 : qdt < (l0.length : Int); rotate_left
   ·rw [if_neg c4] at H; have qfw := decide_eq_false c4; clear c4; by_cases c11 : (qbx.length : Int) = 0
    ·rw [if_pos c11] at H; have qgK : ((qbx.length : Int) == 0) = true := beq_iff_eq.mpr c11; have qhM : ((qbx.length : Int) != 0) = false := bne_eq_false_iff_eq.mpr c11; clear c11; obtain rfl := sj_ H; obtain ⟨qjI, qjK, qoJ⟩ := Kd.qaI qdu.1; subst qoJ; go_wp2
     go_ret
     exact ⟨qca, qao⟩
    rw [if_neg c11] at H; have qgK : ((qbx.length : Int) == 0) = false := beq_eq_false_iff_ne.mpr c11; have qhM : ((qbx.length : Int) != 0) = true := bne_iff_ne.mpr c11
    have qsl : ¬ (qbx = []) := fun h_ => c11 (by rw [h_]; rfl)
    obtain ⟨t109, A13, H⟩ := qaB H; (try dsimp only at H); obtain rfl := sj_ H; obtain ⟨Ao14, co14, eo14⟩ := Kd.qaI qdu.1; subst eo14
    go_wp2_with (first | (refine gl_ 23 Tryz.func88 #[.slice Ao14 qbx.length co14, .string (⟨#[44]⟩ : ByteArray)] rfl qbJ ?_; (with_reducible refine (strings_Join.calls _ _ qbx (⟨#[44]⟩ : ByteArray) t109 _ ?qaz ?qaA A13.1).mono ?_); (case qaz => exact k41_); (case qaA => exact (Kd.qan qdu.1).2.1); rintro e w15 ⟨rfl, hb⟩; refine ⟨_, rfl, ?_⟩; replace qdu := qdu.mw hb; replace HB := HB.mw hb; (try clear hb)))
    go_ret
    exact ⟨qca, qao⟩
   rw [if_pos c4] at H; have qfw := decide_eq_true c4; clear c4; obtain ⟨c5, H⟩ := qct H; have qgL := decide_eq_true c5; clear c5; obtain ⟨c6, H⟩ := qct H; have qgc := decide_eq_true c6; clear c6; obtain ⟨t105, A7, H⟩ := qaB H; (try dsimp only at H); obtain ⟨c8, H⟩ := qct H; have LMc8 := ak_ c8; clear c8
   obtain ⟨qjH, hy_⟩ : ∃ y_ : List ByteArray, y_ = (qbx ++ [t105]) := ⟨_, rfl⟩
   replace H : (qbq.l0 k1 qjH l0 (l0.length : Int) (wrap64 (qdt + 1))) = some r := qfb; have qmF := ak_ hy_; clear hy_; have H' := ak_ H; clear H; have qhz : 0 ≤ (qdt : Int) := of_decide_eq_true qaL; have qhA : qdt < (l0.length : Int) := of_decide_eq_true qaL; obtain ⟨qia, qnT, qd5⟩ := Kd.qew HR0.1 qdt qhz qhA
   cases qnT
   replace qd5 := (HB.1.cell (World.block_lt_of_cell? w _ qd5)).trans qd5; replace qhz := eq_true qhz; replace qhA := eq_true qhA
   go_wp2_with (first | (refine gl_ 15 Tryz.func87 #[.int .i64 (rd l0 qdt)] rfl qbJ ?_; (refine (qbm.calls (rd l0 qdt) t105 _ A7.1 (qbc.below HG.1 qao)).mono ?_); rintro e w9 ⟨rfl, hb⟩; refine ⟨_, rfl, ?_⟩; replace qdu := qdu.mw hb; replace HB := HB.mw hb; (try clear hb)) | ((with_reducible refine qa5 (b := .append) (xs := #[.tmp 13, .tmp 16]) rfl ?_); at_builtin; refine Kd.qc8 Kd.string (w0 := w) w.heap.size rfl (.tmp 13) (.tmp 16) 43 9 (.string ⟨#[]⟩) 16 rfl Tryz.underlying43 qm1 rfl (by decide) (by omega) u3 qbx t105 [.string t105] (fun _ => True) (fun _ => False) rfl rfl ?aP (fun _ hk => hk.elim) ?aF ?aO ?aB ?aS ?aL ?_; (case aP => exact rfl); (case aB => exact qao); (case aF => exact (fun _ _ => trivial)); (case aO => exact qib); (case aS => exact (qab qao)); (case aL => have := LMc8.1; omega); intro v107 w10 ho hb hg hat; rw [← qmF.1] at ho; replace HB := ak_ (hb); have qgx := ak_ (ho); clear qdu; clear ho hb hg hat))
   go_roundg k1
   case measure => have := HK1.1; omega
   case rel => exact ⟨(qjH), (wrap64 (qdt + 1)), qay, H', ⟨qc9⟩, ⟨k85_⟩, ⟨qao⟩⟩
def qbT.l0 : Nat → List ByteArray → List (List Int) → Int → Int → Option (ByteArray)
 | 0, _, _, _, _ => none
 | k + 1, x3, x7, x8, x9 => if x9 < x8 then (if 0 ≤ x9 then (if x9 < (x7.length : Int) then ((qbq.f k (qbe x7 x9)).bind fun t105 => (if x3.length < 8796093022208 then (qbT.l0 k (x3 ++ [t105]) x7 x8 (wrap64 (x9 + 1))) else (none))) else (none)) else (none)) else (if (x3.length : Int) = 0 then (some (⟨#[45]⟩ : ByteArray)) else ((strings_Join.f x3 (⟨#[47]⟩ : ByteArray)).bind fun t109 => (some t109)))
def qbT.f (k : Nat) (l0 : List (List Int)) : Option (ByteArray) := qbT.l0 k (([] : List ByteArray)) l0 (l0.length : Int) 0
theorem qbT.calls (k : Nat) (A0 : Option Addr) (c0 : Nat) (l0 : List (List Int)) (r : ByteArray) (w : World) (hr0 : Kd.C (Kd.slice 3 (Kd.int .i64)) w A0 l0.length l0) (hc0 : l0.length ≤ c0) (h : qbT.f k l0 = some r) (hG : qbc w) :
  Calls Tryz.prog 128 #[.slice A0 l0.length c0] w fun e w' => e = .returned (.string r) ∧ Below w.heap.size w w' := by
 have HR0 := ak_ hr0; have HC0 := ak_ hc0; clear hr0 hc0; have HB := br_ w; have HG := ak_ hG; clear hG; have H : (qbT.l0 k (([] : List ByteArray)) l0 (l0.length : Int) 0) = some r := h; clear h
 obtain ⟨qeW, hy_⟩ : ∃ y_ : List ByteArray, y_ = (([] : List ByteArray)) := ⟨_, rfl⟩
 replace H : (qbT.l0 k qeW l0 (l0.length : Int) 0) = some r := qfb; have qet := ak_ hy_; clear hy_; have H' := ak_ H; clear H; go_enter Tryz.func128, Tryz.ntmps128
 go_wp2_with (first | ((with_reducible refine qam (N := 6) rfl ?_); refine li_ Kd.string 9 6 rfl (xs := ([] : List ByteArray)) qa1 ?_; intro qjd w2 ho3 hb; (first | rw [← qet.1] at ho3 | (simp only [Int.reduceToNat] at ho3; rw [← qet.1] at ho3)); have qcI := ak_ (Kd.qaw ho3 (qab qao)); replace HB := HB.mw hb; clear hb ho3))
 go_loopg [3, 9] k (fun kq v3 v9 w' => ∃ (qbx : List ByteArray) (qdt : Int), v9 = .int .i64 qdt ∧ qai (qbT.l0 kq qbx l0 (l0.length : Int) qdt = some r) ∧ qai (kq ≤ k) ∧ qai (Kd.R Kd.string 9 w' w.heap.size (fun _ => True) v3 qbx) ∧ qai (Below w.heap.size w w'))
 case atStart => exact ⟨(qeW), (0), qay, H', ⟨Nat.le_refl _⟩, ⟨qoL⟩, ⟨qao⟩⟩
 case round =>
  clear H'; obtain ⟨qbx, qdt, rfl, HA, HK1, qdu, HB⟩ := hrel
  cases gk with
  | zero => exact absurd HA.1 (by simp [qbT.l0])
  | succ k1 =>
   have H := HA.1; clear HA; simp only [qbT.l0] at H; by_cases c4 : qdt < (l0.length : Int); rotate_left
   ·rw [if_neg c4] at H; have qfw := decide_eq_false c4; clear c4; by_cases c11 : (qbx.length : Int) = 0
    ·rw [if_pos c11] at H; have qgK : ((qbx.length : Int) == 0) = true := beq_iff_eq.mpr c11; have qhM : ((qbx.length : Int) != 0) = false := bne_eq_false_iff_eq.mpr c11; clear c11; obtain rfl := sj_ H; obtain ⟨qjI, qjK, qoJ⟩ := Kd.qaI qdu.1; subst qoJ; go_wp2
     go_ret
     exact ⟨qca, qao⟩
    rw [if_neg c11] at H; have qgK : ((qbx.length : Int) == 0) = false := beq_eq_false_iff_ne.mpr c11; have qhM : ((qbx.length : Int) != 0) = true := bne_iff_ne.mpr c11
    have qsl : ¬ (qbx = []) := fun h_ => c11 (by rw [h_]; rfl)
    obtain ⟨t109, A13, H⟩ := qaB H; (try dsimp only at H); obtain rfl := sj_ H; obtain ⟨Ao14, co14, eo14⟩ := Kd.qaI qdu.1; subst eo14
    go_wp2_with (first | (refine gl_ 23 Tryz.func88 #[.slice Ao14 qbx.length co14, .string (⟨#[47]⟩ : ByteArray)] rfl qbJ ?_; (with_reducible refine (strings_Join.calls _ _ qbx (⟨#[47]⟩ : ByteArray) t109 _ ?qaz ?qaA A13.1).mono ?_); (case qaz => exact k41_); (case qaA => exact (Kd.qan qdu.1).2.1); rintro e w15 ⟨rfl, hb⟩; refine ⟨_, rfl, ?_⟩; replace qdu := qdu.mw hb; replace HB := HB.mw hb; (try clear hb)))
    go_ret
    exact ⟨qca, qao⟩
   rw [if_pos c4] at H; have qfw := decide_eq_true c4; clear c4; obtain ⟨c5, H⟩ := qct H; have qgL := decide_eq_true c5; clear c5; obtain ⟨c6, H⟩ := qct H; have qgc := decide_eq_true c6; clear c6; obtain ⟨t105, A7, H⟩ := qaB H; (try dsimp only at H); obtain ⟨c8, H⟩ := qct H; have LMc8 := ak_ c8; clear c8
   obtain ⟨qjH, hy_⟩ : ∃ y_ : List ByteArray, y_ = (qbx ++ [t105]) := ⟨_, rfl⟩
   replace H : (qbT.l0 k1 qjH l0 (l0.length : Int) (wrap64 (qdt + 1))) = some r := qfb; have qmF := ak_ hy_; clear hy_; have H' := ak_ H; clear H; have qhz : 0 ≤ (qdt : Int) := of_decide_eq_true qaL; have qhA : qdt < (l0.length : Int) := of_decide_eq_true qaL; obtain ⟨qia, qrU, qsk, qnT, qd5, qhS, qhR⟩ := qjk HR0.1 qdt qhz qhA
   cases qnT
   replace qd5 := (HB.1.cell (World.block_lt_of_cell? w _ qd5)).trans qd5; have qky := ak_ qhR; have qoR := ak_ qhS; clear qhR qhS; replace qhz := eq_true qhz; replace qhA := eq_true qhA
   go_wp2_with (first | (refine gl_ 15 Tryz.func131 #[.slice qrU (qbe l0 qdt).length qsk] rfl qbJ ?_; (refine (qbq.calls k1 _ _ (qbe l0 qdt) t105 _ ?qaz ?qaA A7.1 (qbc.below HG.1 qao)).mono ?_); (case qaz => repeat (first | exact (Kd.qd0 qky.1 HB.1) | (with_reducible refine Kd.C_alloc ?_ _) | (with_reducible refine Kd.C_drewN ?_ _) | (with_reducible refine Kd.C_drew ?_))); (case qaA => exact qoR.1); rintro e w9 ⟨rfl, hb⟩; refine ⟨_, rfl, ?_⟩; replace qdu := qdu.mw hb; replace HB := HB.mw hb; (try clear hb)) | ((with_reducible refine qa5 (b := .append) (xs := #[.tmp 13, .tmp 16]) rfl ?_); at_builtin; refine Kd.qc8 Kd.string (w0 := w) w.heap.size rfl (.tmp 13) (.tmp 16) 43 9 (.string ⟨#[]⟩) 16 rfl Tryz.underlying43 qm1 rfl (by decide) (by omega) u3 qbx t105 [.string t105] (fun _ => True) (fun _ => False) rfl rfl ?aP (fun _ hk => hk.elim) ?aF ?aO ?aB ?aS ?aL ?_; (case aP => exact rfl); (case aB => exact qao); (case aF => exact (fun _ _ => trivial)); (case aO => exact qib); (case aS => exact (qab qao)); (case aL => have := LMc8.1; omega); intro v107 w10 ho hb hg hat; rw [← qmF.1] at ho; replace HB := ak_ (hb); have qgx := ak_ (ho); clear qdu; clear ho hb hg hat))
   go_roundg k1
   case measure => have := HK1.1; omega
   case rel => exact ⟨(qjH), (wrap64 (qdt + 1)), qay, H', ⟨qc9⟩, ⟨k85_⟩, ⟨qao⟩⟩
def qc1.f (k : Nat) (a0 : Int) : Option (Int × Bool) := if a0 < 0 then (some (0, false)) else (if a0 > 10000 then (some (0, false)) else ((qaR.f k 0 a0).bind fun qav => (some ((qav.length : Int), true))))
theorem qc1.calls (k : Nat) (a0 : Int) (r1 : Int) (r2 : Bool) (w : World) (h : qc1.f k a0 = some (r1, r2)) :
  Calls Tryz.prog 129 #[.int .i64 a0] w fun e w' => e = .returned (.tuple #[.int .i64 r1, .bool r2]) ∧ Below w.heap.size w w' := by
 have HB := br_ w; have H : (if a0 < 0 then (some (0, false)) else (if a0 > 10000 then (some (0, false)) else ((qaR.f k 0 a0).bind fun qav => (some ((qav.length : Int), true))))) = some (r1, r2) := h; clear h; by_cases c2 : a0 < 0
 ·rw [if_pos c2] at H; have qfB := decide_eq_true c2; clear c2; obtain ⟨rfl, rfl⟩ := qdQ H; go_enter Tryz.func129, Tryz.ntmps129; go_wp2
  go_ret2
  exact ⟨qca, qao⟩
 rw [if_neg c2] at H; have qfB := decide_eq_false c2; clear c2; by_cases c3 : a0 > 10000
 ·rw [if_pos c3] at H; have qfr : decide (10000 < a0) = true := decide_eq_true c3; clear c3; obtain ⟨rfl, rfl⟩ := qdQ H; go_enter Tryz.func129, Tryz.ntmps129; go_wp2
  go_ret2
  exact ⟨qca, qao⟩
 rw [if_neg c3] at H; have qfr : decide (10000 < a0) = false := decide_eq_false c3; clear c3; obtain ⟨qav, A4, H⟩ := qaB H; (try dsimp only at H); obtain ⟨rfl, rfl⟩ := qdQ H; go_enter Tryz.func129, Tryz.ntmps129
 go_wp2_with (first | (refine gl_ 11 Tryz.func191 #[.int .i64 0, .int .i64 a0] rfl qbJ ?_; (with_reducible refine (qaR.calls k 0 a0 qav _ A4.1).mono ?_); rintro e w5 ⟨qjd, rfl, ho0, hb⟩; refine ⟨_, rfl, ?_⟩; have qcI := ak_ (Kd.qaw ho0 (qab qao)); replace HB := HB.mw hb; (try clear hb ho0); obtain ⟨Ao6, co6, eo6⟩ := Kd.qaI qcI.1; subst eo6))
 go_ret2
 exact ⟨qca, qao⟩
def qcp.f (a0 : Int) : Option (Bool) := if a0 ≥ 1 then (some (decide (a0 ≤ 1000000))) else (some false)
theorem qcp.calls (a0 : Int) (r : Bool) (w : World) (h : qcp.f a0 = some r) :
  Calls Tryz.prog 192 #[.int .i64 a0] w fun e w' => e = .returned (.bool r) ∧ qcY w w' := by
 have H : (if a0 ≥ 1 then (some (decide (a0 ≤ 1000000))) else (some false)) = some r := h; clear h; by_cases c2 : a0 ≥ 1
 ·rw [if_pos c2] at H; have qfB : decide (1 ≤ a0) = true := decide_eq_true c2; clear c2; obtain rfl := sj_ H; go_enter Tryz.func192, Tryz.ntmps192; go_wp2
  go_ret
  exact ⟨qay, qc3⟩
 rw [if_neg c2] at H; have qfB : decide (1 ≤ a0) = false := decide_eq_false c2; clear c2; obtain rfl := sj_ H; go_enter Tryz.func192, Tryz.ntmps192; go_wp2
 go_ret
 exact ⟨qay, qc3⟩
def qpP : Go.Shelf.Ren := ⟨fun | 189 => 227 | 125 => 253 | 257 => 252 | 128 => 274 | 129 => 259 | 294 => 265 | 295 => 266 | 296 => 267 | 297 => 268 | 298 => 269 | 299 => 270 | 216 => 271 | 300 => 272 | 301 => 273 | 328 => 279 | 329 => 280 | 330 => 281 | 331 => 282 | 332 => 283 | 215 => 284 | 343 => 287 | n => n, fun | 28 => 48 | 3 => 3 | 46 => 165 | 0 => 0 | 51 => 179 | 53 => 68 | 4 => 4 | 183 => 231 | 182 => 230 | 131 => 95 | 5 => 5 | 9 => 9 | 218 => 239 | 222 => 243 | 228 => 248 | 229 => 249 | n => n, fun | n => n⟩
theorem lays189 : Go.Proofs.Lays.n189 Tryz.prog qpP := {
  mixed := by kernel_rfl
  f125 := cs_ Tryz.func253
  f128 := cs_ Tryz.func274
  f129 := cs_ Tryz.func259
  f189 := cs_ Tryz.func227
  f215 := cs_ Tryz.func284
  f216 := cs_ Tryz.func271
  f257 := cs_ Tryz.func252
  f294 := cs_ Tryz.func265
  f295 := cs_ Tryz.func266
  f296 := cs_ Tryz.func267
  f297 := cs_ Tryz.func268
  f298 := cs_ Tryz.func269
  f299 := cs_ Tryz.func270
  f300 := cs_ Tryz.func272
  f301 := cs_ Tryz.func273
  f328 := cs_ Tryz.func279
  f329 := cs_ Tryz.func280
  f330 := cs_ Tryz.func281
  f331 := cs_ Tryz.func282
  f332 := cs_ Tryz.func283
  f343 := cs_ Tryz.func287
  t0 := Tryz.underlying0
  a0 := Tryz.isAgg0
  z0 := Tryz.sizeOf0
  v0 := Tryz.zeroValue0
  t3 := Tryz.underlying3
  a3 := Tryz.isAgg3
  z3 := Tryz.sizeOf3
  v3 := Tryz.zeroValue3
  t4 := Tryz.underlying4
  a4 := Tryz.isAgg4
  z4 := Tryz.sizeOf4
  v4 := Tryz.zeroValue4
  t5 := Tryz.underlying5
  a5 := Tryz.isAgg5
  z5 := Tryz.sizeOf5
  v5 := Tryz.zeroValue5
  t9 := Tryz.underlying9
  a9 := Tryz.isAgg9
  z9 := Tryz.sizeOf9
  v9 := Tryz.zeroValue9
  t28 := Tryz.underlying48
  a28 := Tryz.isAgg48
  z28 := Tryz.sizeOf48
  v28 := Tryz.zeroValue48
  t46 := Tryz.underlying165
  a46 := Tryz.isAgg165
  z46 := Tryz.sizeOf165
  v46 := Tryz.zeroValue165
  t51 := Tryz.underlying179
  a51 := Tryz.isAgg179
  z51 := Tryz.sizeOf179
  v51 := Tryz.zeroValue179
  t53 := Tryz.underlying68
  a53 := Tryz.isAgg68
  z53 := Tryz.sizeOf68
  v53 := Tryz.zeroValue68
  t131 := Tryz.underlying95
  a131 := Tryz.isAgg95
  z131 := Tryz.sizeOf95
  v131 := Tryz.zeroValue95
  t182 := Tryz.underlying230
  a182 := Tryz.isAgg230
  z182 := Tryz.sizeOf230
  v182 := Tryz.zeroValue230
  t183 := Tryz.underlying231
  a183 := Tryz.isAgg231
  z183 := Tryz.sizeOf231
  v183 := Tryz.zeroValue231
  t218 := Tryz.underlying239
  a218 := Tryz.isAgg239
  z218 := Tryz.sizeOf239
  v218 := Tryz.zeroValue239
  t222 := Tryz.underlying243
  a222 := Tryz.isAgg243
  z222 := Tryz.sizeOf243
  v222 := Tryz.zeroValue243
  t228 := Tryz.underlying248
  a228 := Tryz.isAgg248
  z228 := Tryz.sizeOf248
  v228 := Tryz.zeroValue248
  t229 := Tryz.underlying249
  a229 := Tryz.isAgg249
  z229 := Tryz.sizeOf249
  v229 := Tryz.zeroValue249 }
def qhY (l : List Int) : List Int := l.mergeSort fun x y => decide (x ≤ y)
theorem qlu (l : List Int) : (qhY l).length = l.length := List.length_mergeSort _
theorem qp6 {w : World} {g n : Nat} {os : Array Obj} {cur : Array Value} {e : TypeId} {fr : Nat × Nat} (d : Array Int) (hb : w.heap[g]? = some (.cells cur e fr)) :
    (Go.Sort.grow (Go.Sort.putRow (Value.int .i64) (Go.Sort.ahead w n) g 0 d) os).heap[g]? = some (.cells (Go.Sort.putCells (Value.int .i64) 0 d cur) e fr) := by
  have hg : g < w.heap.size := (Array.getElem?_eq_some_iff.1 hb).1
  have h1 : (Go.Sort.putRow (Value.int .i64) (Go.Sort.ahead w n) g 0 d).heap[g]? = some (.cells (Go.Sort.putCells (Value.int .i64) 0 d cur) e fr) := by
    simp [Go.Sort.putRow, Go.Sort.mapBlock, Go.Sort.ahead, Array.getElem?_modify, hb, Go.Sort.onCells]
  have h2 : g < (Go.Sort.putRow (Value.int .i64) (Go.Sort.ahead w n) g 0 d).heap.size := (Array.getElem?_eq_some_iff.1 h1).1
  show ((Go.Sort.putRow (Value.int .i64) (Go.Sort.ahead w n) g 0 d).heap ++ os)[g]? = _
  rw [Array.getElem?_append_left h2]; exact h1
theorem qoy {w : World} {g n : Nat} {os : Array Obj} (d : Array Int) : w.grownBy (Go.Sort.grow (Go.Sort.putRow (Value.int .i64) (Go.Sort.ahead w n) g 0 d) os) (some g) := by
  refine ⟨rfl, rfl, rfl, by simp [Go.Sort.grow, Go.Sort.putRow, Go.Sort.mapBlock, Go.Sort.ahead], fun k hk hne => ?_⟩
  have h1 : k < (Go.Sort.putRow (Value.int .i64) (Go.Sort.ahead w n) g 0 d).heap.size := by simpa [Go.Sort.putRow, Go.Sort.mapBlock, Go.Sort.ahead] using hk
  have : g ≠ k := fun e => hne (by rw [e])
  show ((Go.Sort.putRow (Value.int .i64) (Go.Sort.ahead w n) g 0 d).heap ++ os)[k]? = _
  rw [Array.getElem?_append_left h1]
  simp [Go.Sort.putRow, Go.Sort.mapBlock, Go.Sort.ahead, Array.getElem?_modify, this]
theorem qp7 (cur : Array Value) (ts : List Int) (h : ts.length ≤ cur.size) : (Go.Sort.putCells (Value.int .i64) 0 ts.toArray cur).toList.take ts.length = ts.map (Value.int .i64) := by
  apply List.ext_getElem?; intro j; by_cases hj : j < ts.length
  ·rw [List.getElem?_take_of_lt hj, Array.getElem?_toList]
   simp [Go.Sort.putCells, hj, show j < cur.size by omega]
  rw [List.getElem?_take_eq_none (by omega), List.getElem?_eq_none (by simp; omega)]
set_option maxHeartbeats 2000000 in
theorem qp4 (A : Option Addr) (c base : Nat) (ok : Nat → Prop) (xs : List Int) (w : World) (hR : Kd.R (Kd.int .i64) 3 w base ok (.slice A xs.length c) xs) (h0 : 0 < xs.length) (hsz : xs.length < 4611686018427387904) :
    Calls Tryz.prog 227 #[.slice A xs.length c] w fun e w' => e = .returned (.tuple #[]) ∧ Kd.R (Kd.int .i64) 3 w' base ok (.slice A xs.length c) (qhY xs) ∧ w.grownBy w' (Value.slice A xs.length c).ownBlock := by
  obtain ⟨hok, inner, hown, hr⟩ := hR
  rcases hown.2 with ⟨hv, _⟩ | ⟨g, cap, cur, hv, hg, hh, hnc, hcm, hcs, ht⟩
  · injection hv with _ hn _; omega
  obtain ⟨rfl, -, rfl⟩ := Value.slice.inj hv
  have hlen : inner.length = xs.length := by have := hr.1; rw [this]; show xs.length * 1 = _; omega
  have hin : ∀ j (hj : j < xs.length), inner[j]? = some (.int .i64 xs[j]) := by
    intro j hj; have h1 := hr.2 j xs[j] (List.getElem?_eq_getElem hj); have h2 : (inner.drop (j * 1)).take 1 = [.int .i64 xs[j]] := h1; have h3 := congrArg (fun l => l[0]?) h2
    simpa using h3
  have hcur : ∀ j (hj : j < xs.length), cur[j]? = some (.int .i64 xs[j]) := by
    intro j hj; rw [← hin j hj, ← ht, List.getElem?_take_of_lt (by show j < xs.length * 1; omega), Array.getElem?_toList]
  have hH : Go.Sort.Holds (Value.int .i64) w g 0 xs.toArray := by
    intro j hj
    have hj' : j < xs.length := by simpa using hj
    rw [Nat.zero_add]; refine ⟨?_, qae hh j⟩; rw [qba hh j, hcur j hj']
    simp [hj']
  refine (Any.slices_Sort_int lays189 g 0 c xs w hH (Array.getElem?_eq_some_iff.1 hh).1 hsz).mono ?_; rintro e w' ⟨rfl, n, os, rfl⟩; refine ⟨rfl, ⟨hok, (qhY xs).map (Value.int .i64), ⟨?_, .inr ⟨g, c, _, ?_, hg, qp6 _ hh, ?_, hcm, ?_, ?_⟩⟩, ?_, ?_⟩, qoy _⟩
  ·show _ = (qhY xs).length * 1; simp
  ·rw [qlu]
  ·rw [qlu]; exact hnc
  ·rw [← hcs]; simp [Go.Sort.putCells]
  ·show List.take ((qhY xs).length * 1) _ = _
   rw [Nat.mul_one]; refine qp7 cur (qhY xs) ?_; rw [qlu, hcs]
   show xs.length ≤ c * 1
   omega
  ·show _ = (qhY xs).length * 1; simp
  intro j p hp
  show ((List.map (Value.int .i64) (qhY xs)).drop (j * 1)).take 1 = [.int .i64 p]
  obtain ⟨hj, rfl⟩ := List.getElem?_eq_some_iff.1 hp; rw [Nat.mul_one, List.drop_eq_getElem_cons (by simpa using hj)]
  simp
section
variable {P : Program} {ops : Array Oper} {rest : List Oper} {o : Oper} {a : Act} {Q : Exit → Act → World → Prop}
theorem app_keep {w0 W : World} (base : Nat) (hgd : o.guard = none) (s x : Operand) (t e : TypeId) (z : Value) (bytes : Nat)
    (ho : o.op = .call { callee := .builtin .append, args := #[s, x], argTypes := #[t, t] })
    (ht : P.underlying t = some (.slice e)) (hinfo : (P.info? e).map (fun i => (i.zero, i.size, i.bytes)) = some (some z, 1, bytes)) (hz : z.cells.size = 1) (hb0 : 0 < bytes)
    (v : Value) (xs : List Int) (p : Int) (ok : Nat → Prop) (hs : a.eval s = v) (hx : a.eval x = .slice (some ⟨W.heap.size, 0, none⟩) 1 1) (hfresh : ∀ k, W.heap.size ≤ k → ok k)
    (HO : (Kd.int .i64).R e W base ok v xs) (hne : 0 < xs.length) (HB : Below base w0 W) (hbase : base ≤ W.heap.size) (hl : (xs.length + 1) * bytes ≤ 140737488355328)
    (h : ∀ v1 w1, (Kd.int .i64).R e w1 base ok v1 (xs ++ [p]) → Below base w0 w1 → W.grownBy w1 v.ownBlock → W.grownBy w1 v1.ownBlock → (v1.ownBlock = v.ownBlock ∨ ∃ b, v1.ownBlock = some b ∧ W.heap.size ≤ b) → wpList P ops Q rest (a.put o.dst v1) w1) :
    wpList P ops Q (o :: rest) a (W.alloc (.cells [Value.int .i64 p].toArray e)) := by
  obtain ⟨h0, inner, hown, hr⟩ := HO; obtain ⟨i0, hi, hzz⟩ := Option.map_eq_some_iff.1 hinfo; simp only [Prod.mk.injEq] at hzz; obtain ⟨hz0, hz1, hz2⟩ := hzz; have hlen : xs.length + 1 ≤ 140737488355328 := Nat.le_trans (Nat.le_mul_of_pos_right _ hb0) hl; have hnews : ∀ j u, [Value.int .i64 p][j]? = some u → (W.alloc (.cells [Value.int .i64 p].toArray e)).cell? ((⟨W.heap.size, 0, none⟩ : Addr).add j) = some u := cell_one_new W _ e
  have h1 : ∀ u ∈ [Value.int .i64 p], u.oneCell' = true := fun u hu => by rw [List.mem_singleton.1 hu]; rfl
  have h63 : xs.length + 1 ≤ maxLen := by simp only [maxLen]; omega
  refine wpList_plain hgd fun K hK => ?_
  obtain ⟨v', w', hrun, h2, h3, h4, h5⟩ := run_append_own_at (P := P) (W.alloc (.cells [Value.int .i64 p].toArray e)) base t o.type e i0 z 1 bytes ht hi hz0 hz1 hz2 hz (by omega) v xs.length inner (hown.alloc _) ⟨W.heap.size, 0, none⟩ 1 1 [.int .i64 p] rfl hnews h1 h63 hl (by simp; omega)
  have hg2 : (W.alloc (.cells [Value.int .i64 p].toArray e)).grownBy w' v'.ownBlock := by
    rcases (hown.alloc (.cells [Value.int .i64 p].toArray e)).2 with ⟨_, hn⟩ | ⟨g, cap, cur, hv, hbg, hgc, hnc, hcm, hcs, htake⟩
    · omega
    by_cases hroom : xs.length + 1 ≤ cap
    ·have hr2 := run_append_room (P := P) (W.alloc (.cells [Value.int .i64 p].toArray e)) t o.type e i0 ht hi g xs.length cap cur hgc ⟨W.heap.size, 0, none⟩ 1 1 [.int .i64 p] (by rw [hz1]; rfl) hnews h1 hroom (by rw [hz1, hcs]; show xs.length * 1 + 1 ≤ cap * 1; omega); rw [← hv, hrun] at hr2; simp only [Result.ok.injEq] at hr2
     have e1 : v'.ownBlock = v.ownBlock := by rw [hr2.1, hv]; rfl
     rw [e1]; exact h3
    have holds : ∀ j u, inner[j]? = some u → (W.alloc (.cells [Value.int .i64 p].toArray e)).cell? ((⟨g, 0, none⟩ : Addr).add j) = some u := (hown.alloc _).cells (g := g) (by rw [hv]; rfl); have hr2 := run_append_grow (P := P) (W.alloc (.cells [Value.int .i64 p].toArray e)) t o.type e i0 z ht hi hz0 ⟨g, 0, none⟩ xs.length cap inner (by rw [hz1]; exact hown.1) holds ⟨W.heap.size, 0, none⟩ 1 1 [.int .i64 p] (by rw [hz1]; rfl) hnews (by omega) (by omega) (growslice_fits (by omega) (by rw [hz2]; exact hl)); rw [← hv, hrun] at hr2; simp only [Result.ok.injEq] at hr2; obtain ⟨-, rfl⟩ := hr2; exact ⟨rfl, rfl, rfl, by simp, fun k hk _ => by first | exact heap_alloc_old _ _ hk | exact Go.heap_alloc_old _ _ k hk⟩
  unfold Oper.wp execOp; simp only [ho, resolve, invoke, builtin, Sem.run_bind, Sem.run_pure, Result.andThen_ok, List.map_toArray, List.map_cons, List.map_nil, hs, hx, hrun]; have hg' : W.grownBy w' v.ownBlock := World.grownBy.trans (World.grownBy_alloc W _ _) h3
  have hat' : v'.ownBlock = v.ownBlock ∨ ∃ b, v'.ownBlock = some b ∧ W.heap.size ≤ b := by
    rcases h5 with h5 | h5
    ·exact .inl h5
    exact .inr ⟨_, h5, by simp⟩
  exact hK _ _ (h v' w' (Kd.qji h0 hr (show (Kd.int .i64).M W base (fun _ => False) p [.int .i64 p] from rfl) (fun _ hk => hk.elim) hfresh h2 hg' hat') ((HB.alloc hbase _).grown h3 (by simp; omega) (qf7 hown)) hg' (World.grownBy.trans (World.grownBy_alloc W _ _) hg2) hat')
end
def qjf (e base : Nat) (W : World) (A : Option Addr) (v : Value) (x ys : List Int) : Prop :=
  ys.length ≤ x.length ∧ ((∃ c, v = .slice A x.length c ∧ ys = x.take ys.length) ∨ ∃ c, (Kd.int .i64).R e W base (fun _ => True) (.slice A ys.length c) ys ∧ v.ownBlock ≠ (Value.slice A 0 0).ownBlock)
theorem qjf.reads {e base : Nat} {W : World} {A : Option Addr} {v : Value} {x ys : List Int} (h : qjf e base W A v x ys) {ok : Nat → Prop} (hR : (Kd.int .i64).R e W base ok v x) : Kd.C (Kd.int .i64) W A ys.length ys := by
  obtain ⟨hl, ⟨c, rfl, h2⟩ | ⟨c, h2, _⟩⟩ := h
  ·have h3 := Kd.qns (m := ys.length) (Kd.qan hR).2.2 hl; rwa [← h2] at h3
  exact (Kd.qan h2).2.2
theorem qjf.step {e base : Nat} {W w1 : World} {A : Option Addr} {v v1 : Value} {x ys : List Int} {p : Int} (h : qjf e base W A v x ys) (hR : (Kd.int .i64).R e W base (fun _ => True) v x) (hR1 : (Kd.int .i64).R e w1 base (fun _ => True) v1 (x ++ [p])) (hg : W.grownBy w1 v.ownBlock) (hg2 : W.grownBy w1 v1.ownBlock) (hat : v1.ownBlock = v.ownBlock ∨ ∃ b, v1.ownBlock = some b ∧ W.heap.size ≤ b) (hne : 0 < x.length) : qjf e base w1 A v1 (x ++ [p]) ys := by
  obtain ⟨hl, ⟨c, rfl, h2⟩ | ⟨c, h2, h3⟩⟩ := h
  ·refine ⟨by rw [List.length_append]; omega, ?_⟩; obtain ⟨g, cap, eG, -, hgl, -⟩ := Kd.qe8 hR hne; obtain ⟨rfl, -, rfl⟩ := Value.slice.inj eG
   rcases hat with e1 | ⟨b, e1, hb⟩
   ·obtain ⟨g1, cap1, eG1, -, -, -⟩ := Kd.qe8 hR1 (by simp); subst eG1
    have e2 : g1 = g := by simpa [Value.ownBlock] using e1
    subst e2; exact .inl ⟨cap1, rfl, by rw [List.take_append_of_le_length hl]; exact h2⟩
   have hne1 : v1.ownBlock ≠ (Value.slice (some ⟨g, 0, none⟩) ys.length c).ownBlock := by
     rw [e1]; intro he
     have : b = g := by simpa [Value.ownBlock] using he
     omega
   have h4 := Kd.R_take hR hl; rw [← h2] at h4; exact .inr ⟨c, Kd.qqc h4 rfl hg2 hne1, hne1⟩
  have e0 : (Value.slice A ys.length c).ownBlock = (Value.slice A 0 0).ownBlock := by cases A <;> rfl
  refine ⟨by rw [List.length_append]; omega, .inr ⟨c, Kd.qqc h2 rfl hg (by rw [e0]; exact h3), ?_⟩⟩
  rcases hat with e1 | ⟨b, e1, hb⟩
  ·rw [e1]; exact h3
  rw [e1]; intro he; have := Kd.qkb h2 b (e0.trans he.symm); omega
mutual
def qaT.l0 : Nat → List Int → List (List Int) → Int → Int → Option (List Int)
 | 0, _, _, _, _ => none
 | k + 1, x3, x12, x13, x14 => if x14 < x13 then (if 0 ≤ x14 then (if x14 < (x12.length : Int) then (if 1 < ((qbe x12 x14).length : Int) then (qaT.l1 k x3 (qbe x12 x14) (x3.length : Int) 1 x12 x13 x14 (rd (qbe x12 x14) 1) 0) else (none)) else (none)) else (none)) else (if 0 < x3.length ∧ x3.length < 4611686018427387904 then some (qhY x3) else none)
def qaT.l1 : Nat → List Int → List Int → Int → Int → List (List Int) → Int → Int → Int → Int → Option (List Int)
 | 0, _, _, _, _, _, _, _, _, _ => none
 | k + 1, x3, x5, x6, x7, x12, x13, x14, x22, x23 => if x23 < x22 then (if 0 < (x5.length : Int) then (if 0 ≤ x6 then (if x6 ≤ (x3.length : Int) then ((some (x3.take (x6 : Int).toNat : List Int)).bind fun qj6 => (qaT.l2 k x3 x5 x6 (wrap64 (x7 * (rd x5 0))) x12 x13 x14 x22 x23 qj6 (qj6.length : Int) 0)) else (none)) else (none)) else (none)) else (qaT.l0 k x3 x12 x13 (wrap64 (x14 + 1)))
def qaT.l2 : Nat → List Int → List Int → Int → Int → List (List Int) → Int → Int → Int → Int → List Int → Int → Int → Option (List Int)
 | 0, _, _, _, _, _, _, _, _, _, _, _, _ => none
 | k + 1, x3, x5, x6, x7, x12, x13, x14, x22, x23, x32, x33, x34 => if x34 < x33 then (if 0 ≤ x34 then (if x34 < (x32.length : Int) then (if x3.length < 17592186044416 then (qaT.l2 k (x3 ++ [wrap64 ((rd x32 x34) * x7)]) x5 x6 x7 x12 x13 x14 x22 x23 x32 x33 (wrap64 (x34 + 1))) else (none)) else (none)) else (none)) else (qaT.l1 k x3 x5 x6 x7 x12 x13 x14 x22 (wrap64 (x23 + 1)))
end
def qaT.f (k : Nat) (a0 : Int) : Option (List Int) := (qaX.f k a0).bind fun qcq => (qaT.l0 k (([1] : List Int)) qcq (qcq.length : Int) 0)
theorem qaT.calls (k : Nat) (a0 : Int) (r : List Int) (w : World) (h : qaT.f k a0 = some r) :
  Calls Tryz.prog 193 #[.int .i64 a0] w fun e w' => ∃ v0_ : Value, e = .returned (v0_) ∧ Kd.R (Kd.int .i64) 3 w' w.heap.size (fun _ => True) v0_ r ∧ Below w.heap.size w w' := by
 have HB := br_ w; have H : ((qaX.f k a0).bind fun qcq => (qaT.l0 k (([1] : List Int)) qcq (qcq.length : Int) 0)) = some r := h; clear h
 obtain ⟨qeW, hy_⟩ : ∃ y_ : List Int, y_ = (([1] : List Int)) := ⟨_, rfl⟩
 replace H : ((qaX.f k a0).bind fun qcq => (qaT.l0 k qeW qcq (qcq.length : Int) 0)) = some r := qfb; have qet := ak_ hy_; clear hy_; obtain ⟨qcq, A2, H⟩ := qaB H; (try dsimp only at H); have H' := ak_ H; clear H; go_enter Tryz.func193, Tryz.ntmps193
 go_wp2_with (first | ((with_reducible refine qam (N := 10) rfl ?_); refine Kd.qhH (Kd.int .i64) _ 3 ?hg (N := 10) ?hd (xs := ([1] : List Int)) (inner := [.int .i64 1]) (ok := fun _ => True) (okp := fun _ => True) ?hr ?hp (fun _ hk => hk) trivial (Below.refl _ _) (Nat.le_refl _) (by simp) ?_; (case hd => rfl); (case hg => rfl); (case hr => exact qa1); (case hp => exact (qep.one (show Kd.M (Kd.int .i64) _ _ _ 1 [.int .i64 1] from rfl) (qep.none _ _))); intro qjd w3 ho4 hb hg_ hnew_; clear hg_ hnew_; (first | rw [← qet.1] at ho4 | (simp only [Int.reduceToNat] at ho4; rw [← qet.1] at ho4)); have qcI := ak_ (Kd.qaw ho4 (qab qao)); replace HB := HB.mw hb; clear hb ho4) | (refine gl_ 12 Tryz.func190 #[.int .i64 a0] rfl qbJ ?_; (with_reducible refine (qaX.calls k a0 qcq _ A2.1).mono ?_); rintro e w5 ⟨v105, rfl, ho0, hb⟩; refine ⟨_, rfl, ?_⟩; have qff := ak_ (Kd.qd3 (Kd.qr9 ho0 (Kd.qkb qoL)) (qab qao)); replace qcI := qcI.mw hb; replace HB := HB.mw hb; (try clear hb ho0); obtain ⟨Ao6, co6, eo6⟩ := Kd.qdT qff.1; subst eo6))
 go_loopg [3, 14] k (fun kq v3 v14 w' => ∃ (qbx : List Int) (qef : Int), v14 = .int .i64 qef ∧ qai (qaT.l0 kq qbx qcq (qcq.length : Int) qef = some r) ∧ qai (kq ≤ k) ∧ qai (Kd.R (Kd.int .i64) 3 w' w.heap.size (fun _ => True) v3 qbx) ∧ qai (Kd.S (Kd.slice 3 (Kd.int .i64)) 48 w' w.heap.size (fun k_ => some k_ ≠ (v3 : Value).ownBlock) (.slice Ao6 qcq.length co6) qcq) ∧ qai (Below w.heap.size w w'))
 case atStart => exact ⟨(qeW), (0), qay, H', ⟨Nat.le_refl _⟩, ⟨qoL⟩, ⟨by (with_reducible repeat (first | apply Kd.qdm | apply Kd.qdn | apply Kd.qeo)); exact Kd.qgz qff.1 (fun _ hk => hk.2)⟩, ⟨qao⟩⟩
 case round =>
  clear H'; obtain ⟨qbx, qef, rfl, HA, HK1, qdu, qjh, HB⟩ := hrel
  cases gk with
  | zero => exact absurd HA.1 (by simp [qaT.l0])
  | succ k1 =>
   have H := HA.1; clear HA; simp only [qaT.l0] at H; by_cases c7 : qef < (qcq.length : Int); rotate_left
   ·rw [if_neg c7] at H; have qhx := decide_eq_false c7; clear c7; obtain ⟨c23, H⟩ := qct H; obtain rfl := sj_ H; have HC23 := ak_ c23; clear c23 H; obtain ⟨Ao24, co24, eo24⟩ := Kd.qaI qdu.1; subst eo24
    go_wp2_with (refine gl_ 48 Tryz.func227 #[.slice Ao24 qbx.length co24] rfl qb6 ?_; (refine (qp4 Ao24 co24 _ (fun _ => True) qbx _ (by first | exact qdu.1 | (apply_rules only [qdu.1, Kd.qaq, Kd.qar, Kd.qax])) HC23.1.1 HC23.1.2).mono ?_); rintro e w' ⟨rfl, hR_, hg_⟩; refine ⟨_, rfl, ?_⟩; have HRS := ak_ hR_; have HBS := ak_ (Below.grown (by first | exact HB.1 | (apply_rules only [HB.1, qal, qaf, qah])) hg_ (qab (by first | exact HB.1 | (apply_rules only [HB.1, qal, qaf, qah]))) (Kd.qfm qdu.1)); clear hR_ hg_)
    go_ret
    exact ⟨_, rfl, HRS.1, HBS.1⟩
   rw [if_pos c7] at H; have qhx := decide_eq_true c7; clear c7; obtain ⟨c8, H⟩ := qct H; have qpc := decide_eq_true c8; clear c8; obtain ⟨c9, H⟩ := qct H; have qmQ := decide_eq_true c9; clear c9; obtain ⟨c10, H⟩ := qct H; have qgY := decide_eq_true c10; have c10b1 : decide (1 < (qbe qcq qef).length) = true := decide_eq_true (by omega); clear c10; have H' := ak_ H; clear H; have p107 : 0 ≤ (qef : Int) := of_decide_eq_true qaL; have q107 : qef < (qcq.length : Int) := of_decide_eq_true qaL; obtain ⟨ad107, A107_0, c107_0, e107, qtp, qth, qtf⟩ := qjk (Kd.qeQ qjh.1).2.2 qef p107 q107
   cases e107
   obtain ⟨ce107, hce107, hMe107, hcc107⟩ := Kd.qr8 qjh.1 [] qef p107 (by first | exact q107 | exact of_decide_eq_true qaL | (have e_ := (Kd.qeQ qjh.1).1; omega)); obtain ⟨ve107_0, rfl, qpo⟩ := hMe107; have qk7 := hcc107 0 _ rfl; rw [Nat.add_zero, show ((Kd.slice 3 (Kd.int .i64))).sz = 1 from rfl, Nat.mul_one] at qk7; replace qk7 := Option.some.inj (qk7.symm.trans qtp); rw [qk7] at qpo; have HL107_0 := ak_ (show Kd.R (Kd.int .i64) 3 _ _ _ _ (qbe qcq qef) from qpo); clear qk7 qpo; clear hcc107 hce107; have qrY := ak_ qtf; have HC107_0 := ak_ qth; clear qtf qth; replace p107 := eq_true p107; replace q107 := eq_true q107; obtain ⟨Ao11, co11, eo11⟩ := Kd.qaI qdu.1; subst eo11
   have qrQ : 0 ≤ (1 : Int) := (by omega)
   have qrR : 1 < ((qbe qcq qef).length : Int) := of_decide_eq_true qaL; obtain ⟨qsa, e108, qk8⟩ := Kd.qew (by repeat (first | (with_reducible exact qrY.1) | (with_reducible refine Kd.C_alloc ?_ _) | (with_reducible refine Kd.C_drewN ?_ _) | (with_reducible refine Kd.C_drew ?_) | exact qrY.1)) 1 qrQ qrR
   cases e108
   (try simp only [show (1 : Int).toNat = 1 from rfl, Nat.reduceMul, Nat.reduceEqDiff, Go.Addr.add, ↓reduceIte] at qk8); have qi108 : (1 < (qbe qcq qef).length) = True := eq_true (by omega); (try rw [show ((1 : Int)).toNat = 1 from rfl] at qk8); replace qrQ := eq_true qrQ; replace qrR := eq_true qrR; go_wp2
   go_loopg [3, 7, 23] k1 (fun kq v3 v7 v23 w' => ∃ (qg1 : List Int) (qmB : Int) (qoF : Int), v7 = .int .i64 qmB ∧ v23 = .int .i64 qoF ∧ qai (qaT.l1 kq qg1 (qbe qcq qef) (qbx.length : Int) qmB qcq (qcq.length : Int) qef (rd (qbe qcq qef) 1) qoF = some r) ∧ qai (kq ≤ k1) ∧ qai (Kd.R (Kd.int .i64) 3 w' w.heap.size (fun _ => True) v3 qg1) ∧ qai (Kd.S (Kd.slice 3 (Kd.int .i64)) 48 w' w.heap.size (fun k_ => some k_ ≠ (v3 : Value).ownBlock) (.slice (some ad107) qcq.length co6) qcq) ∧ qai (Below w.heap.size w w') ∧ qai (Kd.R (Kd.int .i64) 3 w' w.heap.size (fun k_ => some k_ ≠ (v3 : Value).ownBlock) (.slice (some qsa) (qbe qcq qef).length c107_0) (qbe qcq qef)))
   case atStart => exact ⟨(qbx), (1), (0), qay, qay, H', ⟨Nat.le_refl _⟩, ⟨qib⟩, ⟨by apply_rules only [qjh.1, Kd.qdm, Kd.qdn, Kd.qeo]⟩, ⟨qao⟩, ⟨by (with_reducible repeat (first | apply Kd.qaq | apply Kd.qar | apply Kd.qax)); exact Kd.qa2 HL107_0.1 (fun _ hk => by first | exact hk | exact hk.2 | exact hk.1 | exact hk.1.1 | exact hk.1.2 | exact hk.1.1.1 | exact hk.1.1.2)⟩⟩
   case round =>
    clear H'
    skip
    obtain ⟨qg1, qmB, qoF, rfl, rfl, HA, HK2, qdu, qjh, HB, HF_⟩ := hrel
    cases gk with
    | zero => exact absurd HA.1 (by simp [qaT.l1])
    | succ k2 =>
     have H := HA.1; clear HA; simp only [qaT.l1] at H; by_cases c12 : qoF < (rd (qbe qcq qef) 1); rotate_left
     ·rw [if_neg c12] at H; have qhN := decide_eq_false c12; clear c12; have H' := ak_ H; clear H; go_wp2
      go_roundg k2
      case measure => have := HK1.1; have := HK2.1; omega
      case rel => exact ⟨(qg1), (wrap64 (qef + 1)), qay, H', ⟨qm3⟩, ⟨qib⟩, ⟨by apply_rules only [qjh.1, Kd.qdm, Kd.qdn, Kd.qeo]⟩, ⟨qao⟩⟩
     rw [if_pos c12] at H; have qhN := decide_eq_true c12; clear c12; obtain ⟨c13, H⟩ := qct H; have qmP := decide_eq_true c13; have c13b1 : decide (0 < (qbe qcq qef).length) = true := decide_eq_true (by omega); clear c13; obtain ⟨c14, H⟩ := qct H; have qpa := eq_true c14; have c14b1 := decide_eq_true c14; clear c14; obtain ⟨c15, H⟩ := qct H; have qnH := eq_true c15; have qpb := decide_eq_true c15; clear c15
     obtain ⟨qj6, hy_⟩ : ∃ y_ : List Int, y_ = (qg1.take ((qbx.length : Int) : Int).toNat) := ⟨_, rfl⟩
     replace H : (qaT.l2 k2 qg1 (qbe qcq qef) (qbx.length : Int) (wrap64 (qmB * (rd (qbe qcq qef) 0))) qcq (qcq.length : Int) qef (rd (qbe qcq qef) 1) qoF qj6 (qj6.length : Int) 0) = some r := qfb; have qoY := ak_ hy_; clear hy_; have H' := ak_ H; clear H
     have p109 : 0 ≤ (0 : Int) := (by omega)
     have q109 : 0 < ((qbe qcq qef).length : Int) := of_decide_eq_true qaL; obtain ⟨ad109, e109, qpF⟩ := Kd.qew (Kd.qan HF_.1).2.2 0 p109 q109
     obtain rfl : qsa = ad109 := (by injection e109)
     have qi109 : (0 < (qbe qcq qef).length) = True := eq_true (by omega); (try rw [show ((0 : Int)).toNat = 0 from rfl] at qpF); (try rw [Addr.add_zero'] at qpF)
     skip
     replace p109 := eq_true p109; replace q109 := eq_true q109; obtain ⟨qrV, co17, eo17⟩ := Kd.qaI qdu.1; subst eo17; have q16 : ((qbx.length : Int) : Int) ≤ ((qg1.length : Int) : Int) := of_decide_eq_true qaL; obtain ⟨i016, hi016, _, hsz16, _⟩ := info_parts info3; have qto : qg1.length ≤ co17 := (Kd.qan qdu.1).2.1; have hC16 : Kd.C (Kd.int .i64) _ qrV qg1.length qg1 := (Kd.qan qdu.1).2.2; have hcut16 := qkN (P := Tryz.prog) 48 3 .i64 Tryz.underlying48 hi016 qrV qg1.length co17 (qbx.length : Int) (of_decide_eq_true qaL) q16 qto; have hr16 := Kd.qns (m := ((qbx.length : Int) : Int).toNat) hC16 (by omega)
     have hy16 : qj6.length = ((qbx.length : Int) : Int).toNat := (by rw [qoY.1, List.length_take]; omega)
     rw [← qoY.1] at hr16; rw [← hy16] at hcut16; have HR113 := ak_ hr16; have HC113 := ak_ (show qj6.length ≤ co17 from by omega); clear hr16 hC16 qto hi016 hsz16; have KY16 := ak_ hy16; clear hy16; have KL16 := ak_ (show ((qbx.length : Int) : Int).toNat ≤ qg1.length from by omega); have HAH_ := ak_ (show qjf 3 w.heap.size _ qrV (.slice qrV qg1.length co17) qg1 qj6 from ⟨by have := KY16.1; have := KL16.1; omega, .inl ⟨_, rfl, by rw [KY16.1]; exact qoY.1⟩⟩ : qjf 3 w.heap.size wr qrV (.slice qrV qg1.length co17) qg1 qj6); replace q16 := eq_true q16; go_wp2
     go_loopg [3, 34] k2 (fun kq v3 v34 w' => ∃ (x3_3 : List Int) (qki : Int), v34 = .int .i64 qki ∧ qai (qaT.l2 kq x3_3 (qbe qcq qef) (qbx.length : Int) (wrap64 (qmB * (rd (qbe qcq qef) 0))) qcq (qcq.length : Int) qef (rd (qbe qcq qef) 1) qoF qj6 (qj6.length : Int) qki = some r) ∧ qai (kq ≤ k2) ∧ qai (Kd.R (Kd.int .i64) 3 w' w.heap.size (fun _ => True) v3 x3_3) ∧ qai (Kd.S (Kd.slice 3 (Kd.int .i64)) 48 w' w.heap.size (fun k_ => some k_ ≠ (v3 : Value).ownBlock) (.slice (some ad107) qcq.length co6) qcq) ∧ qai (Below w.heap.size w w') ∧ qai (Kd.R (Kd.int .i64) 3 w' w.heap.size (fun k_ => some k_ ≠ (v3 : Value).ownBlock) (.slice (some qsa) (qbe qcq qef).length c107_0) (qbe qcq qef)) ∧ qai (qjf 3 w.heap.size w' qrV v3 x3_3 qj6))
     case atStart => exact ⟨(qg1), (0), qay, H', ⟨Nat.le_refl _⟩, ⟨qib⟩, ⟨by apply_rules only [qjh.1, Kd.qdm, Kd.qdn, Kd.qeo]⟩, ⟨qao⟩, ⟨by apply_rules only [HF_.1, Kd.qaq, Kd.qar, Kd.qax]⟩, ⟨by (first | exact HAH_.1 | (refine qjf.below HAH_.1 ?_; apply_rules only [Below.refl, qal, qaf, qah]))⟩⟩
     case round =>
      clear H'; (try clear c7); (try clear qhx); (try clear c8); (try clear qpc); (try clear c9); (try clear qmQ); (try clear c10); (try clear qgY); (try clear c10b1); (try clear c12); (try clear qhN); (try clear c13); (try clear qmP); (try clear c13b1); (try clear c14); (try clear qpa); (try clear c14b1); (try clear c15); (try clear qnH); (try clear qpb); (try clear q16); (try clear qtp); (try clear qk8); (try clear qpF); (try clear p107); (try clear qrQ); (try clear p109); (try clear q107); (try clear qrR); (try clear q109); clear qdu qjh HF_ HAH_; obtain ⟨x3_3, qki, rfl, HA, HK3, qdu, qjh, HB, HFB_, HAB_⟩ := hrel
      cases gk with
      | zero => exact absurd HA.1 (by simp [qaT.l2])
      | succ k3 =>
       have H := HA.1; clear HA; simp only [qaT.l2] at H; by_cases c18 : qki < (qj6.length : Int); rotate_left
       ·rw [if_neg c18] at H; have qra := decide_eq_false c18; clear c18; have H' := ak_ H; clear H; go_wp2
        go_roundg k3
        case measure => have := HK1.1; have := HK2.1; have := HK3.1; omega
        case rel => exact ⟨(x3_3), ((wrap64 (qmB * (rd (qbe qcq qef) 0)))), (wrap64 (qoF + 1)), qay, qay, H', ⟨k99_⟩, ⟨qib⟩, ⟨by apply_rules only [qjh.1, Kd.qdm, Kd.qdn, Kd.qeo]⟩, ⟨qao⟩, ⟨by apply_rules only [HFB_.1, Kd.qaq, Kd.qar, Kd.qax]⟩⟩
       rw [if_pos c18] at H; have qra := decide_eq_true c18; clear c18; obtain ⟨c19, H⟩ := qct H; have c19b0 := decide_eq_true c19; clear c19; obtain ⟨c20, H⟩ := qct H; have c20b0 := decide_eq_true c20; clear c20; obtain ⟨c21, H⟩ := qct H; have LMc21 := ak_ c21; clear c21
       obtain ⟨y115, hy_⟩ : ∃ y_ : List Int, y_ = (x3_3 ++ [wrap64 ((rd qj6 qki) * (wrap64 (qmB * (rd (qbe qcq qef) 0))))]) := ⟨_, rfl⟩
       replace H : (qaT.l2 k3 y115 (qbe qcq qef) (qbx.length : Int) (wrap64 (qmB * (rd (qbe qcq qef) 0))) qcq (qcq.length : Int) qef (rd (qbe qcq qef) 1) qoF qj6 (qj6.length : Int) (wrap64 (qki + 1))) = some r := qfb; have Ny115 := ak_ hy_; clear hy_; have H' := ak_ H; clear H; have p114 : 0 ≤ (qki : Int) := of_decide_eq_true qaL; have q114 : qki < (qj6.length : Int) := of_decide_eq_true qaL; obtain ⟨ad114, e114, hx114_0⟩ := Kd.qew (HAB_.1.reads qdu.1) qki p114 q114
       cases e114
       have HN3 := ak_ (show 0 < x3_3.length by have := HAB_.1.1; have := of_decide_eq_true (p := qki < (qj6.length : Int)) qaL; omega); replace p114 := eq_true p114; replace q114 := eq_true q114
       go_wp2_with (first | ((with_reducible refine qa5 (b := .append) (xs := #[.tmp 38, .tmp 42]) rfl ?_); at_builtin; refine app_keep (w0 := w) w.heap.size rfl (.tmp 38) (.tmp 42) 48 3 (.int .i64 0) 8 rfl Tryz.underlying48 info3 rfl (by omega) u3 x3_3 (wrap64 ((rd qj6 qki) * (wrap64 (qmB * (rd (qbe qcq qef) 0))))) (fun _ => True) rfl rfl (fun _ _ => trivial) ?aO HN3.1 ?aB ?aS ?aL ?_; (case aB => exact qao); (case aO => exact qib); (case aS => exact (qab qao)); (case aL => have := LMc21.1; omega); intro v116 w22 ho hb hg hg2 hat; replace HAB_ := ak_ (qjf.step (by first | exact HAB_.1 | (refine qjf.below HAB_.1 ?_; apply_rules only [Below.refl, qal, qaf, qah])) qib ho hg hg2 hat HN3.1); replace HFB_ := ak_ (Kd.qgh (ok := (fun _ => True)) (by (with_reducible repeat (first | apply Kd.qaq | apply Kd.qar | apply Kd.qax)); exact Kd.qa2 HFB_.1 (fun _ hk => ⟨trivial, hk⟩)) hg hat); rw [← Ny115.1] at ho; replace HAB_ : qai (qjf 3 w.heap.size w22 _ v116 y115 qj6) := by { have h_ := HAB_; rw [← Ny115.1] at h_; exact h_ }; replace qjh := ak_ (Kd.S_after (ok := (fun _ => True)) (by (with_reducible repeat (first | apply Kd.qdm | apply Kd.qdn | apply Kd.qeo)); exact Kd.qgz qjh.1 (fun _ hk => ⟨trivial, hk⟩)) hg hat); replace HB := ak_ (hb); have HO117 := ak_ (ho); clear qdu; clear ho hb hg hg2 hat))
       go_roundg k3
       case measure => have := HK1.1; have := HK2.1; have := HK3.1; omega
       case rel => exact ⟨(y115), (wrap64 (qki + 1)), qay, H', ⟨k99_⟩, ⟨by apply_rules only [HO117.1, Kd.qaq, Kd.qar, Kd.qax]⟩, ⟨by (with_reducible repeat (first | apply Kd.qdm | apply Kd.qdn | apply Kd.qeo)); exact Kd.qgz qjh.1 (fun _ hk => hk.2)⟩, ⟨qao⟩, ⟨by (with_reducible repeat (first | apply Kd.qaq | apply Kd.qar | apply Kd.qax)); exact Kd.qa2 HFB_.1 (fun _ hk => by first | exact hk | exact hk.2)⟩, ⟨by (first | exact HAB_.1 | (refine qjf.below HAB_.1 ?_; apply_rules only [Below.refl, qal, qaf, qah]))⟩⟩
def qdd.f (k : Nat) (a0 : Int) : Option (List Int × Bool) := (qcp.f a0).bind fun qav => (if qav = true then ((qaT.f k a0).bind fun qaQ => (some (qaQ, true))) else (some (([] : List Int), false)))
theorem qdd.calls (k : Nat) (a0 : Int) (r1 : List Int) (r2 : Bool) (w : World) (h : qdd.f k a0 = some (r1, r2)) :
  Calls Tryz.prog 130 #[.int .i64 a0] w fun e w' => ∃ v0_ : Value, e = .returned (.tuple #[v0_, .bool r2]) ∧ Kd.R (Kd.int .i64) 3 w' w.heap.size (fun _ => True) v0_ r1 ∧ Below w.heap.size w w' := by
 have HB := br_ w; have H : ((qcp.f a0).bind fun qav => (if qav = true then ((qaT.f k a0).bind fun qaQ => (some (qaQ, true))) else (some (([] : List Int), false)))) = some (r1, r2) := h; clear h; obtain ⟨qav, A2, H⟩ := qaB H; (try dsimp only at H); by_cases c3 : qav = true
 ·subst c3; rw [if_pos rfl] at H; obtain ⟨qaQ, A4, H⟩ := qaB H; (try dsimp only at H); obtain ⟨rfl, rfl⟩ := qdQ H; go_enter Tryz.func130, Tryz.ntmps130
  go_wp2_with (first | (refine gl_ 5 Tryz.func192 #[.int .i64 a0] rfl qbJ ?_; (with_reducible refine (qcp.calls a0 true _ A2.1).mono ?_); rintro e w' ⟨rfl, ⟨nd, rfl⟩⟩; refine ⟨_, rfl, ?_⟩) | (refine gl_ 8 Tryz.func193 #[.int .i64 a0] rfl qbJ ?_; (with_reducible refine (qaT.calls k a0 qaQ _ A4.1).mono ?_); rintro e w5 ⟨qht, rfl, ho0, hb⟩; refine ⟨_, rfl, ?_⟩; have qbZ := ak_ (Kd.qaw ho0 (qab qao)); replace HB := HB.mw hb; (try clear hb ho0)))
  go_ret2
  exact ⟨_, qca, k63_, qao⟩
 replace c3 := Bool.eq_false_iff.mpr c3; subst c3; rw [if_neg ff_] at H; obtain ⟨rfl, rfl⟩ := qdQ H; go_enter Tryz.func130, Tryz.ntmps130
 go_wp2_with (first | (refine gl_ 5 Tryz.func192 #[.int .i64 a0] rfl qbJ ?_; (with_reducible refine (qcp.calls a0 false _ A2.1).mono ?_); rintro e w' ⟨rfl, ⟨nd, rfl⟩⟩; refine ⟨_, rfl, ?_⟩))
 go_ret2
 exact ⟨_, qca, qhg, qao⟩
def qcg.l0 : Nat → Int → List (List Int) → Int → Int → Option (Int)
 | 0, _, _, _, _ => none
 | k + 1, x3, x8, x9, x10 => if x10 < x9 then (if 0 ≤ x10 then (if x10 < (x8.length : Int) then (if 0 < ((qbe x8 x10).length : Int) then (if (rd (qbe x8 x10) 0) = 0 then (none) else (qcg.l0 k (wrap64 ((wrap64 (Int.tdiv x3 (rd (qbe x8 x10) 0))) * (wrap64 ((rd (qbe x8 x10) 0) - 1)))) x8 x9 (wrap64 (x10 + 1)))) else (none)) else (none)) else (none)) else (some x3)
def qcg.f (k : Nat) (a0 : Int) : Option (Int) := (qaX.f k a0).bind fun qav => (qcg.l0 k a0 qav (qav.length : Int) 0)
theorem qcg.calls (k : Nat) (a0 : Int) (r : Int) (w : World) (h : qcg.f k a0 = some r) :
  Calls Tryz.prog 194 #[.int .i64 a0] w fun e w' => e = .returned (.int .i64 r) ∧ Below w.heap.size w w' := by
 have HB := br_ w; have H : ((qaX.f k a0).bind fun qav => (qcg.l0 k a0 qav (qav.length : Int) 0)) = some r := h; clear h; obtain ⟨qav, A2, H⟩ := qaB H; (try dsimp only at H); have H' := ak_ H; clear H; go_enter Tryz.func194, Tryz.ntmps194
 go_wp2_with (first | (go_at_call 190; (with_reducible refine (qaX.calls k a0 qav _ A2.1).mono ?_); rintro e w3 ⟨qjd, rfl, ho0, hb⟩; have qcI := ak_ (Kd.qd3 ho0 (qab qao)); replace HB := HB.mw hb; (try clear hb ho0); obtain ⟨Ao4, co4, eo4⟩ := Kd.qdT qcI.1; subst eo4))
 repeat (go_quiet (first | (go_at_call 190; (with_reducible refine (qaX.calls k a0 qav _ A2.1).mono ?_); rintro e w3 ⟨qjd, rfl, ho0, hb⟩; have qcI := ak_ (Kd.qd3 ho0 (qab qao)); replace HB := HB.mw hb; (try clear hb ho0); obtain ⟨Ao4, co4, eo4⟩ := Kd.qdT qcI.1; subst eo4)); try go_wp2_with (first | (go_at_call 190; (with_reducible refine (qaX.calls k a0 qav _ A2.1).mono ?_); rintro e w3 ⟨qjd, rfl, ho0, hb⟩; have qcI := ak_ (Kd.qd3 ho0 (qab qao)); replace HB := HB.mw hb; (try clear hb ho0); obtain ⟨Ao4, co4, eo4⟩ := Kd.qdT qcI.1; subst eo4)))
 go_loopg [3, 10] k (fun kq v3 v10 w' => ∃ (qbx : Int) (qcS : Int), v3 = .int .i64 qbx ∧ v10 = .int .i64 qcS ∧ qai (qcg.l0 kq qbx qav (qav.length : Int) qcS = some r) ∧ qai (kq ≤ k) ∧ qai (Kd.S (Kd.slice 3 (Kd.int .i64)) 48 w' w.heap.size (fun _ => True) (.slice Ao4 qav.length co4) qav) ∧ qai (Below w.heap.size w w'))
 case atStart => exact ⟨(a0), (0), qay, qay, H', ⟨Nat.le_refl _⟩, ⟨by apply_rules only [qcI.1, Kd.qdm, Kd.qdn, Kd.qeo]⟩, ⟨qao⟩⟩
 case round =>
  clear H'; obtain ⟨qbx, qcS, rfl, rfl, HA, HK1, HO_8, HB⟩ := hrel
  cases gk with
  | zero => exact absurd HA.1 (by simp [qcg.l0])
  | succ k1 =>
   have H := HA.1; clear HA; simp only [qcg.l0] at H; by_cases c5 : qcS < (qav.length : Int); rotate_left
   ·rw [if_neg c5] at H; have qgL := decide_eq_false c5; clear c5; obtain rfl := sj_ H; go_wp2
    repeat (go_quiet (fail); try go_wp2)
    go_ret
    exact ⟨qca, qao⟩
   rw [if_pos c5] at H; have qgL := decide_eq_true c5; clear c5; obtain ⟨c6, H⟩ := qct H; have qgc := decide_eq_true c6; clear c6; obtain ⟨c7, H⟩ := qct H; have qhx := decide_eq_true c7; clear c7; obtain ⟨c8, H⟩ := qct H; have qpc := decide_eq_true c8; have c8b1 : decide (0 < (qbe qav qcS).length) = true := decide_eq_true (by omega); clear c8; by_cases c9 : (rd (qbe qav qcS) 0) = 0
   ·rw [if_pos c9] at H; exact absurd H (by simp)
   rw [if_neg c9] at H; have qmQ : ((rd (qbe qav qcS) 0) == 0) = false := beq_eq_false_iff_ne.mpr c9; have c9b1 : ((rd (qbe qav qcS) 0) != 0) = true := bne_iff_ne.mpr c9; have H' := ak_ H; clear H; have qhz : 0 ≤ (qcS : Int) := of_decide_eq_true qaL; have qhA : qcS < (qav.length : Int) := of_decide_eq_true qaL; obtain ⟨qia, qrU, qsk, qnT, qd5, qhS, qhR⟩ := qjk (Kd.qeQ HO_8.1).2.2 qcS qhz qhA
   cases qnT
   obtain ⟨ce104, qsL, qsJ, qn2⟩ := Kd.qr8 HO_8.1 [] qcS qhz (by first | exact qhA | exact of_decide_eq_true qaL | (have e_ := (Kd.qeQ HO_8.1).1; omega)); obtain ⟨ve104_0, rfl, qit⟩ := qsJ; have qgn := qn2 0 _ rfl; rw [Nat.add_zero, show ((Kd.slice 3 (Kd.int .i64))).sz = 1 from rfl, Nat.mul_one] at qgn; replace qgn := Option.some.inj (qgn.symm.trans qd5); rw [qgn] at qit; have HL104_0 := ak_ (show Kd.R (Kd.int .i64) 3 _ _ _ _ (qbe qav qcS) from qit); clear qgn qit; clear qn2 qsL; have qky := ak_ qhR; have qoR := ak_ qhS; clear qhR qhS; replace qhz := eq_true qhz; replace qhA := eq_true qhA
   have qhT : 0 ≤ (0 : Int) := (by omega)
   have qhU : 0 < ((qbe qav qcS).length : Int) := of_decide_eq_true qaL; obtain ⟨qeq, qnU, qcT⟩ := Kd.qew k32_ 0 qhT qhU
   cases qnU
   have qtO : (0 < (qbe qav qcS).length) = True := eq_true (by omega); (try rw [show ((0 : Int)).toNat = 0 from rfl] at qcT); (try rw [Addr.add_zero'] at qcT); replace qhT := eq_true qhT; replace qhU := eq_true qhU
   have qfW : 0 ≤ (0 : Int) := (by omega)
   have qfX : 0 < ((qbe qav qcS).length : Int) := of_decide_eq_true qaL; obtain ⟨qg4, qke, qcu⟩ := Kd.qew k32_ 0 qfW qfX
   obtain rfl : qeq = qg4 := (by injection qke)
   have qtP : (0 < (qbe qav qcS).length) = True := eq_true (by omega); (try rw [show ((0 : Int)).toNat = 0 from rfl] at qcu); (try rw [Addr.add_zero'] at qcu); replace qfW := eq_true qfW; replace qfX := eq_true qfX; go_wp2
   repeat (go_quiet (fail); try go_wp2)
   go_roundg k1
   case measure => have := HK1.1; omega
   case rel => exact ⟨(wrap64 ((wrap64 (Int.tdiv qbx (rd (qbe qav qcS) 0))) * (wrap64 ((rd (qbe qav qcS) 0) - 1)))), (wrap64 (qcS + 1)), qay, qay, H', ⟨qc9⟩, ⟨by apply_rules only [HO_8.1, Kd.qdm, Kd.qdn, Kd.qeo]⟩, ⟨qao⟩⟩
def qdB.f (k : Nat) (a0 : Int) : Option (Int × Bool) := (qcp.f a0).bind fun qav => (if qav = true then ((qcg.f k a0).bind fun qaQ => (some (qaQ, true))) else (some (0, false)))
theorem qdB.calls (k : Nat) (a0 : Int) (r1 : Int) (r2 : Bool) (w : World) (h : qdB.f k a0 = some (r1, r2)) :
  Calls Tryz.prog 132 #[.int .i64 a0] w fun e w' => e = .returned (.tuple #[.int .i64 r1, .bool r2]) ∧ Below w.heap.size w w' := by
 have HB := br_ w; have H : ((qcp.f a0).bind fun qav => (if qav = true then ((qcg.f k a0).bind fun qaQ => (some (qaQ, true))) else (some (0, false)))) = some (r1, r2) := h; clear h; obtain ⟨qav, A2, H⟩ := qaB H; (try dsimp only at H); by_cases c3 : qav = true
 ·subst c3; rw [if_pos rfl] at H; obtain ⟨qaQ, A4, H⟩ := qaB H; (try dsimp only at H); obtain ⟨rfl, rfl⟩ := qdQ H; go_enter Tryz.func132, Tryz.ntmps132
  go_wp2_with (first | (refine gl_ 5 Tryz.func192 #[.int .i64 a0] rfl qbJ ?_; (with_reducible refine (qcp.calls a0 true _ A2.1).mono ?_); rintro e w' ⟨rfl, ⟨nd, rfl⟩⟩; refine ⟨_, rfl, ?_⟩) | (refine gl_ 8 Tryz.func194 #[.int .i64 a0] rfl qbJ ?_; (with_reducible refine (qcg.calls k a0 qaQ _ A4.1).mono ?_); rintro e w5 ⟨rfl, hb⟩; refine ⟨_, rfl, ?_⟩; replace HB := HB.mw hb; (try clear hb)))
  go_ret2
  exact ⟨qca, qao⟩
 replace c3 := Bool.eq_false_iff.mpr c3; subst c3; rw [if_neg ff_] at H; obtain ⟨rfl, rfl⟩ := qdQ H; go_enter Tryz.func132, Tryz.ntmps132
 go_wp2_with (first | (refine gl_ 5 Tryz.func192 #[.int .i64 a0] rfl qbJ ?_; (with_reducible refine (qcp.calls a0 false _ A2.1).mono ?_); rintro e w' ⟨rfl, ⟨nd, rfl⟩⟩; refine ⟨_, rfl, ?_⟩))
 go_ret2
 exact ⟨qca, qao⟩
def qbU.l0 : Nat → List (qac) → Int → ByteArray → Int → Option (ByteArray)
 | 0, _, _, _, _ => none
 | k + 1, x0, x1, x5, x6 => if x6 ≤ x1 then ((qcU.f x0 x6).bind fun qav => (if qav = true then (if x5.size + 1 ≤ 9223372036854775807 then (qbU.l0 k x0 x1 (x5 ++ (⟨#[111]⟩ : ByteArray)) (wrap64 (x6 + 1))) else (none)) else (if x5.size + 1 ≤ 9223372036854775807 then (qbU.l0 k x0 x1 (x5 ++ (⟨#[120]⟩ : ByteArray)) (wrap64 (x6 + 1))) else (none)))) else (some x5)
def qbU.f (k : Nat) (l0 : List (qac)) (a1 : Int) : Option (ByteArray) := qbU.l0 k l0 a1 (⟨#[]⟩ : ByteArray) 1
theorem qbU.calls (k : Nat) (A0 : Option Addr) (c0 : Nat) (l0 : List (qac)) (a1 : Int) (r : ByteArray) (w : World) (hr0 : Kd.C qaG w A0 l0.length l0) (hc0 : l0.length ≤ c0) (h : qbU.f k l0 a1 = some r) :
  Calls Tryz.prog 195 #[.slice A0 l0.length c0, .int .i64 a1] w fun e w' => e = .returned (.string r) ∧ Below w.heap.size w w' := by
 have HR0 := ak_ hr0; have HC0 := ak_ hc0; clear hr0 hc0; have HB := br_ w; have H : (qbU.l0 k l0 a1 (⟨#[]⟩ : ByteArray) 1) = some r := h; clear h; have H' := ak_ H; clear H; go_enter Tryz.func195, Tryz.ntmps195; go_wp2
 go_loopg [5, 6] k (fun kq v5 v6 w' => ∃ (qbC : ByteArray) (qdq : Int), v5 = .string qbC ∧ v6 = .int .i64 qdq ∧ qai (qbU.l0 kq l0 a1 qbC qdq = some r) ∧ qai (kq ≤ k) ∧ qai (Below w.heap.size w w'))
 case atStart => exact ⟨((⟨#[]⟩ : ByteArray)), (1), qay, qay, H', ⟨Nat.le_refl _⟩, ⟨qao⟩⟩
 case round =>
  clear H'; obtain ⟨qbC, qdq, rfl, rfl, HA, HK1, HB⟩ := hrel
  cases gk with
  | zero => exact absurd HA.1 (by simp [qbU.l0])
  | succ k1 =>
   have H := HA.1; clear HA; simp only [qbU.l0] at H; by_cases c3 : qdq ≤ a1; rotate_left
   ·rw [if_neg c3] at H; have qfr := decide_eq_false c3; clear c3; obtain rfl := sj_ H; go_wp2
    go_ret
    exact ⟨qca, qao⟩
   rw [if_pos c3] at H; have qfr := decide_eq_true c3; clear c3; obtain ⟨qav, A4, H⟩ := qaB H; (try dsimp only at H); by_cases c5 : qav = true
   ·subst c5; rw [if_pos rfl] at H; obtain ⟨c6, H⟩ := qct H; have qgc := eq_true c6; have qnJ := decide_eq_true c6
    try have c6b2 : (9223372036854775807 < qbC.size + 1) = False := eq_false (Nat.not_lt.2 c6)
    have H' := ak_ H; clear H
    go_wp2_with (first | (refine gl_ 14 Tryz.func199 #[.slice A0 l0.length c0, .int .i64 qdq] rfl qbJ ?_; (with_reducible refine (qcU.calls _ _ l0 qdq true _ ?qaz ?qaA A4.1).mono ?_); (case qaz => exact qhr); (case qaA => exact qb9); rintro e w7 ⟨rfl, hb⟩; refine ⟨_, rfl, ?_⟩; replace HB := HB.mw hb; (try clear hb)))
    go_roundg k1
    case measure => have := HK1.1; omega
    case rel => exact ⟨(qbC ++ (⟨#[111]⟩ : ByteArray)), (wrap64 (qdq + 1)), qay, qay, H', ⟨qc9⟩, ⟨qao⟩⟩
   replace c5 := Bool.eq_false_iff.mpr c5; subst c5; rw [if_neg ff_] at H; obtain ⟨c8, H⟩ := qct H; have qpc := eq_true c8; have c8b1 := decide_eq_true c8
   try have c8b2 : (9223372036854775807 < qbC.size + 1) = False := eq_false (Nat.not_lt.2 c8)
   have H' := ak_ H; clear H
   go_wp2_with (first | (refine gl_ 14 Tryz.func199 #[.slice A0 l0.length c0, .int .i64 qdq] rfl qbJ ?_; (with_reducible refine (qcU.calls _ _ l0 qdq false _ ?qaz ?qaA A4.1).mono ?_); (case qaz => exact qhr); (case qaA => exact qb9); rintro e w9 ⟨rfl, hb⟩; refine ⟨_, rfl, ?_⟩; replace HB := HB.mw hb; (try clear hb)))
   go_roundg k1
   case measure => have := HK1.1; omega
   case rel => exact ⟨(qbC ++ (⟨#[120]⟩ : ByteArray)), (wrap64 (qdq + 1)), qay, qay, H', ⟨qc9⟩, ⟨qao⟩⟩
def qdA.f (k : Nat) (l0 : List (qac)) (a1 : Int) : Option (ByteArray × Bool) := (qbb.f l0).bind fun qav => (if qav = true then (if a1 < 1 then (some ((⟨#[]⟩ : ByteArray), false)) else (if a1 > 48 then (some ((⟨#[]⟩ : ByteArray), false)) else ((qbU.f k l0 a1).bind fun qaQ => (some (qaQ, true))))) else (some ((⟨#[]⟩ : ByteArray), false)))
theorem qdA.calls (k : Nat) (A0 : Option Addr) (c0 : Nat) (l0 : List (qac)) (a1 : Int) (r1 : ByteArray) (r2 : Bool) (w : World) (hr0 : Kd.C qaG w A0 l0.length l0) (hc0 : l0.length ≤ c0) (h : qdA.f k l0 a1 = some (r1, r2)) :
  Calls Tryz.prog 133 #[.slice A0 l0.length c0, .int .i64 a1] w fun e w' => e = .returned (.tuple #[.string r1, .bool r2]) ∧ Below w.heap.size w w' := by
 have HR0 := ak_ hr0; have HC0 := ak_ hc0; clear hr0 hc0; have HB := br_ w; have H : ((qbb.f l0).bind fun qav => (if qav = true then (if a1 < 1 then (some ((⟨#[]⟩ : ByteArray), false)) else (if a1 > 48 then (some ((⟨#[]⟩ : ByteArray), false)) else ((qbU.f k l0 a1).bind fun qaQ => (some (qaQ, true))))) else (some ((⟨#[]⟩ : ByteArray), false)))) = some (r1, r2) := h; clear h; obtain ⟨qav, A3, H⟩ := qaB H; (try dsimp only at H); by_cases c4 : qav = true; rotate_left
 ·replace c4 := Bool.eq_false_iff.mpr c4; subst c4; rw [if_neg ff_] at H; obtain ⟨rfl, rfl⟩ := qdQ H; go_enter Tryz.func133, Tryz.ntmps133
  go_wp2_with (first | (refine gl_ 7 Tryz.func53 #[.slice A0 l0.length c0] rfl qbJ ?_; (with_reducible refine (qbb.calls _ _ l0 false _ ?qaz ?qaA A3.1).mono ?_); (case qaz => exact qf0); (case qaA => exact qb9); rintro e w12 ⟨rfl, hb⟩; refine ⟨_, rfl, ?_⟩; replace HB := HB.mw hb; (try clear hb)))
  go_ret2
  exact ⟨qca, qao⟩
 subst c4; rw [if_pos rfl] at H; by_cases c5 : a1 < 1
 ·rw [if_pos c5] at H; have qgL := decide_eq_true c5; clear c5; obtain ⟨rfl, rfl⟩ := qdQ H; go_enter Tryz.func133, Tryz.ntmps133
  go_wp2_with (first | (refine gl_ 7 Tryz.func53 #[.slice A0 l0.length c0] rfl qbJ ?_; (with_reducible refine (qbb.calls _ _ l0 true _ ?qaz ?qaA A3.1).mono ?_); (case qaz => exact qf0); (case qaA => exact qb9); rintro e w6 ⟨rfl, hb⟩; refine ⟨_, rfl, ?_⟩; replace HB := HB.mw hb; (try clear hb)))
  go_ret2
  exact ⟨qca, qao⟩
 rw [if_neg c5] at H; have qgL := decide_eq_false c5; clear c5; by_cases c7 : a1 > 48
 ·rw [if_pos c7] at H; have qhx : decide (48 < a1) = true := decide_eq_true c7; clear c7; obtain ⟨rfl, rfl⟩ := qdQ H; go_enter Tryz.func133, Tryz.ntmps133
  go_wp2_with (first | (refine gl_ 7 Tryz.func53 #[.slice A0 l0.length c0] rfl qbJ ?_; (with_reducible refine (qbb.calls _ _ l0 true _ ?qaz ?qaA A3.1).mono ?_); (case qaz => exact qf0); (case qaA => exact qb9); rintro e w8 ⟨rfl, hb⟩; refine ⟨_, rfl, ?_⟩; replace HB := HB.mw hb; (try clear hb)))
  go_ret2
  exact ⟨qca, qao⟩
 rw [if_neg c7] at H; have qhx : decide (48 < a1) = false := decide_eq_false c7; clear c7; obtain ⟨qaQ, A9, H⟩ := qaB H; (try dsimp only at H); obtain ⟨rfl, rfl⟩ := qdQ H; go_enter Tryz.func133, Tryz.ntmps133
 go_wp2_with (first | (refine gl_ 7 Tryz.func53 #[.slice A0 l0.length c0] rfl qbJ ?_; (with_reducible refine (qbb.calls _ _ l0 true _ ?qaz ?qaA A3.1).mono ?_); (case qaz => exact qf0); (case qaA => exact qb9); rintro e w10 ⟨rfl, hb⟩; refine ⟨_, rfl, ?_⟩; replace HB := HB.mw hb; (try clear hb)) | (refine gl_ 19 Tryz.func195 #[.slice A0 l0.length c0, .int .i64 a1] rfl qbJ ?_; (with_reducible refine (qbU.calls k _ _ l0 a1 qaQ _ ?qaz ?qaA A9.1).mono ?_); (case qaz => exact qhr); (case qaA => exact qb9); rintro e w11 ⟨rfl, hb⟩; refine ⟨_, rfl, ?_⟩; replace HB := HB.mw hb; (try clear hb)))
 go_ret2
 exact ⟨qca, qao⟩
def qfh.f (a0 : Int) : Option (Bool) := if a0 ≥ 0 then (some (decide (a0 ≤ 600))) else (some false)
theorem qfh.calls (a0 : Int) (r : Bool) (w : World) (h : qfh.f a0 = some r) :
  Calls Tryz.prog 66 #[.int .i64 a0] w fun e w' => e = .returned (.bool r) ∧ qcY w w' := by
 have H : (if a0 ≥ 0 then (some (decide (a0 ≤ 600))) else (some false)) = some r := h; clear h; by_cases c2 : a0 ≥ 0
 ·rw [if_pos c2] at H; have qfB : decide (0 ≤ a0) = true := decide_eq_true c2; clear c2; obtain rfl := sj_ H; go_enter Tryz.func66, Tryz.ntmps66; go_wp2
  go_ret
  exact ⟨qay, qc3⟩
 rw [if_neg c2] at H; have qfB : decide (0 ≤ a0) = false := decide_eq_false c2; clear c2; obtain rfl := sj_ H; go_enter Tryz.func66, Tryz.ntmps66; go_wp2
 go_ret
 exact ⟨qay, qc3⟩
def qb2.f (a0 : ByteArray) (a1 : Bool) : Option (ByteArray) := if a1 = true then (some a0) else (some (⟨#[110, 111]⟩ : ByteArray))
theorem qb2.calls (a0 : ByteArray) (a1 : Bool) (r : ByteArray) (w : World) (h : qb2.f a0 a1 = some r) :
  Calls Tryz.prog 76 #[.string a0, .bool a1] w fun e w' => e = .returned (.string r) ∧ qcY w w' := by
 have H : (if a1 = true then (some a0) else (some (⟨#[110, 111]⟩ : ByteArray))) = some r := h; clear h; by_cases c3 : a1 = true
 ·subst c3; rw [if_pos rfl] at H; obtain rfl := sj_ H; go_enter Tryz.func76, Tryz.ntmps76; go_wp2
  go_ret
  exact ⟨qay, qc3⟩
 replace c3 := Bool.eq_false_iff.mpr c3; subst c3; rw [if_neg ff_] at H; obtain rfl := sj_ H; go_enter Tryz.func76, Tryz.ntmps76; go_wp2
 go_ret
 exact ⟨qay, qc3⟩
def qcm.f (k : Nat) (rs : List qac) (mo : Int) (c : Cmd) (n : Int) : Option (List qac × Int × ByteArray) := match c with
  | .cDrop => if n ≥ (rs.length : Int) then some (rs, mo, (⟨#[110, 111]⟩ : ByteArray)) else (qcC.f rs n (wrap64 (n + 1))).bind fun xs => (qfg k rs xs true).bind fun p => some (p.1, mo, p.2)
  | .cMost => (qfh.f n).bind fun t => if t = true then ((qaH.f k rs).bind fun s => some (rs, n, s)) else some (rs, mo, (⟨#[110, 111]⟩ : ByteArray))
  | .cMove => (qaF.f k rs n).bind fun q => (qfg k rs q.1 q.2).bind fun p => some (p.1, mo, p.2)
  | .cPrimes => (qcD.f k n).bind fun q => (qfg k rs q.1 q.2).bind fun p => some (p.1, mo, p.2)
  | .cRank => (qbE.f k rs n).bind fun q => (qbm.f q.1).bind fun s => (qb2.f s q.2).bind fun z => some (rs, mo, z)
  | .cFactors => (qcL.f k n).bind fun q => (qbT.f k q.1).bind fun s => (qb2.f s q.2).bind fun z => some (rs, mo, z)
  | .cPi => (qc1.f k n).bind fun q => (qbm.f q.1).bind fun s => (qb2.f s q.2).bind fun z => some (rs, mo, z)
  | .cDivisors => (qdd.f k n).bind fun q => (qbq.f k q.1).bind fun s => (qb2.f s q.2).bind fun z => some (rs, mo, z)
  | .cTotient => (qdB.f k n).bind fun q => (qbm.f q.1).bind fun s => (qb2.f s q.2).bind fun z => some (rs, mo, z)
  | .cPattern => (qdA.f k rs n).bind fun q => (qb2.f q.1 q.2).bind fun z => some (rs, mo, z)
  | _ => none
theorem qlL (k base g : Nat) (rs : List qac) (mo : Int) (c : Cmd) (n : Int) (rs' : List qac) (mo' : Int) (txt : ByteArray) (w : World) (hbase : base ≤ w.heap.size) (hD : qfR w base g rs mo) (hl : rs.length < 8796093022208) (hG : qbc w) (h : qcm.f k rs mo c n = some (rs', mo', txt)) :
    Calls Tryz.prog 73 #[.pointer (some ⟨g, 0, none⟩), .string c.word, .int .i64 n] w fun e w' => e = .returned (.string txt) ∧ qfR w' base g rs' mo' ∧ qcA w w' g := by
  obtain ⟨A0, c0, hC, hO⟩ := hD; have HCw := ak_ hC; have HOw := ak_ hO; have HC := ak_ hC; have HO := ak_ hO; have HG := ak_ hG; have HBS := ak_ hbase; have HB := br_ w; have HLn := ak_ hl; have SM := ak_ (show ∀ w' : World, Below w.heap.size w w' → qfR w' base g rs mo ∧ qcA w w' g from fun w' h_ => ⟨⟨A0, c0, qap HCw.1 h_, Kd.qbs HOw.1 h_⟩, qcA.qbR h_ g⟩); obtain ⟨qrm, qrn, qrg, qrh⟩ := qbl HC.1; clear hC hO hG hbase hl; unfold qcm.f at h
  match c, h with
  | .cDrop, h =>
    simp only [Cmd.word, Cmd.bytes]; dsimp only at h; by_cases hn : n ≥ (rs.length : Int)
    ·rw [if_pos hn] at h; obtain ⟨rfl, rfl, rfl⟩ := qfI h; have hnb : decide ((rs.length : Int) ≤ n) = true := decide_eq_true hn; clear hn; go_enter Tryz.func73, Tryz.ntmps73; go_wp2
     go_ret
     exact ⟨rfl, SM.1 _ qao⟩
    rw [if_neg hn] at h; obtain ⟨xs, A1, h⟩ := qaB h; (try dsimp only at h); obtain ⟨⟨rs1, qjD⟩, A2, h⟩ := qaB h; (try dsimp only at h); obtain ⟨rfl, rfl, rfl⟩ := qfI h; have hnb : decide ((rs.length : Int) ≤ n) = false := decide_eq_false hn; clear hn; go_enter Tryz.func73, Tryz.ntmps73
    go_wp2_with (first | ((with_reducible refine qam (N := 28) rfl ?_); refine li_ qaG 85 28 rfl (xs := ([] : List qac)) qa1 ?_; intro vl28 wl ho hb; have HV := ak_ (Kd.qaw ho (qab qao)); replace HB := HB.mw hb; clear hb ho; clear HC HO; have HC := ak_ (qap HCw.1 HB.1); have HO := ak_ (Kd.qbs HOw.1 HB.1); obtain ⟨qjU, qjV, qjQ, qjR⟩ := qbl HC.1) | ((with_reducible refine qa5 (b := .append) (xs := #[.tmp 28, .tmp 32]) rfl ?_); at_builtin; refine Kd.qdS qaG (w0 := w) w.heap.size rfl (.tmp 28) (.tmp 32) 26 85 (.agg #[(.int .i64 0), (.int .i64 0)]) 16 rfl Tryz.underlying26 qcX rfl (by decide) (by omega) vl28 [] rs _ _ _ (fun _ => True) (fun _ => False) rfl rfl ?aO ?aR (fun _ _ h => h) (fun _ h => h.elim) ?aF ?aB ?aS ?aL ?_; (case aR => exact qjW); (case aB => exact qao); (case aF => exact (fun _ _ => trivial)); (case aO => exact (by apply_rules only [HV.1, Kd.qaq, Kd.qar, Kd.qax])); (case aS => exact (qab qao)); (case aL => have := HLn.1; simp only [List.length_nil]; omega); intro v33 w33 ho hb hg hat; rw [List.nil_append] at ho; have HX := ak_ ho; replace HB := ak_ (hb); clear HV; clear ho hb hg hat; obtain ⟨Ax, cx, ex⟩ := Kd.qaI HX.1; subst ex) | (refine gl_ 37 Tryz.func123 #[.slice Ax rs.length cx, .int .i64 n, .int .i64 (wrap64 (n + 1))] rfl qb6 ?_; (refine (qcC.own Ax cx w.heap.size rs n (wrap64 (n + 1)) xs _ (qab qao) qnq A1.1).mono ?_); rintro e w37 ⟨vx, rfl, hox, hg⟩; refine ⟨_, rfl, ?_⟩; have HX2 := ak_ hox; have hB2 := Below.grown qao hg (qab qao) (Kd.qfm qnq); clear HX HB; have HB := ak_ hB2; have HX := HX2; clear hox hg hB2 HX2; obtain ⟨Ax2, cx2, ex⟩ := Kd.qaI HX.1; subst ex) | (refine gl_ 38 Tryz.func71 #[.pointer (some ⟨g, 0, none⟩), .slice Ax2 xs.length cx2, .bool true] rfl qb6 ?_; (refine (qeZ k base g Ax2 cx2 xs true rs mo rs1 qjD _ (SM.1 _ qao).1 (Kd.qaw qnq HBS.1) A2.1).mono ?_); rintro e w9 ⟨rfl, hD, hk⟩; refine ⟨_, rfl, ?_⟩; have HD := ak_ hD; have HKb := ak_ (qcA.trans (qcA.qbR qao g) hk); clear hD hk))
    go_ret
    exact ⟨rfl, HD.1, HKb.1⟩
  | .cMost, h =>
    simp only [Cmd.word, Cmd.bytes]; dsimp only at h; obtain ⟨t, A1, h⟩ := qaB h
    cases t with
    | false =>
      rw [if_neg (by decide)] at h; obtain ⟨rfl, rfl, rfl⟩ := qfI h; go_enter Tryz.func73, Tryz.ntmps73
      go_wp2_with (first | (refine gl_ 42 Tryz.func66 #[.int .i64 n] rfl qb6 ?_; (refine ((qfh.calls n false _ A1.1)).mono ?_); rintro e w4 ⟨rfl, hd_⟩; refine ⟨_, rfl, ?_⟩; have hb := hd_.below; clear hd_; replace HB := ak_ (qaa qao hb); clear HC HO; have HC := ak_ (qap HCw.1 HB.1); have HO := ak_ (Kd.qbs HOw.1 HB.1); obtain ⟨qtu, qtv, qs1, qs2⟩ := qbl HC.1; clear hb))
      go_ret
      exact ⟨rfl, SM.1 _ qao⟩
    | true =>
      rw [if_pos rfl] at h; obtain ⟨s, A2, h⟩ := qaB h; obtain ⟨rfl, rfl, rfl⟩ := qfI h; go_enter Tryz.func73, Tryz.ntmps73
      go_wp2_with (first | (refine gl_ 42 Tryz.func66 #[.int .i64 n] rfl qb6 ?_; (refine ((qfh.calls n true _ A1.1)).mono ?_); rintro e w4 ⟨rfl, hd_⟩; refine ⟨_, rfl, ?_⟩; have hb := hd_.below; clear hd_; replace HB := ak_ (qaa qao hb); clear HC HO; have HC := ak_ (qap HCw.1 HB.1); have HO := ak_ (Kd.qbs HOw.1 HB.1); obtain ⟨qtu, qtv, qs1, qs2⟩ := qbl HC.1; clear hb) | (refine gl_ 52 Tryz.func54 #[.slice A0 rs.length c0] rfl qb6 ?_; (refine (qaH.calls k _ _ rs s _ k22_ (Kd.qan HO.1).2.1 A2.1).mono ?_); rintro e wb ⟨rfl, hb⟩; refine ⟨_, rfl, ?_⟩; have HB2 := ak_ hb; clear hb))
      go_ret
      exact ⟨rfl, ⟨A0, c0, qap (qa9 qrt 1 _ rfl) HB2.1, Kd.qbs (Kd.qg2 k94_ qrt (by decide) 1 _) HB2.1⟩, (qcA.set_ (qcA.qbR qao g) 1 _).trans (qcA.qbR HB2.1 g)⟩
  | .cMove, h =>
    simp only [Cmd.word, Cmd.bytes]; dsimp only at h; obtain ⟨⟨xs, ok⟩, A1, h⟩ := qaB h; (try dsimp only at h); obtain ⟨⟨rs1, qjD⟩, A2, h⟩ := qaB h; (try dsimp only at h); obtain ⟨rfl, rfl, rfl⟩ := qfI h; go_enter Tryz.func73, Tryz.ntmps73
    go_wp2_with (first | (refine gl_ 61 Tryz.func124 #[.slice A0 rs.length c0, .int .i64 n] rfl qb6 ?_; (refine (qaF.calls k _ _ rs n xs ok _ qjW (Kd.qan HO.1).2.1 A1.1).mono ?_); rintro e w2 ⟨vx, rfl, hox, hb⟩; refine ⟨_, rfl, ?_⟩; have HX := ak_ (Kd.qaw hox (Nat.le_trans HBS.1 (qab qao))); clear hox; obtain ⟨Ax, cx, ex⟩ := Kd.qaI HX.1; subst ex; replace HB := ak_ (qaa qao hb); clear hb) | (refine gl_ 64 Tryz.func71 #[.pointer (some ⟨g, 0, none⟩), .slice Ax xs.length cx, .bool ok] rfl qb6 ?_; (refine (qeZ k base g Ax cx xs ok rs mo rs1 qjD _ (SM.1 _ qao).1 qnq A2.1).mono ?_); rintro e w9 ⟨rfl, hD, hk⟩; refine ⟨_, rfl, ?_⟩; have HD := ak_ hD; have HKb := ak_ (qcA.trans (qcA.qbR qao g) hk); clear hD hk))
    go_ret
    exact ⟨rfl, HD.1, HKb.1⟩
  | .cPrimes, h =>
    simp only [Cmd.word, Cmd.bytes]; dsimp only at h; obtain ⟨⟨xs, ok⟩, A1, h⟩ := qaB h; (try dsimp only at h); obtain ⟨⟨rs1, qjD⟩, A2, h⟩ := qaB h; (try dsimp only at h); obtain ⟨rfl, rfl, rfl⟩ := qfI h; go_enter Tryz.func73, Tryz.ntmps73
    go_wp2_with (first | (refine gl_ 69 Tryz.func125 #[.int .i64 n] rfl qb6 ?_; (refine (qcD.calls k n xs ok _ A1.1).mono ?_); rintro e w2 ⟨vx, rfl, hox, hb⟩; refine ⟨_, rfl, ?_⟩; have HX := ak_ (Kd.qaw hox (Nat.le_trans HBS.1 (qab qao))); clear hox; obtain ⟨Ax, cx, ex⟩ := Kd.qaI HX.1; subst ex; replace HB := ak_ (qaa qao hb); clear hb) | (refine gl_ 72 Tryz.func71 #[.pointer (some ⟨g, 0, none⟩), .slice Ax xs.length cx, .bool ok] rfl qb6 ?_; (refine (qeZ k base g Ax cx xs ok rs mo rs1 qjD _ (SM.1 _ qao).1 qnq A2.1).mono ?_); rintro e w9 ⟨rfl, hD, hk⟩; refine ⟨_, rfl, ?_⟩; have HD := ak_ hD; have HKb := ak_ (qcA.trans (qcA.qbR qao g) hk); clear hD hk))
    go_ret
    exact ⟨rfl, HD.1, HKb.1⟩
  | .cRank, h =>
    simp only [Cmd.word, Cmd.bytes]; dsimp only at h; obtain ⟨⟨v, ok⟩, A1, h⟩ := qaB h; (try dsimp only at h); obtain ⟨s, A2, h⟩ := qaB h; (try dsimp only at h); obtain ⟨z, A3, h⟩ := qaB h; (try dsimp only at h); obtain ⟨rfl, rfl, rfl⟩ := qfI h; go_enter Tryz.func73, Tryz.ntmps73
    go_wp2_with (first | (refine gl_ 81 Tryz.func126 #[.slice A0 rs.length c0, .int .i64 n] rfl qb6 ?_; (refine (qbE.calls k _ _ rs n v ok _ qjW (Kd.qan HO.1).2.1 A1.1).mono ?_); rintro e w2 ⟨rfl, hb⟩; refine ⟨_, rfl, ?_⟩; replace HB := ak_ (qaa qao hb); clear hb) | (refine gl_ 85 Tryz.func87 #[.int .i64 v] rfl qb6 ?_; (refine (qbm.calls v s _ A2.1 (qbc.below HG.1 qao)).mono ?_); rintro e w5 ⟨rfl, hb⟩; refine ⟨_, rfl, ?_⟩; replace HB := ak_ (qaa qao hb); clear hb) | (refine gl_ 87 Tryz.func76 #[.string s, .bool ok] rfl qb6 ?_; (refine ((qb2.calls s ok z _ A3.1)).mono ?_); rintro e w8 ⟨rfl, hd_⟩; refine ⟨_, rfl, ?_⟩; have hb := hd_.below; clear hd_; replace HB := ak_ (qaa qao hb); clear hb))
    go_ret
    exact ⟨rfl, SM.1 _ qao⟩
  | .cFactors, h =>
    simp only [Cmd.word, Cmd.bytes]; dsimp only at h; obtain ⟨⟨xs, ok⟩, A1, h⟩ := qaB h; (try dsimp only at h); obtain ⟨s, A2, h⟩ := qaB h; (try dsimp only at h); obtain ⟨z, A3, h⟩ := qaB h; (try dsimp only at h); obtain ⟨rfl, rfl, rfl⟩ := qfI h; go_enter Tryz.func73, Tryz.ntmps73
    go_wp2_with (first | (refine gl_ 92 Tryz.func127 #[.int .i64 n] rfl qb6 ?_; (refine (qcL.calls k n xs ok _ A1.1).mono ?_); rintro e w2 ⟨vx, rfl, hox, hb⟩; refine ⟨_, rfl, ?_⟩; have HX := ak_ (Kd.qd3 hox (Nat.le_trans HBS.1 (qab qao))); clear hox; obtain ⟨Ax, cx, ex⟩ := Kd.qdT HX.1; subst ex; replace HB := ak_ (qaa qao hb); clear hb) | (refine gl_ 96 Tryz.func128 #[.slice Ax xs.length cx] rfl qb6 ?_; (refine (qbT.calls k _ _ xs s _ (by repeat (first | exact (Kd.qeQ HX.1).2.2 | (with_reducible refine Kd.C_alloc ?_ _) | (with_reducible refine Kd.C_drewN ?_ _) | (with_reducible refine Kd.C_drew ?_))) (Kd.qeQ HX.1).2.1 A2.1 (qbc.below HG.1 qao)).mono ?_); rintro e w5 ⟨rfl, hb⟩; refine ⟨_, rfl, ?_⟩; replace HB := ak_ (qaa qao hb); clear hb) | (refine gl_ 98 Tryz.func76 #[.string s, .bool ok] rfl qb6 ?_; (refine ((qb2.calls s ok z _ A3.1)).mono ?_); rintro e w8 ⟨rfl, hd_⟩; refine ⟨_, rfl, ?_⟩; have hb := hd_.below; clear hd_; replace HB := ak_ (qaa qao hb); clear hb))
    go_ret
    exact ⟨rfl, SM.1 _ qao⟩
  | .cPi, h =>
    simp only [Cmd.word, Cmd.bytes]; dsimp only at h; obtain ⟨⟨v, ok⟩, A1, h⟩ := qaB h; (try dsimp only at h); obtain ⟨s, A2, h⟩ := qaB h; (try dsimp only at h); obtain ⟨z, A3, h⟩ := qaB h; (try dsimp only at h); obtain ⟨rfl, rfl, rfl⟩ := qfI h; go_enter Tryz.func73, Tryz.ntmps73
    go_wp2_with (first | (refine gl_ 103 Tryz.func129 #[.int .i64 n] rfl qb6 ?_; (refine (qc1.calls k n v ok _ A1.1).mono ?_); rintro e w2 ⟨rfl, hb⟩; refine ⟨_, rfl, ?_⟩; replace HB := ak_ (qaa qao hb); clear hb) | (refine gl_ 107 Tryz.func87 #[.int .i64 v] rfl qb6 ?_; (refine (qbm.calls v s _ A2.1 (qbc.below HG.1 qao)).mono ?_); rintro e w5 ⟨rfl, hb⟩; refine ⟨_, rfl, ?_⟩; replace HB := ak_ (qaa qao hb); clear hb) | (refine gl_ 109 Tryz.func76 #[.string s, .bool ok] rfl qb6 ?_; (refine ((qb2.calls s ok z _ A3.1)).mono ?_); rintro e w8 ⟨rfl, hd_⟩; refine ⟨_, rfl, ?_⟩; have hb := hd_.below; clear hd_; replace HB := ak_ (qaa qao hb); clear hb))
    go_ret
    exact ⟨rfl, SM.1 _ qao⟩
  | .cDivisors, h =>
    simp only [Cmd.word, Cmd.bytes]; dsimp only at h; obtain ⟨⟨xs, ok⟩, A1, h⟩ := qaB h; (try dsimp only at h); obtain ⟨s, A2, h⟩ := qaB h; (try dsimp only at h); obtain ⟨z, A3, h⟩ := qaB h; (try dsimp only at h); obtain ⟨rfl, rfl, rfl⟩ := qfI h; go_enter Tryz.func73, Tryz.ntmps73
    go_wp2_with (first | (refine gl_ 114 Tryz.func130 #[.int .i64 n] rfl qb6 ?_; (refine (qdd.calls k n xs ok _ A1.1).mono ?_); rintro e w2 ⟨vx, rfl, hox, hb⟩; refine ⟨_, rfl, ?_⟩; have HX := ak_ (Kd.qaw hox (Nat.le_trans HBS.1 (qab qao))); clear hox; obtain ⟨Ax, cx, ex⟩ := Kd.qaI HX.1; subst ex; replace HB := ak_ (qaa qao hb); clear hb) | (refine gl_ 118 Tryz.func131 #[.slice Ax xs.length cx] rfl qb6 ?_; (refine (qbq.calls k _ _ xs s _ qrr (Kd.qan HX.1).2.1 A2.1 (qbc.below HG.1 qao)).mono ?_); rintro e w5 ⟨rfl, hb⟩; refine ⟨_, rfl, ?_⟩; replace HB := ak_ (qaa qao hb); clear hb) | (refine gl_ 120 Tryz.func76 #[.string s, .bool ok] rfl qb6 ?_; (refine ((qb2.calls s ok z _ A3.1)).mono ?_); rintro e w8 ⟨rfl, hd_⟩; refine ⟨_, rfl, ?_⟩; have hb := hd_.below; clear hd_; replace HB := ak_ (qaa qao hb); clear hb))
    go_ret
    exact ⟨rfl, SM.1 _ qao⟩
  | .cTotient, h =>
    simp only [Cmd.word, Cmd.bytes]; dsimp only at h; obtain ⟨⟨v, ok⟩, A1, h⟩ := qaB h; (try dsimp only at h); obtain ⟨s, A2, h⟩ := qaB h; (try dsimp only at h); obtain ⟨z, A3, h⟩ := qaB h; (try dsimp only at h); obtain ⟨rfl, rfl, rfl⟩ := qfI h; go_enter Tryz.func73, Tryz.ntmps73
    go_wp2_with (first | (refine gl_ 125 Tryz.func132 #[.int .i64 n] rfl qb6 ?_; (refine (qdB.calls k n v ok _ A1.1).mono ?_); rintro e w2 ⟨rfl, hb⟩; refine ⟨_, rfl, ?_⟩; replace HB := ak_ (qaa qao hb); clear hb) | (refine gl_ 129 Tryz.func87 #[.int .i64 v] rfl qb6 ?_; (refine (qbm.calls v s _ A2.1 (qbc.below HG.1 qao)).mono ?_); rintro e w5 ⟨rfl, hb⟩; refine ⟨_, rfl, ?_⟩; replace HB := ak_ (qaa qao hb); clear hb) | (refine gl_ 131 Tryz.func76 #[.string s, .bool ok] rfl qb6 ?_; (refine ((qb2.calls s ok z _ A3.1)).mono ?_); rintro e w8 ⟨rfl, hd_⟩; refine ⟨_, rfl, ?_⟩; have hb := hd_.below; clear hd_; replace HB := ak_ (qaa qao hb); clear hb))
    go_ret
    exact ⟨rfl, SM.1 _ qao⟩
  | .cPattern, h =>
    simp only [Cmd.word, Cmd.bytes]; dsimp only at h; obtain ⟨⟨s, ok⟩, A1, h⟩ := qaB h; (try dsimp only at h); obtain ⟨z, A2, h⟩ := qaB h; (try dsimp only at h); obtain ⟨rfl, rfl, rfl⟩ := qfI h; go_enter Tryz.func73, Tryz.ntmps73
    go_wp2_with (first | (refine gl_ 137 Tryz.func133 #[.slice A0 rs.length c0, .int .i64 n] rfl qb6 ?_; (refine (qdA.calls k _ _ rs n s ok _ qjW (Kd.qan HO.1).2.1 A1.1).mono ?_); rintro e w2 ⟨rfl, hb⟩; refine ⟨_, rfl, ?_⟩; replace HB := ak_ (qaa qao hb); clear hb) | (refine gl_ 140 Tryz.func76 #[.string s, .bool ok] rfl qb6 ?_; (refine ((qb2.calls s ok z _ A2.1)).mono ?_); rintro e w8 ⟨rfl, hd_⟩; refine ⟨_, rfl, ?_⟩; have hb := hd_.below; clear hd_; replace HB := ak_ (qaa qao hb); clear hb))
    go_ret
    exact ⟨rfl, SM.1 _ qao⟩
mutual
def qaY.l0 : Nat → ByteArray → List (qac) → Int → Option ((List (qac)))
 | 0, _, _, _ => none
 | k + 1, x0, x3, x4 => if x4 ≤ 10 then (qaY.l1 k x0 x3 x4 x4 0) else (some x3)
def qaY.l1 : Nat → ByteArray → List (qac) → Int → Int → Int → Option ((List (qac)))
 | 0, _, _, _, _, _ => none
 | k + 1, x0, x3, x4, x13, x14 => if x14 < x13 then (qaY.l2 k x0 x3 x4 x14 true x13 x14 (x0.size : Int) 0) else (qaY.l0 k x0 x3 (wrap64 (x4 + 1)))
def qaY.l2 : Nat → ByteArray → List (qac) → Int → Int → Bool → Int → Int → Int → Int → Option ((List (qac)))
 | 0, _, _, _, _, _, _, _, _, _ => none
 | k + 1, x0, x3, x4, x5, x6, x13, x14, x18, x19 => if x19 < x18 then (if x6 = true then (if 0 ≤ x19 then (if x19 < (x0.size : Int) then (if (bt x0 x19) = 111 then (if x4 = 0 then (none) else (qaY.l2 k x0 x3 x4 x5 ((Int.tmod (wrap64 (x19 + 1)) x4) != x5) x13 x14 x18 (wrap64 (x19 + 1)))) else (qaY.l2 k x0 x3 x4 x5 true x13 x14 x18 (wrap64 (x19 + 1)))) else (none)) else (none)) else (qaY.l2 k x0 x3 x4 x5 false x13 x14 x18 (wrap64 (x19 + 1)))) else (if x6 = true then (if x3.length < 8796093022208 then (qaY.l1 k x0 (x3 ++ [(⟨x4, x5⟩ : qac)]) x4 x13 (wrap64 (x14 + 1))) else (none)) else (qaY.l1 k x0 x3 x4 x13 (wrap64 (x14 + 1))))
end
def qaY.f (k : Nat) (a0 : ByteArray) : Option ((List (qac))) := qaY.l0 k a0 (([] : List (qac))) 2
theorem qaY.calls (k : Nat) (a0 : ByteArray) (r : List (qac)) (w : World) (h : qaY.f k a0 = some r) :
  Calls Tryz.prog 235 #[.string a0] w fun e w' => ∃ v0_ : Value, e = .returned (v0_) ∧ Kd.R qaG 85 w' w.heap.size (fun _ => True) v0_ r ∧ Below w.heap.size w w' := by
 have qme := Tryz.underlying85; have HB := br_ w; have H : (qaY.l0 k a0 (([] : List (qac))) 2) = some r := h; clear h
 obtain ⟨qeW, hy_⟩ : ∃ y_ : List (qac), y_ = (([] : List (qac))) := ⟨_, rfl⟩
 replace H : (qaY.l0 k a0 qeW 2) = some r := qfb; have qet := ak_ hy_; clear hy_; have H' := ak_ H; clear H; go_enter Tryz.func235, Tryz.ntmps235
 go_wp2_with (first | ((with_reducible refine qam (N := 8) rfl ?_); refine Kd.qhH qaG _ 85 ?hg (N := 8) ?hd (xs := ([] : List (qac))) (inner := []) (ok := fun _ => True) (okp := fun _ => True) ?hr ?hp (fun _ hk => hk) trivial (Below.refl _ _) (Nat.le_refl _) (by simp) ?_; (case hd => rfl); (case hg => rfl); (case hr => exact qa1); (case hp => exact (qep.none _ _)); intro qjd w2 ho3 hb hg_ hnew_; clear hg_ hnew_; (first | rw [← qet.1] at ho3 | (simp only [Int.reduceToNat] at ho3; rw [← qet.1] at ho3)); have qcI := ak_ (Kd.qaw ho3 (qab qao)); replace HB := HB.mw hb; clear hb ho3))
 go_loopg [3, 4] k (fun kq v3 v4 w' => ∃ (qbx : List (qac)) (qcP : Int), v4 = .int .i64 qcP ∧ qai (qaY.l0 kq a0 qbx qcP = some r) ∧ qai (kq ≤ k) ∧ qai (Kd.R qaG 85 w' w.heap.size (fun _ => True) v3 qbx) ∧ qai (Below w.heap.size w w'))
 case atStart => exact ⟨(qeW), (2), qay, H', ⟨Nat.le_refl _⟩, ⟨qoL⟩, ⟨qao⟩⟩
 case round =>
  clear H'; obtain ⟨qbx, qcP, rfl, HA, HK1, qdu, HB⟩ := hrel
  cases gk with
  | zero => exact absurd HA.1 (by simp [qaY.l0])
  | succ k1 =>
   have H := HA.1; clear HA; simp only [qaY.l0] at H; by_cases c4 : qcP ≤ 10; rotate_left
   ·rw [if_neg c4] at H; have qfw := decide_eq_false c4; clear c4; obtain rfl := sj_ H; go_wp2
    go_ret
    exact ⟨_, qca, k64_, qao⟩
   rw [if_pos c4] at H; have qfw := decide_eq_true c4; clear c4; have H' := ak_ H; clear H; go_wp2
   go_loopg [3, 14] k1 (fun kq v3 v14 w' => ∃ (qg1 : List (qac)) (qjb : Int), v14 = .int .i64 qjb ∧ qai (qaY.l1 kq a0 qg1 qcP qcP qjb = some r) ∧ qai (kq ≤ k1) ∧ qai (Kd.R qaG 85 w' w.heap.size (fun _ => True) v3 qg1) ∧ qai (Below w.heap.size w w'))
   case atStart => exact ⟨(qbx), (0), qay, H', ⟨Nat.le_refl _⟩, ⟨qib⟩, ⟨qao⟩⟩
   case round =>
    clear H'; (try clear c4); (try clear qfw); obtain ⟨qg1, qjb, rfl, HA, HK2, qdu, HB⟩ := hrel
    cases gk with
    | zero => exact absurd HA.1 (by simp [qaY.l1])
    | succ k2 =>
     have H := HA.1; clear HA; simp only [qaY.l1] at H; by_cases c5 : qjb < qcP; rotate_left
     ·rw [if_neg c5] at H; have qgL := decide_eq_false c5; clear c5; have H' := ak_ H; clear H; go_wp2
      go_roundg k2
      case measure => have := HK1.1; have := HK2.1; omega
      case rel => exact ⟨(qg1), (wrap64 (qcP + 1)), qay, H', ⟨qm3⟩, ⟨qib⟩, ⟨qao⟩⟩
     rw [if_pos c5] at H; have qgL := decide_eq_true c5; clear c5; have H' := ak_ H; clear H; go_wp2
     go_loopg [6, 19] k2 (fun kq v6 v19 w' => ∃ (x6_3 : Bool) (qho : Int), v6 = .bool x6_3 ∧ v19 = .int .i64 qho ∧ qai (qaY.l2 kq a0 qg1 qcP qjb x6_3 qcP qjb (a0.size : Int) qho = some r) ∧ qai (kq ≤ k2) ∧ qai (Kd.R qaG 85 w' w.heap.size (fun _ => True) u3 qg1) ∧ qai (Below w.heap.size w w'))
     case atStart => exact ⟨(true), (0), qay, qay, H', ⟨Nat.le_refl _⟩, ⟨qib⟩, ⟨qao⟩⟩
     case round =>
      clear H'; (try clear c4); (try clear qfw); (try clear c5); (try clear qgL); obtain ⟨x6_3, qho, rfl, rfl, HA, HK3, qdu, HB⟩ := hrel
      cases gk with
      | zero => exact absurd HA.1 (by simp [qaY.l2])
      | succ k3 =>
       have H := HA.1; clear HA; simp only [qaY.l2] at H; by_cases c6 : qho < (a0.size : Int); rotate_left
       ·rw [if_neg c6] at H; have qgc := decide_eq_false c6; clear c6; by_cases c13 : x6_3 = true; rotate_left
        ·replace c13 := Bool.eq_false_iff.mpr c13; subst c13; rw [if_neg ff_] at H; have H' := ak_ H; clear H; go_wp2
         go_roundg k3
         case measure => have := HK1.1; have := HK2.1; have := HK3.1; omega
         case rel => exact ⟨(qg1), (wrap64 (qjb + 1)), qay, H', ⟨k99_⟩, ⟨qib⟩, ⟨qao⟩⟩
        subst c13; rw [if_pos rfl] at H; obtain ⟨c14, H⟩ := qct H; have qoV := ak_ c14; clear c14
        obtain ⟨qgU, hy_⟩ : ∃ y_ : List (qac), y_ = (qg1 ++ [(⟨qcP, qjb⟩ : qac)]) := ⟨_, rfl⟩
        replace H : (qaY.l1 k3 a0 qgU qcP qcP (wrap64 (qjb + 1))) = some r := qfb; have qiQ := ak_ hy_; clear hy_; have H' := ak_ H; clear H
        go_wp2_with (first | ((with_reducible refine qa5 (b := .append) (xs := #[.tmp 39, .tmp 43]) rfl ?_); at_builtin; refine Kd.qc8 qaG (w0 := w) w.heap.size rfl (.tmp 39) (.tmp 43) 26 85 (.agg #[(.int .i64 0), (.int .i64 0)]) 16 rfl Tryz.underlying26 qfV rfl (by decide) (by omega) u3 qg1 (⟨qcP, qjb⟩ : qac) [.int .i64 qcP, .int .i64 qjb] (fun _ => True) (fun _ => False) rfl rfl ?aP (fun _ hk => hk.elim) ?aF ?aO ?aB ?aS ?aL ?_; (case aP => exact qc7 _ _ _ (⟨qcP, qjb⟩ : qac)); (case aB => exact qao); (case aF => exact (fun _ _ => trivial)); (case aO => exact qib); (case aS => exact (qab qao)); (case aL => have := qoV.1; omega); intro v105 w15 ho hb hg hat; rw [← qiQ.1] at ho; replace HB := ak_ (hb); have qff := ak_ (ho); clear qdu; clear ho hb hg hat))
        go_roundg k3
        case measure => have := HK1.1; have := HK2.1; have := HK3.1; omega
        case rel => exact ⟨(qgU), (wrap64 (qjb + 1)), qay, H', ⟨k99_⟩, ⟨k84_⟩, ⟨qao⟩⟩
       rw [if_pos c6] at H; have qgc := decide_eq_true c6; clear c6; by_cases c7 : x6_3 = true; rotate_left
       ·replace c7 := Bool.eq_false_iff.mpr c7; subst c7; rw [if_neg ff_] at H; have H' := ak_ H; clear H; go_wp2
        go_roundg k3
        case measure => have := HK1.1; have := HK2.1; have := HK3.1; omega
        case rel => exact ⟨(false), (wrap64 (qho + 1)), qay, qay, H', ⟨k99_⟩, ⟨qib⟩, ⟨qao⟩⟩
       subst c7; rw [if_pos rfl] at H; obtain ⟨c8, H⟩ := qct H; have qpc := decide_eq_true c8; clear c8; obtain ⟨c9, H⟩ := qct H; have qmQ := decide_eq_true c9; clear c9; by_cases c11 : (bt a0 qho) = 111; rotate_left
       ·rw [if_neg c11] at H; have qgK : ((bt a0 qho) == 111) = false := beq_eq_false_iff_ne.mpr c11; have qhM : ((bt a0 qho) != 111) = true := bne_iff_ne.mpr c11; have H' := ak_ H; clear H; have p10 : 0 ≤ (qho : Int) := of_decide_eq_true qaL; have q10 : qho < (a0.size : Int) := of_decide_eq_true qaL; have hx10 := qeu a0 qho; replace p10 := eq_true p10; replace q10 := eq_true q10; go_wp2
        go_roundg k3
        case measure => have := HK1.1; have := HK2.1; have := HK3.1; omega
        case rel => exact ⟨(true), (wrap64 (qho + 1)), qay, qay, H', ⟨k99_⟩, ⟨qib⟩, ⟨qao⟩⟩
       rw [if_pos c11] at H; have qgK : ((bt a0 qho) == 111) = true := beq_iff_eq.mpr c11; have qhM : ((bt a0 qho) != 111) = false := bne_eq_false_iff_eq.mpr c11; clear c11; by_cases c12 : qcP = 0
       ·rw [if_pos c12] at H; exact absurd H (by simp)
       rw [if_neg c12] at H; have qhN : (qcP == 0) = false := beq_eq_false_iff_ne.mpr c12; have c12b1 : (qcP != 0) = true := bne_iff_ne.mpr c12; have H' := ak_ H; clear H; have p10 : 0 ≤ (qho : Int) := of_decide_eq_true qaL; have q10 : qho < (a0.size : Int) := of_decide_eq_true qaL; have hx10 := qeu a0 qho; replace p10 := eq_true p10; replace q10 := eq_true q10; go_wp2
       go_roundg k3
       case measure => have := HK1.1; have := HK2.1; have := HK3.1; omega
       case rel => exact ⟨(((Int.tmod (wrap64 (qho + 1)) qcP) != qjb)), (wrap64 (qho + 1)), qay, qay, H', ⟨k99_⟩, ⟨qib⟩, ⟨qao⟩⟩
def qbu.l0 : Nat → ByteArray → List (qac) → Int → Int → Option (Bool)
 | 0, _, _, _, _ => none
 | k + 1, x0, x1, x7, x8 => if x8 < x7 then (if 0 ≤ x8 then (if x8 < (x0.size : Int) then (if (bt x0 x8) = 63 then (qbu.l0 k x0 x1 x7 (wrap64 (x8 + 1))) else ((qcU.f x1 (wrap64 (x8 + 1))).bind fun qav => (if (qav != ((bt x0 x8) == 111)) = true then (some false) else (qbu.l0 k x0 x1 x7 (wrap64 (x8 + 1)))))) else (none)) else (none)) else (some true)
def qbu.f (k : Nat) (a0 : ByteArray) (l1 : List (qac)) : Option (Bool) := qbu.l0 k a0 l1 (a0.size : Int) 0
def qbu.T4 : Bool × List (List Nat × List Nat) := (true, [([], []), ([], []), ([0, 1], [0, 1]), ([2], [2]), ([3], [3]), ([4], [4]), ([4], [4]), ([6, 4], [4, 6]), ([5, 7, 4, 4], [4, 5, 7]), ([4], [4]), ([4], [4]), ([9, 10, 4], [4, 9, 10]), ([11, 4], [4, 11]), ([8, 12, 4], [4, 8, 12]), ([4, 13], [4, 13])])
def qbu.B4 : List Nat := [0, 0, 3, 7, 15, 31, 31, 95, 255, 31, 31, 1567, 3615, 8191, 16383]
theorem qbu.tab4 : qhC .any (opsOf Tryz.f237 4) = qbu.T4 := by kernel_rfl
theorem qbu.qq9 : qeG qbu.T4.2 qbu.B4 = true := by kernel_rfl
theorem qbu.calls (k : Nat) (a0 : ByteArray) (A1 : Option Addr) (c1 : Nat) (l1 : List (qac)) (r : Bool) (w : World) (hr1 : Kd.C qaG w A1 l1.length l1) (hc1 : l1.length ≤ c1) (h : qbu.f k a0 l1 = some r) :
  Calls Tryz.prog 237 #[.string a0, .slice A1 l1.length c1] w fun e w' => e = .returned (.bool r) ∧ Below w.heap.size w w' := by
 have HR1 := ak_ hr1; have HC1 := ak_ hc1; clear hr1 hc1; have HB := br_ w; have H : (qbu.l0 k a0 l1 (a0.size : Int) 0) = some r := h; clear h; have H' := ak_ H; clear H; go_enter Tryz.func237, Tryz.ntmps237; go_wp2
 go_loopg [8] k (fun kq v8 w' => ∃ (qdl : Int), v8 = .int .i64 qdl ∧ qai (qbu.l0 kq a0 l1 (a0.size : Int) qdl = some r) ∧ qai (kq ≤ k) ∧ qai (Below w.heap.size w w'))
 case atStart => exact ⟨(0), qay, H', ⟨Nat.le_refl _⟩, ⟨qao⟩⟩
 case round =>
  clear H'; obtain ⟨qdl, rfl, HA, HK1, HB⟩ := hrel
  cases gk with
  | zero => exact absurd HA.1 (by simp [qbu.l0])
  | succ k1 =>
   have H := HA.1; clear HA; simp only [qbu.l0] at H; by_cases c3 : qdl < (a0.size : Int); rotate_left
   ·rw [if_neg c3] at H; have qfr := decide_eq_false c3; clear c3; obtain rfl := sj_ H; go_wp2
    go_ret
    exact ⟨qca, qao⟩
   rw [if_pos c3] at H; have qfr := decide_eq_true c3; clear c3; obtain ⟨c4, H⟩ := qct H; have qfw := decide_eq_true c4; clear c4; obtain ⟨c5, H⟩ := qct H; have qgL := decide_eq_true c5; clear c5; by_cases c7 : (bt a0 qdl) = 63
   ·rw [if_pos c7] at H; have qhx : ((bt a0 qdl) == 63) = true := beq_iff_eq.mpr c7; have qoH : ((bt a0 qdl) != 63) = false := bne_eq_false_iff_eq.mpr c7; clear c7; have H' := ak_ H; clear H
    try go_wp2
    replace HB := ak_ (qah HB.1); have p6 : 0 ≤ (qdl : Int) := of_decide_eq_true qaL; have q6 : qdl < (a0.size : Int) := of_decide_eq_true qaL; have hx6 := qeu a0 qdl; replace p6 := eq_true p6; replace q6 := eq_true q6; refine qeS (n := 15) (S := fun w' => True) (ds := []) (rA_ [0, 15]) (by kernel_rfl) rfl rfl trivial (fun hHeld => ?_); refine qc0 qbu.tab4 qbu.qq9 (fun HT_ HW_ => ?_)
    generalize wr.drew = w8 at HB hHeld ⊢
    refine pu_ 0 11 [1, 14] ?_; refine pu_ 1 12 [2, 13] ?_; refine ta_ 2 13 [3, 12] ?_; refine pu_ 3 14 [4, 11] ?_; refine pu_ 4 15 [5, 10] ?_; refine pz_ 5 16 [6, 9] ?_; refine pz_ 6 17 [7, 8] ?_; refine pz_ 7 18 [8, 7] ?_; refine pz_ 8 19 [9, 6] ?_; refine pz_ 9 20 [10, 5] ?_; refine pz_ 10 21 [11, 4] ?_; refine pz_ 11 22 [12, 3] ?_; refine pz_ 12 23 [13, 2] ?_; refine pz_ 13 24 [14, 1] ?_; refine pu_ 14 25 [15] ?_; refine qf5 (qeh HT_.out (by kernel_rfl)) ?_
    try go_wp2
    go_roundg k1
    case measure => have := HK1.1; omega
    case rel => exact ⟨(wrap64 (qdl + 1)), qay, H', ⟨qc9⟩, ⟨qao⟩⟩
   rw [if_neg c7] at H; have qhx : ((bt a0 qdl) == 63) = false := beq_eq_false_iff_ne.mpr c7; have qoH : ((bt a0 qdl) != 63) = true := bne_iff_ne.mpr c7; obtain ⟨qav, A9, H⟩ := qaB H; (try dsimp only at H); by_cases c11 : (qav != ((bt a0 qdl) == 111)) = true
   ·rw [if_pos c11] at H; have qgK : (qav != ((bt a0 qdl) == 111)) = true := c11; (try (have qhM : decide (qav = ((bt a0 qdl) == 111)) = false := by simpa using c11)); (try (have qsl : (qav == ((bt a0 qdl) == 111)) = false := by simpa using c11)); (try (have c11b3 : ¬ (qav = ((bt a0 qdl) == 111)) := by simpa using c11)); clear c11; obtain rfl := sj_ H
    try go_wp2
    replace HB := ak_ (qah HB.1); have p6 : 0 ≤ (qdl : Int) := of_decide_eq_true qaL; have q6 : qdl < (a0.size : Int) := of_decide_eq_true qaL; have hx6 := qeu a0 qdl; replace p6 := eq_true p6; replace q6 := eq_true q6; have p10 : 0 ≤ (qdl : Int) := of_decide_eq_true qaL; have q10 : qdl < (a0.size : Int) := of_decide_eq_true qaL; have hx10 := qeu a0 qdl; replace p10 := eq_true p10; replace q10 := eq_true q10; refine qeS (n := 15) (S := fun w' => True) (ds := []) (rA_ [0, 15]) (by kernel_rfl) rfl rfl trivial (fun hHeld => ?_); refine qc0 qbu.tab4 qbu.qq9 (fun HT_ HW_ => ?_)
    generalize wr.drew = w12 at HB hHeld ⊢
    refine pu_ 0 11 [1, 14] ?_; refine pu_ 1 12 [2, 13] ?_; refine ta_ 2 13 [3, 12] ?_; refine pu_ 3 14 [4, 11] ?_; refine pu_ 4 15 [5, 10] ?_; refine pu_ 5 16 [6, 9] ?_; refine pu_ 6 17 [7, 8] ?_; refine pu_ 7 18 [8, 7] ?_; refine pu_ 9 20 [8, 1, 1, 5] ?_; refine pu_ 10 21 [8, 1, 2, 4] ?_; refine ta_ 11 22 [8, 1, 3, 3] ?_; refine pu_ 12 23 [8, 1, 4, 2] ?_; refine qfC (i := 8) (N := some 19) (rA_ [13, 2]) rfl rfl (qcJ HT_.out (by kernel_rfl)) (by decide) (fun K hK => ?_); refine qfN Tryz.func199 (by kernel_rfl) rfl #[.slice A1 l1.length c1, .int .i64 (wrap64 (qdl + 1))] (by rfl) rfl rfl qbJ ?_
    with_reducible refine (qcU.calls _ _ l1 (wrap64 (qdl + 1)) qav _ ?qaz ?qaA A9.1).mono ?_
    (case qaz => repeat (first | exact (Kd.qd0 HR1.1 HB.1) | (with_reducible refine Kd.C_alloc ?_ _) | (with_reducible refine Kd.C_drewN ?_ _) | (with_reducible refine Kd.C_drew ?_)))
    (case qaA => exact HC1.1)
    rintro e w13 ⟨rfl, hb⟩; refine ⟨_, rfl, ?_⟩; replace HB := HB.mw hb; (try clear hb); (try clear hb2); (try clear hk); (try clear hi); refine hK.out _ _ trivial (fun hHeld => ?_); clear hK K; refine nm_ 19 ?_; refine pu_ 13 24 [14, 1] ?_; refine pu_ 14 25 [15] ?_; refine qf5 (qeh HT_.out (by kernel_rfl)) ?_
    try go_wp2
    go_ret
    exact ⟨qca, qao⟩
   rw [if_neg c11] at H
   have qgK : (qav != ((bt a0 qdl) == 111)) = false := by simpa using c11
   (try (have qhM : decide (qav = ((bt a0 qdl) == 111)) = true := by simpa using c11)); (try (have qsl : (qav == ((bt a0 qdl) == 111)) = true := by simpa using c11)); clear c11; have H' := ak_ H; clear H
   try go_wp2
   replace HB := ak_ (qah HB.1); have p6 : 0 ≤ (qdl : Int) := of_decide_eq_true qaL; have q6 : qdl < (a0.size : Int) := of_decide_eq_true qaL; have hx6 := qeu a0 qdl; replace p6 := eq_true p6; replace q6 := eq_true q6; have p10 : 0 ≤ (qdl : Int) := of_decide_eq_true qaL; have q10 : qdl < (a0.size : Int) := of_decide_eq_true qaL; have hx10 := qeu a0 qdl; replace p10 := eq_true p10; replace q10 := eq_true q10; refine qeS (n := 15) (S := fun w' => True) (ds := []) (rA_ [0, 15]) (by kernel_rfl) rfl rfl trivial (fun hHeld => ?_); refine qc0 qbu.tab4 qbu.qq9 (fun HT_ HW_ => ?_)
   generalize wr.drew = w14 at HB hHeld ⊢
   refine pu_ 0 11 [1, 14] ?_; refine pu_ 1 12 [2, 13] ?_; refine ta_ 2 13 [3, 12] ?_; refine pu_ 3 14 [4, 11] ?_; refine pu_ 4 15 [5, 10] ?_; refine pu_ 5 16 [6, 9] ?_; refine pu_ 6 17 [7, 8] ?_; refine pu_ 7 18 [8, 7] ?_; refine pu_ 9 20 [8, 1, 1, 5] ?_; refine pu_ 10 21 [8, 1, 2, 4] ?_; refine ta_ 11 22 [8, 1, 3, 3] ?_; refine pu_ 12 23 [8, 1, 4, 2] ?_; refine qfC (i := 8) (N := some 19) (rA_ [13, 2]) rfl rfl (qcJ HT_.out (by kernel_rfl)) (by decide) (fun K hK => ?_); refine qfN Tryz.func199 (by kernel_rfl) rfl #[.slice A1 l1.length c1, .int .i64 (wrap64 (qdl + 1))] (by rfl) rfl rfl qbJ ?_
   with_reducible refine (qcU.calls _ _ l1 (wrap64 (qdl + 1)) qav _ ?qaz ?qaA A9.1).mono ?_
   (case qaz => repeat (first | exact (Kd.qd0 HR1.1 HB.1) | (with_reducible refine Kd.C_alloc ?_ _) | (with_reducible refine Kd.C_drewN ?_ _) | (with_reducible refine Kd.C_drew ?_)))
   (case qaA => exact HC1.1)
   rintro e w15 ⟨rfl, hb⟩; refine ⟨_, rfl, ?_⟩; replace HB := HB.mw hb; (try clear hb); (try clear hb2); (try clear hk); (try clear hi); refine hK.out _ _ trivial (fun hHeld => ?_); clear hK K; refine nm_ 19 ?_; refine pu_ 13 24 [14, 1] ?_; refine pu_ 14 25 [15] ?_; refine qf5 (qeh HT_.out (by kernel_rfl)) ?_
   try go_wp2
   go_roundg k1
   case measure => have := HK1.1; omega
   case rel => exact ⟨(wrap64 (qdl + 1)), qay, H', ⟨qc9⟩, ⟨qao⟩⟩
mutual
def qa4.f : Nat → ByteArray → Int → Int → List qac → List qac → Int → List (List qac) → Option (List (List qac))
  | 0, _, _, _, _, _, _, _ => none
  | k + 1, p, R, most, rules, list, frm, out => if (out.length : Int) = most then some out else (if (list.length : Int) = R then ((qbu.f k p list).bind fun t => if t = true then (if out.length < 5864062014805 then some (out ++ [list]) else none) else some out) else qa4.l0 k p R most rules list out frm)
def qa4.l0 : Nat → ByteArray → Int → Int → List qac → List qac → List (List qac) → Int → Option (List (List qac))
  | 0, _, _, _, _, _, _, _ => none
  | k + 1, p, R, most, rules, list, out, i => if i < (rules.length : Int) then (if 0 ≤ i then (if list.length < 8796093022207 then ((qa4.f k p R most rules (list ++ [qad rules i]) (wrap64 (i + 1)) out).bind fun o => qa4.l0 k p R most rules list o (wrap64 (i + 1))) else none) else none) else some out
end
theorem goesV_ {P : Program} {ops : Array Oper} {Q : Exit → Act → World → Prop} {oi : Oper} {N : Option Tmp} {a : Act} {w : World} {K : Act → World → Prop} {f : FuncId} {fn : Func} {fv : Operand} {xs : Array Operand} {ts : Array TypeId} (lb : Array Value) (hf : P.funcs[f]? = some fn) (hname : (fn.name == "runtime.NumGoroutine") = false) (hb : fn.body.isSome = true) (args : Array Value)
    (hw : Region.wanted oi (yielded ops a.tmps) = true) (hN : oi.dst = N) (hop : oi.op = .call { callee := .value fv, args := xs, argTypes := ts }) (hv : a.eval fv = .func (.func f) #[] lb) (hargs : xs.map a.eval = args)
    (h : Calls P f (args ++ lb) w fun e w' => ∃ v, e = .returned v ∧ K (a.put N v) w') : if Region.wanted oi (yielded ops a.tmps) = true then Oper.wp P oi a w K Q else K (a.put N undef) w := by
  refine call_ f (args ++ lb) hw hN ?_ h; have he := qpj hf hname hb (args ++ lb) w; unfold execOp
  simp [hop, resolve, Deferred.ofValue, invoke, hv, hargs, he]
structure qfD (g : Nat) (row : Option Nat) (w w' : World) : Prop where
  os : w'.os = w.os
  tape : w'.tape = w.tape
  output : w'.output = w.output
  size : w.heap.size ≤ w'.heap.size
  block : ∀ k, k < w.heap.size → k ≠ g → some k ≠ row → w'.heap[k]? = w.heap[k]?
section
variable {g : Nat} {row row' : Option Nat} {w w1 w2 : World}
theorem qfD.qbR (h : Below w.heap.size w w1) : qfD g row w w1 := ⟨h.os, h.tape, h.output, h.size, fun k hk _ _ => h.block k hk⟩
theorem qfD.qi1 (h : w.grownBy w1 row) : qfD g row w w1 := ⟨h.os, h.tape, h.output, h.size, fun k hk _ hr => h.block k hk hr⟩
theorem qfD.refl (w : World) : qfD g row w w := qfD.qbR (Below.refl _ _)
theorem qfD.trans (h : qfD g row w w1) (h2 : qfD g row' w1 w2) (hr : ∀ k, row' = some k → row = some k ∨ w.heap.size ≤ k) : qfD g row w w2 :=
  ⟨h2.os.trans h.os, h2.tape.trans h.tape, h2.output.trans h.output, Nat.le_trans h.size h2.size, fun k hk hg hne => (h2.block k (Nat.lt_of_lt_of_le hk h.size) hg (fun e => by
    rcases hr k e.symm with hr | hb
    ·exact hne hr.symm
    omega)).trans (h.block k hk hg hne)⟩
theorem qfD.qeL (h : qfD g row w w1) (hb : Below w1.heap.size w1 w2) : qfD g row w w2 := qfD.trans h (qfD.qbR (row := none) hb) (fun k hk => by simp at hk)
theorem qfD.set (h : qfD g row w w1) (u : Value) : qfD g row w (w1.setCell ⟨g, 0, none⟩ u) :=
  ⟨h.os, h.tape, h.output, by simpa [World.setCell] using h.size, fun k hk hg hr => (Below.heap_setCell w1 ⟨g, 0, none⟩ u k hg).trans (h.block k hk hg hr)⟩
theorem qfD.blk {b gL : Nat} {o : Obj} (h : qfD g (some gL) w w1) (hb : w.heap[b]? = some o) (hne : b ≠ g ∧ b ≠ gL) : w1.heap[b]? = some o := (h.block b (qd2 hb) hne.1 (by simpa using hne.2)).trans hb
end
def ChFix (w0 : World) (bs gL g gM gP gR gC : Nat) (p : ByteArray) (R most : Int) (AR : Option Addr) (cR : Nat) (rules : List qac) : Prop :=
  (g < w0.heap.size ∧ g ≠ gL ∧ bs ≤ w0.heap.size) ∧ ((gM ≠ g ∧ gM ≠ gL) ∧ (gP ≠ g ∧ gP ≠ gL) ∧ (gR ≠ g ∧ gR ≠ gL) ∧ (gC ≠ g ∧ gC ≠ gL)) ∧ w0.heap[gM]? = some (.cells #[.int .i64 most] 3 (0, 0)) ∧ w0.heap[gP]? = some (.cells #[.string p, .int .i64 R] 99 (0, 0)) ∧ w0.heap[gR]? = some (.cells #[.slice AR rules.length cR] 26 (0, 0)) ∧ w0.heap[gC]? = some (.cells #[.func (.func 236) #[] #[.pointer (some ⟨g, 0, none⟩), .pointer (some ⟨gM, 0, none⟩), .pointer (some ⟨gP, 0, none⟩), .pointer (some ⟨gR, 0, none⟩), .pointer (some ⟨gC, 0, none⟩)]] 198 (0, 0)) ∧ rules.length ≤ cR ∧ (∀ W', qfD g (some gL) w0 W' → Kd.C qaG W' AR rules.length rules)
def ChSt (w0 : World) (bs gL g : Nat) (vo : Value) (out : List (List qac)) (W : World) : Prop :=
  W.heap[g]? = some (.cells #[vo] 145 (0, 0)) ∧ Kd.S (Kd.slice 85 qaG) 26 W bs (fun k => k = gL ∨ w0.heap.size ≤ k) vo out ∧ qfD g (some gL) w0 W
theorem ChSt.below {w0 : World} {bs gL g : Nat} {vo : Value} {out : List (List qac)} {W W1 : World} (h : ChSt w0 bs gL g vo out W) (hb : Below W.heap.size W W1) : ChSt w0 bs gL g vo out W1 :=
  ⟨qap h.1 hb, Kd.qg3 h.2.1 hb, qfD.qeL h.2.2 hb⟩
def ChRo (W : World) (vo v : Value) : Prop := ∀ k, v.ownBlock = some k → vo.ownBlock = some k ∨ W.heap.size ≤ k
theorem ch_list {w0 : World} {bs gL g b' : Nat} {ok' : Nat → Prop} {vo : Value} {out : List (List qac)} {W W1 : World} {A : Option Addr} {c : Nat} {l : List qac} (hS : ChSt w0 bs gL g vo out W) (h : Kd.R qaG 85 W b' ok' (.slice A l.length c) l) (hm : qfD g vo.ownBlock W W1) : Kd.C qaG W1 A l.length l :=
  (Kd.qan (Kd.qkG (Kd.qe9 h) (fun k hk hlt => hm.block k hlt (fun e => by
    obtain ⟨_, _, _, q, hq, cells', hc'⟩ := hk; rw [e, hS.1] at hc'
    injection hc' with hc'
    injection hc' with _ hq'
    subst hq'
    revert hq
    decide) (fun e => by
    obtain ⟨cells, hc⟩ := Kd.qkI hS.2.1 k e.symm; obtain ⟨_, _, _, q, hq, cells', hc'⟩ := hk; rw [hc] at hc'
    injection hc' with hc'
    injection hc' with _ hq'
    subst hq'
    revert hq
    decide)))).2.2
theorem ch_rules {gL g b' : Nat} {ok' : Nat → Prop} {W W1 : World} {cs : Array Value} {A : Option Addr} {c : Nat} {l : List qac} (hG : W.heap[g]? = some (.cells cs 145 (0, 0))) (hL : ∃ cells, W.heap[gL]? = some (.cells cells 26 (0, 0))) (h : Kd.R qaG 85 W b' ok' (.slice A l.length c) l) (hm : qfD g (some gL) W W1) : Kd.C qaG W1 A l.length l :=
  (Kd.qan (Kd.qkG (Kd.qe9 h) (fun k hk hlt => hm.block k hlt (fun e => by
    obtain ⟨_, _, _, q, hq, cells', hc'⟩ := hk; rw [e, hG] at hc'
    injection hc' with hc'
    injection hc' with _ hq'
    subst hq'
    revert hq
    decide) (fun e => by
    obtain ⟨cells, hc⟩ := hL; obtain ⟨_, _, _, q, hq, cells', hc'⟩ := hk
    injection e with e
    rw [e, hc] at hc'
    injection hc' with hc'
    injection hc' with _ hq'
    subst hq'
    revert hq
    decide)))).2.2
theorem qpJ : (Tryz.prog.info? 26).map (fun i => (i.zero, i.size, i.bytes)) = some (some (.slice none 0 0), 1, 24) := by kernel_rfl
theorem qa4.own (w0 : World) (bs gL g gM gP gR gC : Nat) (p : ByteArray) (R most : Int) (AR : Option Addr) (cR : Nat) (rules : List qac) (hfix : qai (ChFix w0 bs gL g gM gP gR gC p R most AR cR rules)) (k : Nat) : ∀ (list : List qac) (frm : Int) (out r : List (List qac)) (Al : Option Addr) (cl : Nat) (vo : Value) (W : World)
    (_ : ChSt w0 bs gL g vo out W) (_ : list.length ≤ cl) (_ : Kd.R qaG 85 W w0.heap.size (fun _ => True) (.slice Al list.length cl) list) (_ : Kd.S (Kd.slice 85 qaG) 26 W bs (fun k => (k = gL ∨ w0.heap.size ≤ k) ∧ some k ≠ (Value.slice Al list.length cl).ownBlock) vo out) (_ : qa4.f k p R most rules list frm out = some r),
    Calls Tryz.prog 236 (#[.slice Al list.length cl, .int .i64 frm] ++ #[.pointer (some ⟨g, 0, none⟩), .pointer (some ⟨gM, 0, none⟩), .pointer (some ⟨gP, 0, none⟩), .pointer (some ⟨gR, 0, none⟩), .pointer (some ⟨gC, 0, none⟩)]) W fun e w' => e = .returned (.tuple #[]) ∧ ∃ v1, ChSt w0 bs gL g v1 r w' ∧ qfD g vo.ownBlock W w' ∧ ChRo W vo v1 := by
  induction k using Nat.strongRecOn with
  | ind k ih =>
  intro list frm out r Al cl vo W hst hlc hown hap h; have hcM : W.cell? ⟨gM, 0, none⟩ = some (.int .i64 most) := (qba (qfD.blk hst.2.2 hfix.1.2.2.1 hfix.1.2.1.1) 0).trans rfl; have hcP0 : W.cell? ⟨gP, 0, none⟩ = some (.string p) := (qba (qfD.blk hst.2.2 hfix.1.2.2.2.1 hfix.1.2.1.2.1) 0).trans rfl; have hcP1 : W.cell? ⟨gP, 1, none⟩ = some (.int .i64 R) := (qba (qfD.blk hst.2.2 hfix.1.2.2.2.1 hfix.1.2.1.2.1) 1).trans rfl; have hS0 := hst.2.1; obtain ⟨Ao, co, eo⟩ := Kd.qdT hS0; subst eo; have hcG : W.cell? ⟨g, 0, none⟩ = some (.slice Ao out.length co) := (qba hst.1 0).trans rfl; have HLC := ak_ (show ∀ W1, qfD g (Value.slice Ao out.length co).ownBlock W W1 → Kd.C qaG W1 Al list.length list from fun W1 hm => ch_list hst hown hm); have IH := ak_ ih; have HST0 := ak_ hst; have HLE := ak_ hlc; have HOWN := ak_ hown; have HAP := ak_ hap; have HG := ak_ hfix.1.1; clear ih hst hlc hown hap hS0
  cases k with
  | zero => exact absurd h (by simp [qa4.f])
  | succ k =>
    simp only [qa4.f] at h; by_cases c1_ : (out.length : Int) = most
    ·rw [if_pos c1_] at h; have c1b : ((out.length : Int) == most) = true := beq_iff_eq.mpr c1_; have HR := ak_ (Option.some.inj h); clear c1_ h; go_enter Tryz.func236, Tryz.ntmps236; go_wp2; (first | (refine bodyPost_ret (results_none rfl _ _ _) rfl ?_) | go_end0); exact ⟨rfl, _, by rw [← HR.1]; exact HST0.1, qfD.refl _, fun _ h_ => .inl h_⟩
    rw [if_neg c1_] at h; have c1b : ((out.length : Int) == most) = false := beq_eq_false_iff_ne.mpr c1_; clear c1_; by_cases c2_ : (list.length : Int) = R
    ·rw [if_pos c2_] at h; have c2b : ((list.length : Int) == R) = true := beq_iff_eq.mpr c2_; clear c2_; replace h := Option.bind_eq_some_iff.mp h; obtain ⟨t, A0_, h⟩ := h; have A_ := ak_ A0_; clear A0_
     cases t with
     | true =>
       rw [if_pos rfl] at h; by_cases c3_ : out.length < 5864062014805; rotate_left
       ·rw [if_neg c3_] at h; exact absurd h (by simp)
       rw [if_pos c3_] at h; have HLO := ak_ c3_; have HR := ak_ (Option.some.inj h); clear c3_ h; go_enter Tryz.func236, Tryz.ntmps236
       go_wp2_with (first | (refine gl_ 22 Tryz.func237 #[.string p, .slice Al list.length cl] rfl qb6 ?_; (with_reducible refine (qbu.calls k p _ _ list true _ ?qaz ?qaA A_.1).mono ?_); (case qaz => exact HLC.1 _ (qfD.refl _)); (case qaA => exact HLE.1); rintro e w1 ⟨rfl, hb⟩; refine ⟨_, rfl, ?_⟩; have HB1 := ak_ hb; have hcG1 : w1.cell? ⟨g, 0, none⟩ = some (.slice Ao out.length co) := (qba (qap HST0.1.1 hb) 0).trans rfl; clear hb) | ((with_reducible refine qa5 (b := .append) (xs := #[.tmp 23, .tmp 25]) rfl ?_); at_builtin; refine Kd.qkk (Kd.slice 85 qaG) (w0 := w1) bs rfl (.tmp 23) (.tmp 25) 145 26 (.slice none 0 0) 24 rfl Tryz.underlying145 qpJ rfl (by decide) (by omega) (.slice Ao out.length co) out list [.slice Al list.length cl] (fun k_ => k_ = gL ∨ w0.heap.size ≤ k_) (fun k_ => some k_ = (.slice Al list.length cl : Value).ownBlock) rfl rfl ?aP ?aK ?aF ?aO ?aB ?aS ?aL ?_; (case aP => exact Kd.M_row (Kd.qhJ rfl (Kd.qaw (Kd.qbs HOWN.1 HB1.1) HG.1.2.2))); (case aF => exact (fun k_ hk => .inr (Nat.le_trans (Nat.le_trans HST0.1.2.2.size HB1.1.size) hk))); (case aK => exact (fun k_ hk => ⟨.inr (Kd.qfm HOWN.1 k_ hk.symm), fun e_ => ((Kd.S_R HAP.1).1 k_ e_.symm).2 hk⟩)); (case aO => exact Kd.qg3 HAP.1 HB1.1); (case aB => exact Below.refl _ _); (case aS => exact Nat.le_trans HG.1.2.2 (Nat.le_trans HST0.1.2.2.size HB1.1.size)); (case aL => have h_ := HLO.1; omega); intro v1 w4 ho hb hg hat; rw [HR.1] at ho; obtain ⟨A1v, c1v, e1v⟩ := Kd.qdT ho; subst e1v; have HO4 := ak_ ho; have HG4 := ak_ hg; have HAT := ak_ hat; have hbk4 := qd9 (qap HST0.1.1 HB1.1) hg (fun e_ => by have h1_ := (Kd.S_R HST0.1.2.1).1 g e_.symm; have h2_ := HG.1; omega); have HK4 := ak_ hbk4; have hcG4 : w4.cell? ⟨g, 0, none⟩ = some (.slice Ao out.length co) := (qba hbk4 0).trans rfl; have hfG4 := qae hbk4 0; clear ho hb hg hat hbk4))
       (first | (refine bodyPost_ret (results_none rfl _ _ _) rfl ?_) | go_end0); refine ⟨rfl, (.slice A1v r.length c1v), ?_, ?_, ?_⟩
       ·refine ⟨qa9 HK4.1 0 (.slice A1v r.length c1v) rfl, ?_, ?_⟩
        ·exact Kd.qgz (Kd.S_far (p := ⟨g, 0, none⟩) (Kd.qmH HO4.1) (fun k_ hk => by have h1_ := hk.1; have h2_ := HG.1; show k_ ≠ g; omega) (.slice A1v r.length c1v)) (fun _ hk => hk.1)
        exact qfD.set (qfD.trans (qfD.qeL HST0.1.2.2 HB1.1) (qfD.qi1 HG4.1) (fun k_ hk => ((Kd.S_R HST0.1.2.1).1 k_ hk).imp (fun e_ => by rw [e_]) id)) _
       ·exact qfD.set (qfD.trans (qfD.qbR HB1.1) (qfD.qi1 HG4.1) (fun _ h_ => .inl h_)) _
       exact (fun k_ hk => HAT.1.elim (fun e_ => .inl (e_ ▸ hk)) (fun ⟨b_, e_, hb_⟩ => .inr (by rw [e_] at hk; injection hk with hk; have := HB1.1.size; omega)))
     | false =>
       rw [if_neg (by decide)] at h; have HR := ak_ (Option.some.inj h); clear h; go_enter Tryz.func236, Tryz.ntmps236
       go_wp2_with ((refine gl_ 22 Tryz.func237 #[.string p, .slice Al list.length cl] rfl qb6 ?_; (with_reducible refine (qbu.calls k p _ _ list false _ ?qaz ?qaA A_.1).mono ?_); (case qaz => exact HLC.1 _ (qfD.refl _)); (case qaA => exact HLE.1); rintro e w1 ⟨rfl, hb⟩; refine ⟨_, rfl, ?_⟩; have HB1 := ak_ hb; clear hb))
       (first | (refine bodyPost_ret (results_none rfl _ _ _) rfl ?_) | go_end0); exact ⟨rfl, _, by rw [← HR.1]; exact ChSt.below HST0.1 HB1.1, qfD.qbR HB1.1, fun _ h_ => .inl h_⟩
    rw [if_neg c2_] at h; have c2b : ((list.length : Int) == R) = false := beq_eq_false_iff_ne.mpr c2_; clear c2_; have H' := ak_ h; clear h; have HMV0 := ak_ (qfD.refl (g := g) (row := (Value.slice Ao out.length co).ownBlock) W); have HRO0 := ak_ (show ChRo W (Value.slice Ao out.length co) (Value.slice Ao out.length co) from fun _ h_ => .inl h_); go_enter Tryz.func236, Tryz.ntmps236; go_wp2
    go_loopg [9] k (fun kq v9 wx => ∃ (o : List (List qac)) (i : Int) (vq : Value), v9 = .int .i64 i ∧ qai (qa4.l0 kq p R most rules list o i = some r) ∧ qai (kq ≤ k) ∧ qai (ChSt w0 bs gL g vq o wx) ∧ qai (qfD g (Value.slice Ao out.length co).ownBlock W wx) ∧ qai (ChRo W (Value.slice Ao out.length co) vq))
    case atStart => exact ⟨out, frm, _, rfl, H', ⟨Nat.le_refl _⟩, HST0, HMV0, HRO0⟩
    case round =>
      clear H' HMV0 HRO0 hcG hcM hcP0 hcP1; obtain ⟨o, i, vq, rfl, HA_, HK, HST, HMV, HRO⟩ := hrel
      cases gk with
      | zero => exact absurd HA_.1 (by simp [qa4.l0])
      | succ k1 =>
        have H := HA_.1; clear HA_; simp only [qa4.l0] at H; have hcR : wr.cell? ⟨gR, 0, none⟩ = some (.slice AR rules.length cR) := (qba (qfD.blk HST.1.2.2 hfix.1.2.2.2.2.1 hfix.1.2.1.2.2.1) 0).trans rfl; by_cases c1_ : i < (rules.length : Int); rotate_left
        ·rw [if_neg c1_] at H; have c1b_ := decide_eq_false c1_; clear c1_; have HR := ak_ (sj_ H); clear H; go_wp2; (first | (refine bodyPost_ret (results_none rfl _ _ _) rfl ?_) | go_end0); exact ⟨rfl, _, by rw [← HR.1]; exact HST.1, HMV.1, HRO.1⟩
        rw [if_pos c1_] at H; have c1b_ := decide_eq_true c1_; obtain ⟨c2_, H⟩ := qct H; have c2b_ := decide_eq_true c2_; obtain ⟨c3_, H⟩ := qct H; have HLB := ak_ c3_; clear c3_; replace H := Option.bind_eq_some_iff.mp H; obtain ⟨o2, A0_, H⟩ := H; have A_ := ak_ A0_; have H' := ak_ H; clear A0_ H; obtain ⟨Aq, cq, eq_⟩ := Kd.qdT HST.1.2.1; subst eq_; obtain ⟨ad, e_, hx0, hx1⟩ := qc6 (hfix.1.2.2.2.2.2.2.2 _ HST.1.2.2) i c2_ c1_; subst e_; have hcC : wr.cell? ⟨gC, 0, none⟩ = some (.func (.func 236) #[] #[.pointer (some ⟨g, 0, none⟩), .pointer (some ⟨gM, 0, none⟩), .pointer (some ⟨gP, 0, none⟩), .pointer (some ⟨gR, 0, none⟩), .pointer (some ⟨gC, 0, none⟩)]) := (qba (qfD.blk HST.1.2.2 hfix.1.2.2.2.2.2.1 hfix.1.2.1.2.2.2) 0).trans rfl; have HXc := ak_ (show wr.drew.cell? ⟨gC, 0, none⟩ = _ from hcC); have HXr := ak_ (show wr.drew.cell? ⟨gR, 0, none⟩ = _ from hcR); have HX0 := ak_ (show wr.drew.cell? (ad.add (i.toNat * 2)) = _ from hx0); have HX1 := ak_ (show wr.drew.cell? ⟨(ad.add (i.toNat * 2)).block, (ad.add (i.toNat * 2)).off + 1, none⟩ = _ from hx1); have HBx := ak_ (qah (Below.refl wr.heap.size wr)); clear hx0 hx1 hcC; go_wp2; refine qeS (n := 13) (S := fun w' => w'.cell? ⟨gC, 0, none⟩ = some (.func (.func 236) #[] #[.pointer (some ⟨g, 0, none⟩), .pointer (some ⟨gM, 0, none⟩), .pointer (some ⟨gP, 0, none⟩), .pointer (some ⟨gR, 0, none⟩), .pointer (some ⟨gC, 0, none⟩)]) ∧ w'.cell? ⟨gR, 0, none⟩ = some (.slice (some ad) rules.length cR) ∧ w'.cell? (ad.add (i.toNat * 2)) = some (.int .i64 (qad rules i).f0) ∧ w'.cell? ⟨(ad.add (i.toNat * 2)).block, (ad.add (i.toNat * 2)).off + 1, none⟩ = some (.int .i64 (qad rules i).f1)) (ds := [12]) #[false, false, false, false, false, false, false, false, false, false, false, false, false] (by kernel_rfl) rfl rfl ⟨HXc.1, HXr.1, HX0.1, HX1.1⟩ (fun hHeld => ?_)
        generalize wr.drew = wS at HXc HXr HX0 HX1 HBx hHeld ⊢
        have HBc := br_ wS; refine qgP (i := 2) (N := some 36) (v := ?_) (a' := ?_) #[false, false, true, false, false, false, false, false, false, false, false, false, false] rfl rfl (by kernel_rfl) (fun _ _ _ h => h) (Or.inl ⟨by rfl, ?_⟩) ?_ ?_; rotate_left; intro w'; go_simp; with_reducible rfl
        rotate_left; exact qm6
        refine qgP (i := 5) (N := some 39) (v := ?_) (a' := ?_) #[false, false, true, false, false, true, false, false, false, false, false, false, false] rfl rfl (by kernel_rfl) (fun _ _ _ h => h) (Or.inl ⟨by rfl, ?_⟩) ?_ ?_; rotate_left; intro w'; go_simp; with_reducible rfl
        rotate_left; exact qm6
        refine qgP (i := 10) (N := some 44) (v := ?_) (a' := ?_) #[false, false, true, false, false, true, false, false, false, false, true, false, false] rfl rfl (by kernel_rfl) (fun _ _ _ h => h) (Or.inl ⟨by rfl, ?_⟩) ?_ ?_; rotate_left; intro w'; go_simp; with_reducible rfl
        rotate_left; exact qm6
        refine qgP (i := 11) (N := some 45) (v := ?_) (a' := ?_) #[false, false, true, false, false, true, false, false, false, false, true, true, false] rfl rfl (by kernel_rfl) (fun _ _ _ h => h) (Or.inl ⟨by rfl, ?_⟩) ?_ ?_; rotate_left; intro w'; go_simp; with_reducible rfl
        rotate_left; exact qm6
        refine qlP (i := 0) (N := some 34) (v := ?_) (a' := ?_) #[true, false, true, false, false, true, false, false, false, false, true, true, false] rfl rfl (by kernel_rfl) (fun _ _ _ h => h) (Or.inl ⟨by rfl, ?_⟩) hHeld ?_ ?_; rotate_left; rintro w' ⟨s0, s1, s2, s3⟩; go_simp; with_reducible rfl
        rotate_left; exact qm6
        refine qlP (i := 4) (N := some 38) (v := ?_) (a' := ?_) #[true, false, true, false, true, true, false, false, false, false, true, true, false] rfl rfl (by kernel_rfl) (fun _ _ _ h => h) (Or.inl ⟨by rfl, ?_⟩) hHeld ?_ ?_; rotate_left; rintro w' ⟨s0, s1, s2, s3⟩; go_simp; with_reducible rfl
        rotate_left; exact qm6
        refine qgP (i := 6) (N := some 40) (v := ?_) (a' := ?_) #[true, false, true, false, true, true, true, false, false, false, true, true, false] rfl rfl (by kernel_rfl) (fun _ _ _ h => h) (Or.inl ⟨by rfl, ?_⟩) ?_ ?_; rotate_left; intro w'; go_simp; with_reducible rfl
        rotate_left; exact qm6
        refine qlP (i := 7) (N := some 41) (v := ?_) (a' := ?_) #[true, false, true, false, true, true, true, true, false, false, true, true, false] rfl rfl (by kernel_rfl) (fun _ _ _ h => h) (Or.inl ⟨by rfl, ?_⟩) hHeld ?_ ?_; rotate_left; rintro w' ⟨s0, s1, s2, s3⟩; go_simp; with_reducible rfl
        rotate_left; exact qm6
        refine qtC (σ := Value × Value × Value) 2 #[true, true, true, true, true, true, true, true, true, false, true, true, false] (fun s_ => [(35, s_.1), (37, s_.2.1), (42, s_.2.2)]) (fun s_ w' => Kd.R qaG 85 w' wS.heap.size (fun _ => True) s_.2.1 list ∧ Kd.R qaG 85 w' wS.heap.size (fun _ => True) s_.2.2 [qad rules i] ∧ Below wS.heap.size wS w') ?_ ?_; rotate_left
        · intro hCont
          refine two_ (i := 1) (j := 8) (Ni := some 35) (Nj := some 42) #[true, true, true, false, true, true, true, true, false, false, true, true, false] #[true, false, true, false, true, true, true, true, true, false, true, true, false] rfl rfl rfl rfl (by kernel_rfl) (by decide) (by decide) (fun K hK => ?_) (fun K hK => ?_)
          ·skip
           refine Kd.qdJ qaG _ 85 ?hg (N := 35) ?hd (xs := ([] : List qac)) (inner := []) (ok := fun _ => True) (okp := fun _ => True) ?hr ?hp (fun _ hk => hk) trivial (Below.refl _ _) (Nat.le_refl _) (by simp) ?_
           (case hd => rfl)
           (case hg => rfl)
           (case hr => exact qa1)
           (case hp => exact qep.none _ _)
           intro v35 w1_0 ho hb hg_ hnew_; clear hg_ hnew_; have HL0 := ak_ (Kd.qaw ho (qab HBc.1)); clear ho; have n9_ := ak_ (qaa HBc.1 hb); clear HBc hb; have HBc := n9_; clear n9_; refine hK.out _ _ ⟨(qau HBc.1 HXc.1), (qau HBc.1 HXr.1), (qau HBc.1 HX0.1), (qau HBc.1 HX1.1)⟩ (fun hHeld => ?_); clear hK K; refine qeB (a' := ?_) ?_ ?_; rotate_left
           · show Act.put _ (some 35) _ = _
             simp only [Act.put, List.setIfInBounds_toArray, List.set_cons_zero, List.set_cons_succ, qec, qey]; rfl
           refine two_ (i := 3) (j := 8) (Ni := some 37) (Nj := some 42) #[true, true, true, true, true, true, true, true, false, false, true, true, false] #[true, true, true, false, true, true, true, true, true, false, true, true, false] rfl rfl rfl rfl (by kernel_rfl) (by decide) (by decide) (fun K hK => ?_) (fun K hK => ?_)
           ·skip
            refine Kd.qbQ qaG (w0 := wS) wS.heap.size (by rfl) (.tmp 35) (.tmp 36) 26 85 (.agg #[(.int .i64 0), (.int .i64 0)]) 16 rfl Tryz.underlying26 qcX rfl (by decide) (by omega) v35 ([] : List qac) list _ _ _ (fun _ => True) (fun _ => False) rfl rfl HL0.1 ?aR (fun _ _ h => h) (fun _ h => h.elim) (fun _ _ => trivial) HBc.1 (qab HBc.1) ?aL ?_
            (case aR => exact HLC.1 _ (qfD.qeL (qfD.qeL HMV.1 HBx.1) HBc.1))
            (case aL => have h_ := HLB.1; simp only [List.length_nil]; omega)
            intro v37 w3_1 ho hb hg hat_; simp only [List.nil_append] at ho; clear hg hat_ HL0 HBc; have HA := ak_ ho; have HBc := ak_ hb; clear ho hb; refine hK.out _ _ ⟨(qau HBc.1 HXc.1), (qau HBc.1 HXr.1), (qau HBc.1 HX0.1), (qau HBc.1 HX1.1)⟩ (fun hHeld => ?_); clear hK K; refine qeB (a' := ?_) ?_ ?_; rotate_left
            · show Act.put _ (some 37) _ = _
              simp only [Act.put, List.setIfInBounds_toArray, List.set_cons_zero, List.set_cons_succ, qec, qey]; rfl
            refine qfC (i := 8) (N := some 42) #[true, true, true, true, true, true, true, true, true, false, true, true, false] rfl rfl (by kernel_rfl) (by decide) (fun K hK => ?_); refine Kd.qdJ qaG _ 85 ?hg (N := 42) ?hd (xs := ([qad rules i] : List qac)) (inner := [.int .i64 (qad rules i).f0, .int .i64 (qad rules i).f1]) (ok := fun _ => True) (okp := fun _ => True) ?hr ?hp (fun _ hk => hk) trivial (Below.refl _ _) (Nat.le_refl _) (by simp) ?_
            (case hd => rfl)
            (case hg => rfl)
            (case hr => exact qa1)
            (case hp => exact qep.front (qc7 _ _ _ (qad rules i)) rfl (qep.none _ _) rfl)
            intro v42 w8_2 ho hb hg_ hnew_; clear hg_ hnew_; have n1_ := ak_ (Kd.qbs HA.1 hb); clear HA; have HA := n1_; clear n1_; have HL1 := ak_ (Kd.qaw ho (qab HBc.1)); clear ho; have n9_ := ak_ (qaa HBc.1 hb); clear HBc hb; have HBc := n9_; clear n9_; refine hK.out _ _ ⟨(qau HBc.1 HXc.1), (qau HBc.1 HXr.1), (qau HBc.1 HX0.1), (qau HBc.1 HX1.1)⟩ (fun hHeld => ?_); clear hK K; refine qeB (a' := ?_) ?_ ?_; rotate_left
            · show Act.put _ (some 42) _ = _
              simp only [Act.put, List.setIfInBounds_toArray, List.set_cons_zero, List.set_cons_succ, qec, qey]; rfl
            exact qeB qrs (hCont (v35, v37, v42) _ ⟨HA.1, Kd.qa2 HL1.1 (fun _ _ => trivial), HBc.1⟩)
           skip
           refine Kd.qdJ qaG _ 85 ?hg (N := 42) ?hd (xs := ([qad rules i] : List qac)) (inner := [.int .i64 (qad rules i).f0, .int .i64 (qad rules i).f1]) (ok := fun _ => True) (okp := fun _ => True) ?hr ?hp (fun _ hk => hk) trivial (Below.refl _ _) (Nat.le_refl _) (by simp) ?_
           (case hd => rfl)
           (case hg => rfl)
           (case hr => exact qa1)
           (case hp => exact qep.front (qc7 _ _ _ (qad rules i)) rfl (qep.none _ _) rfl)
           intro v42 w8_1 ho hb hg_ hnew_; clear hg_ hnew_; have HL1 := ak_ (Kd.qa2 (Kd.qaw (Kd.qhI ho (Kd.qkb HL0.1)) (qab HBc.1)) (fun _ hk => hk.2)); have n1_ := ak_ (Kd.qbs HL0.1 hb); clear HL0 ho; have HL0 := n1_; clear n1_; have n9_ := ak_ (qaa HBc.1 hb); clear HBc hb; have HBc := n9_; clear n9_; refine hK.out _ _ ⟨(qau HBc.1 HXc.1), (qau HBc.1 HXr.1), (qau HBc.1 HX0.1), (qau HBc.1 HX1.1)⟩ (fun hHeld => ?_); clear hK K; refine qeB (a' := ?_) ?_ ?_; rotate_left
           · show Act.put _ (some 42) _ = _
             simp only [Act.put, List.setIfInBounds_toArray, List.set_cons_zero, List.set_cons_succ, qec, qey]; rfl
           refine qfC (i := 3) (N := some 37) #[true, true, true, true, true, true, true, true, true, false, true, true, false] rfl rfl (by kernel_rfl) (by decide) (fun K hK => ?_); refine Kd.qbQ qaG (w0 := wS) wS.heap.size (by rfl) (.tmp 35) (.tmp 36) 26 85 (.agg #[(.int .i64 0), (.int .i64 0)]) 16 rfl Tryz.underlying26 qcX rfl (by decide) (by omega) v35 ([] : List qac) list _ _ _ (fun _ => True) (fun _ => False) rfl rfl HL0.1 ?aR (fun _ _ h => h) (fun _ h => h.elim) (fun _ _ => trivial) HBc.1 (qab HBc.1) ?aL ?_
           (case aR => exact HLC.1 _ (qfD.qeL (qfD.qeL HMV.1 HBx.1) HBc.1))
           (case aL => have h_ := HLB.1; simp only [List.length_nil]; omega)
           intro v37 w3_2 ho hb hg hat_; simp only [List.nil_append] at ho; have n1_ := ak_ (Kd.qjj HL1.1 hg (fun _ hk => hk)); clear HL1; have HL1 := n1_; clear n1_; clear hg hat_ HL0 HBc; have HA := ak_ ho; have HBc := ak_ hb; clear ho hb; refine hK.out _ _ ⟨(qau HBc.1 HXc.1), (qau HBc.1 HXr.1), (qau HBc.1 HX0.1), (qau HBc.1 HX1.1)⟩ (fun hHeld => ?_); clear hK K; refine qeB (a' := ?_) ?_ ?_; rotate_left
           · show Act.put _ (some 37) _ = _
             simp only [Act.put, List.setIfInBounds_toArray, List.set_cons_zero, List.set_cons_succ, qec, qey]; rfl
           exact qeB qrs (hCont (v35, v37, v42) _ ⟨HA.1, Kd.qa2 HL1.1 (fun _ _ => trivial), HBc.1⟩)
          skip
          refine Kd.qdJ qaG _ 85 ?hg (N := 42) ?hd (xs := ([qad rules i] : List qac)) (inner := [.int .i64 (qad rules i).f0, .int .i64 (qad rules i).f1]) (ok := fun _ => True) (okp := fun _ => True) ?hr ?hp (fun _ hk => hk) trivial (Below.refl _ _) (Nat.le_refl _) (by simp) ?_
          (case hd => rfl)
          (case hg => rfl)
          (case hr => exact qa1)
          (case hp => exact qep.front (qc7 _ _ _ (qad rules i)) rfl (qep.none _ _) rfl)
          intro v42 w8_0 ho hb hg_ hnew_; clear hg_ hnew_; have HL1 := ak_ (Kd.qaw ho (qab HBc.1)); clear ho; have n9_ := ak_ (qaa HBc.1 hb); clear HBc hb; have HBc := n9_; clear n9_; refine hK.out _ _ ⟨(qau HBc.1 HXc.1), (qau HBc.1 HXr.1), (qau HBc.1 HX0.1), (qau HBc.1 HX1.1)⟩ (fun hHeld => ?_); clear hK K; refine qeB (a' := ?_) ?_ ?_; rotate_left
          · show Act.put _ (some 42) _ = _
            simp only [Act.put, List.setIfInBounds_toArray, List.set_cons_zero, List.set_cons_succ, qec, qey]; rfl
          refine qfC (i := 1) (N := some 35) #[true, true, true, false, true, true, true, true, true, false, true, true, false] rfl rfl (by kernel_rfl) (by decide) (fun K hK => ?_); refine Kd.qdJ qaG _ 85 ?hg (N := 35) ?hd (xs := ([] : List qac)) (inner := []) (ok := fun _ => True) (okp := fun _ => True) ?hr ?hp (fun _ hk => hk) trivial (Below.refl _ _) (Nat.le_refl _) (by simp) ?_
          (case hd => rfl)
          (case hg => rfl)
          (case hr => exact qa1)
          (case hp => exact qep.none _ _)
          intro v35 w1_1 ho hb hg_ hnew_; clear hg_ hnew_; have n1_ := ak_ (Kd.qa2 (Kd.qfv HL1.1 (Kd.qfm ho) hb) (fun _ hk => hk.2)); clear HL1; have HL1 := n1_; clear n1_; have HL0 := ak_ (Kd.qaw ho (qab HBc.1)); clear ho; have n9_ := ak_ (qaa HBc.1 hb); clear HBc hb; have HBc := n9_; clear n9_; refine hK.out _ _ ⟨(qau HBc.1 HXc.1), (qau HBc.1 HXr.1), (qau HBc.1 HX0.1), (qau HBc.1 HX1.1)⟩ (fun hHeld => ?_); clear hK K; refine qeB (a' := ?_) ?_ ?_; rotate_left
          · show Act.put _ (some 35) _ = _
            simp only [Act.put, List.setIfInBounds_toArray, List.set_cons_zero, List.set_cons_succ, qec, qey]; rfl
          refine qfC (i := 3) (N := some 37) #[true, true, true, true, true, true, true, true, true, false, true, true, false] rfl rfl (by kernel_rfl) (by decide) (fun K hK => ?_); refine Kd.qbQ qaG (w0 := wS) wS.heap.size (by rfl) (.tmp 35) (.tmp 36) 26 85 (.agg #[(.int .i64 0), (.int .i64 0)]) 16 rfl Tryz.underlying26 qcX rfl (by decide) (by omega) v35 ([] : List qac) list _ _ _ (fun _ => True) (fun _ => False) rfl rfl HL0.1 ?aR (fun _ _ h => h) (fun _ h => h.elim) (fun _ _ => trivial) HBc.1 (qab HBc.1) ?aL ?_
          (case aR => exact HLC.1 _ (qfD.qeL (qfD.qeL HMV.1 HBx.1) HBc.1))
          (case aL => have h_ := HLB.1; simp only [List.length_nil]; omega)
          intro v37 w3_2 ho hb hg hat_; simp only [List.nil_append] at ho; have n1_ := ak_ (Kd.qjj HL1.1 hg (fun _ hk => hk)); clear HL1; have HL1 := n1_; clear n1_; clear hg hat_ HL0 HBc; have HA := ak_ ho; have HBc := ak_ hb; clear ho hb; refine hK.out _ _ ⟨(qau HBc.1 HXc.1), (qau HBc.1 HXr.1), (qau HBc.1 HX0.1), (qau HBc.1 HX1.1)⟩ (fun hHeld => ?_); clear hK K; refine qeB (a' := ?_) ?_ ?_; rotate_left
          · show Act.put _ (some 37) _ = _
            simp only [Act.put, List.setIfInBounds_toArray, List.set_cons_zero, List.set_cons_succ, qec, qey]; rfl
          exact qeB qrs (hCont (v35, v37, v42) _ ⟨HA.1, Kd.qa2 HL1.1 (fun _ _ => trivial), HBc.1⟩)
        rintro ⟨v35, v37, v42⟩ wJ ⟨ha_, hl_, hb_⟩; clear HBc; have HA := ak_ ha_; have HL1 := ak_ hl_; have HBc := ak_ hb_; clear ha_ hl_ hb_; obtain ⟨A42, c42, e42⟩ := Kd.qaI HL1.1; dsimp only at e42; subst e42; refine qeB (a' := ?_) ?_ ?_; rotate_left
        · simp only [qi4, Act.put, List.setIfInBounds_toArray, List.set_cons_zero, List.set_cons_succ]
          rfl
        refine qfC (i := 9) (N := some 43) #[true, true, true, true, true, true, true, true, true, true, true, true, false] rfl rfl (by kernel_rfl) (by decide) (fun K hK => ?_); refine Kd.qbQ qaG (w0 := wS) wS.heap.size (by rfl) (.tmp 37) (.tmp 42) 26 85 (.agg #[(.int .i64 0), (.int .i64 0)]) 16 rfl Tryz.underlying26 qcX rfl (by decide) (by omega) v37 list [qad rules i] _ _ _ (fun _ => True) (fun _ => False) rfl rfl HA.1 ?aR (fun _ _ h => h) (fun _ h => h.elim) (fun _ _ => trivial) HBc.1 (qab HBc.1) ?aL ?_
        (case aR => exact (Kd.qan HL1.1).2.2)
        (case aL => have h_ := HLB.1; simp only [List.length_singleton]; omega)
        intro v43 wB ho hb hg hat_; clear hg hat_ HA HL1 HBc; have HA := ak_ ho; have HBc := ak_ hb; clear ho hb; obtain ⟨A43, c43, e43⟩ := Kd.qaI HA.1; subst e43; refine hK.out _ _ ⟨(qau HBc.1 HXc.1), (qau HBc.1 HXr.1), (qau HBc.1 HX0.1), (qau HBc.1 HX1.1)⟩ (fun hHeld => ?_); clear hK K; refine qeB (a' := ?_) ?_ ?_; rotate_left
        · show Act.put _ (some 43) _ = _
          simp only [Act.put, List.setIfInBounds_toArray, List.set_cons_zero, List.set_cons_succ, qec, qey]; rfl
        refine last_ (i := 12) (N := some 46) #[true, true, true, true, true, true, true, true, true, true, true, true, true] rfl rfl (by kernel_rfl) (by decide) (fun K hK => ?_); refine goesV_ #[.pointer (some ⟨g, 0, none⟩), .pointer (some ⟨gM, 0, none⟩), .pointer (some ⟨gP, 0, none⟩), .pointer (some ⟨gR, 0, none⟩), .pointer (some ⟨gC, 0, none⟩)] Tryz.func236 (by kernel_rfl) rfl #[.slice A43 (list ++ [qad rules i]).length c43, .int .i64 (wrap64 (i + 1))] (by rfl) rfl rfl rfl qb6 ?_; have HSB := ak_ (ChSt.below (ChSt.below HST.1 HBx.1) HBc.1); refine (IH.1 k1 (by have := HK.1; omega) (list ++ [qad rules i]) (wrap64 (i + 1)) o o2 A43 c43 (.slice Aq o.length cq) _ ?s1 ?s2 ?s3 ?s4 A_.1).mono ?_
        (case s1 => exact HSB.1)
        (case s2 => exact (Kd.qan HA.1).2.1)
        (case s3 => exact Kd.qaw HA.1 (Nat.le_trans HST.1.2.2.size HBx.1.size))
        (case s4 => exact Kd.qgz (Kd.qg3 (Kd.qg3 (Kd.qmH HST.1.2.1) HBx.1) HBc.1) (fun k_ hk => ⟨hk.1, fun e_ => by have h1_ := Kd.qfm HA.1 k_ e_.symm; have h2_ := hk.2.2.1; have h3_ := HBx.1.size; omega⟩))
        rintro e wC ⟨rfl, v1, h1_, h2_, h3_⟩; refine ⟨_, rfl, ?_⟩; have HSTN := ak_ h1_; have HMVN := ak_ (qfD.trans (qfD.qeL (qfD.qeL HMV.1 HBx.1) HBc.1) h2_ HRO.1); have HRON := ak_ (show ChRo W (Value.slice Ao out.length co) v1 from fun k_ hk => (h3_ k_ hk).elim (fun e_ => HRO.1 k_ e_) (fun hb_ => .inr (Nat.le_trans (Nat.le_trans HMV.1.size (Nat.le_trans HBx.1.size HBc.1.size)) hb_))); clear h1_ h2_ h3_ HSB; refine hK.out _ _ ?_; clear hK K; refine qeB (a' := ?_) ?_ ?_; rotate_left
        · show Act.put _ (some 46) _ = _
          simp only [Act.put, List.setIfInBounds_toArray, List.set_cons_zero, List.set_cons_succ, qec, qey]; rfl
        refine qf5 (by kernel_rfl) ?_; go_wp2
        go_roundg k1
        case measure => have := HK.1; omega
        case rel => exact ⟨o2, wrap64 (i + 1), v1, (by first | rfl | (simp; done)), H', ⟨by have := HK.1; omega⟩, HSTN, HMVN, HRON⟩
def qcM.f (k : Nat) (qbK : ByteArray) (qbY : Int) (a1 : Int) : Option (List (List qac)) := (qaY.f k qbK).bind fun rules => qa4.f k qbK qbY a1 rules [] 0 []
theorem qcM.calls (k : Nat) (qbK : ByteArray) (qbY : Int) (a1 : Int) (r : List (List qac)) (w : World) (h : qcM.f k qbK qbY a1 = some r) :
    Calls Tryz.prog 197 #[.agg #[.string qbK, .int .i64 qbY], .int .i64 a1] w fun e w' => ∃ v0_ : Value, e = .returned (v0_) ∧ Kd.S (Kd.slice 85 qaG) 26 w' w.heap.size (fun _ => True) v0_ r ∧ Below w.heap.size w w' := by
  have hu := Tryz.underlying99; unfold qcM.f at h; replace h := Option.bind_eq_some_iff.mp h; obtain ⟨rules, A1_, h⟩ := h; have A1 := ak_ A1_; have H := ak_ h; clear A1_ h; go_enter Tryz.func197, Tryz.ntmps197
  go_wp2_with (first | ((with_reducible refine qam (N := 2) rfl ?_); refine bx_ 2 rfl (cs := #[.string qbK, .int .i64 qbY]) (t := 99) qa1 ?_; intro gP hg w1 hbox hb; have BP1 := ak_ hbox; have HB1 := ak_ hb; have GP := ak_ (show w.heap.size ≤ gP by rw [hg]; exact Nat.le_refl _); clear hbox hb hg) | ((with_reducible refine qam (N := 3) rfl ?_); refine bx_ 3 rfl (cs := #[.int .i64 a1]) (t := 3) qa1 ?_; intro gM hg w2 hbox hb; have BM2 := ak_ hbox; have BP2 := ak_ (qap BP1.1 hb); have HB2 := ak_ (qaa HB1.1 hb); have GM := ak_ (show gP < gM by rw [hg]; exact qd2 BP1.1); have hcP0 := qd4 BP2.1; clear BP1 HB1; clear hbox hb hg) | (refine gl_ 10 Tryz.func235 #[.string qbK] rfl qb6 ?_; (with_reducible refine (qaY.calls k qbK rules _ A1.1).mono ?_); rintro e w3 ⟨v10, rfl, ho, hb⟩; refine ⟨_, rfl, ?_⟩; obtain ⟨A10, c10, e10⟩ := Kd.qaI ho; subst e10; have HL3 := ak_ ho; have BP3 := ak_ (qap BP2.1 hb); have BM3 := ak_ (qap BM2.1 hb); have HB3 := ak_ (qaa HB2.1 hb); clear ho hb hcP0 BP2 BM2 HB2) | ((with_reducible refine qam (N := 5) rfl ?_); refine bx_ 5 rfl (cs := #[.slice none 0 0]) (t := 26) qa1 ?_; intro gR hg w4 hbox hb; have BR4 := ak_ hbox; have BP4 := ak_ (qap BP3.1 hb); have BM4 := ak_ (qap BM3.1 hb); have HL4 := ak_ (Kd.qbs HL3.1 hb); have HB4 := ak_ (qaa HB3.1 hb); have GR := ak_ (show gM < gR by rw [hg]; exact qd2 BM3.1); have hcR : w4.cell? ⟨gR, 0, none⟩ = some (.slice none 0 0) := (qba hbox 0).trans rfl; have hfR := qae hbox 0; clear BP3 BM3 HL3 HB3; clear hbox hb hg) | ((with_reducible refine qam (N := 11) rfl ?_); obtain ⟨gL, hgL⟩ : ∃ g_, g_ = (w4.setCell ⟨gR, 0, none⟩ (.slice A10 rules.length c10)).heap.size := ⟨_, rfl⟩; refine Kd.qhH (Kd.tag (fun _ => 0) (Kd.slice 85 qaG)) _ 26 ?hg (N := 11) ?hd (xs := ([] : List (List qac × Nat))) (inner := []) (ok := fun k_ => k_ = gL) (okp := fun _ => False) ?hr ?hp (fun _ hk => hk.elim) hgL.symm (Below.refl _ _) (Nat.le_refl _) (by simp) ?_; (case hd => rfl); (case hg => rfl); (case hr => exact qa1); (case hp => exact qep.none _ _); intro v11 w5 ho hb hg_ hnew_; clear hg_; obtain ⟨b_, hb1_, -⟩ := hnew_; have hb2_ := ho.1 b_ hb1_; have GLT := ak_ (show gL < w5.heap.size by rw [← hb2_]; exact Kd.qkb ho b_ hb1_); have HTL := ak_ (show ∃ cells_, w5.heap[gL]? = some (.cells cells_ 26 (0, 0)) by rw [← hb2_]; exact Kd.qin ho b_ hb1_); clear hb1_ hb2_; obtain ⟨A11, c11, e11⟩ := Kd.qaI ho; replace e11 : v11 = (.slice A11 0 c11) := e11; subst e11; have HS5 := ak_ (Kd.qaw ho (show w.heap.size ≤ (w4.setCell ⟨gR, 0, none⟩ (.slice A10 rules.length c10)).heap.size by have := HB4.1.size; simpa [World.setCell] using this)); have BR5 := ak_ (qap (qa9 (cs' := #[(.slice A10 rules.length c10)]) BR4.1 0 (.slice A10 rules.length c10) rfl) hb); have BP5 := ak_ (qap (qce BP4.1 (p := ⟨gR, 0, none⟩) (by have h1_ := GM.1; have h2_ := GR.1; show gP ≠ gR; omega) (.slice A10 rules.length c10)) hb); have BM5 := ak_ (qap (qce BM4.1 (p := ⟨gR, 0, none⟩) (by have h2_ := GR.1; show gM ≠ gR; omega) (.slice A10 rules.length c10)) hb); have HL5 := ak_ (Kd.qbs (Kd.qg2 HL4.1 BR4.1 (by decide) 0 (.slice A10 rules.length c10)) hb); have HB5 := ak_ (qaa (qat HB4.1 (by have h0_ := GP.1; have h1_ := GM.1; have h2_ := GR.1; omega)) hb); have GL := ak_ (show gR < gL by rw [hgL]; have := qd2 BR4.1; simpa [World.setCell] using this); clear hgL ho hb BR4 BP4 BM4 HL4 HB4 hcR hfR) | ((with_reducible refine qam (N := 6) rfl ?_); refine bx_ 6 rfl (cs := #[.slice none 0 0]) (t := 145) qa1 ?_; intro gO hg w6 hbox hb; have BO6 := ak_ hbox; have BR6 := ak_ (qap BR5.1 hb); have BP6 := ak_ (qap BP5.1 hb); have BM6 := ak_ (qap BM5.1 hb); have HL6 := ak_ (Kd.qbs HL5.1 hb); have HS6 := ak_ (Kd.qbs HS5.1 hb); have HTL6 := ak_ (HTL.1.elim (fun c_ hc_ => ⟨c_, qap hc_ hb⟩) : ∃ cells_, w6.heap[gL]? = some (.cells cells_ 26 (0, 0))); have HB6 := ak_ (qaa HB5.1 hb); have GO := ak_ (show gL < gO ∧ gR < gO by rw [hg]; exact ⟨GLT.1, qd2 BR5.1⟩); have hcO : w6.cell? ⟨gO, 0, none⟩ = some (.slice none 0 0) := (qba hbox 0).trans rfl; have hfO := qae hbox 0; clear BR5 BP5 BM5 HL5 HS5 HB5 HTL GLT; clear hbox hb hg) | ((with_reducible refine qam (N := 7) rfl ?_); refine bx_ 7 rfl (cs := #[.nilFunc]) (t := 198) qa1 ?_; intro gC hg w8 hbox hb; have BC8 := ak_ hbox; have BO8 := ak_ (qap (qa9 (cs' := #[(.slice A11 0 c11)]) BO6.1 0 (.slice A11 0 c11) rfl) hb); have BR8 := ak_ (qap (qce BR6.1 (p := ⟨gO, 0, none⟩) (by have h1_ := GO.1.2; show gR ≠ gO; omega) (.slice A11 0 c11)) hb); have BP8 := ak_ (qap (qce BP6.1 (p := ⟨gO, 0, none⟩) (by have h1_ := GO.1.2; have h2_ := GR.1; have h3_ := GM.1; show gP ≠ gO; omega) (.slice A11 0 c11)) hb); have BM8 := ak_ (qap (qce BM6.1 (p := ⟨gO, 0, none⟩) (by have h1_ := GO.1.2; have h2_ := GR.1; show gM ≠ gO; omega) (.slice A11 0 c11)) hb); have HL8 := ak_ (Kd.qbs (Kd.qg2 HL6.1 BO6.1 (by decide) 0 (.slice A11 0 c11)) hb); have HS8 := ak_ (Kd.qbs (Kd.qco (p := ⟨gO, 0, none⟩) HS6.1 (fun k_ hk => by have h1_ := GO.1.1; show k_ ≠ gO; omega) (.slice A11 0 c11)) hb); have HB8 := ak_ (qaa (qat HB6.1 (by have h0_ := GP.1; have h1_ := GM.1; have h2_ := GR.1; have h3_ := GO.1.2; omega)) hb); have HTL8 := ak_ (HTL6.1.elim (fun c_ hc_ => ⟨c_, qap (qce hc_ (p := ⟨gO, 0, none⟩) (by have h1_ := GO.1.1; show gL ≠ gO; omega) _) hb⟩) : ∃ cells_, w8.heap[gL]? = some (.cells cells_ 26 (0, 0))); have GC := ak_ (show gO < gC by rw [hg]; have := qd2 BO6.1; simpa [World.setCell] using this); have hcC : w8.cell? ⟨gC, 0, none⟩ = some .nilFunc := (qba hbox 0).trans rfl; have hfC := qae hbox 0; have hstF : ∀ (m : Mode) (W : World), Sem.run Tryz.prog (store ⟨gC, 0, none⟩ (.func (.func 236) #[] #[.pointer (some ⟨gO, 0, none⟩), .pointer (some ⟨gM, 0, none⟩), .pointer (some ⟨gP, 0, none⟩), .pointer (some ⟨gR, 0, none⟩), .pointer (some ⟨gC, 0, none⟩)]) m) W = stored Tryz.prog W ⟨gC, 0, none⟩ (.func (.func 236) #[] #[.pointer (some ⟨gO, 0, none⟩), .pointer (some ⟨gM, 0, none⟩), .pointer (some ⟨gP, 0, none⟩), .pointer (some ⟨gR, 0, none⟩), .pointer (some ⟨gC, 0, none⟩)]) m := fun m W => run_store _ W _ _ m rfl; clear BO6 BR6 BP6 BM6 HL6 HS6 HB6 HTL6 hcO hfO; clear hbox hb hg))
  have BC0 := ak_ (show (w8.setCell ⟨gC, 0, none⟩ (.func (.func 236) #[] #[.pointer (some ⟨gO, 0, none⟩), .pointer (some ⟨gM, 0, none⟩), .pointer (some ⟨gP, 0, none⟩), .pointer (some ⟨gR, 0, none⟩), .pointer (some ⟨gC, 0, none⟩)])).heap[gC]? = _ from qa9 (cs' := #[(.func (.func 236) #[] #[.pointer (some ⟨gO, 0, none⟩), .pointer (some ⟨gM, 0, none⟩), .pointer (some ⟨gP, 0, none⟩), .pointer (some ⟨gR, 0, none⟩), .pointer (some ⟨gC, 0, none⟩)])]) BC8.1 0 (.func (.func 236) #[] #[.pointer (some ⟨gO, 0, none⟩), .pointer (some ⟨gM, 0, none⟩), .pointer (some ⟨gP, 0, none⟩), .pointer (some ⟨gR, 0, none⟩), .pointer (some ⟨gC, 0, none⟩)]) rfl); have BO0 := ak_ (show (w8.setCell ⟨gC, 0, none⟩ (.func (.func 236) #[] #[.pointer (some ⟨gO, 0, none⟩), .pointer (some ⟨gM, 0, none⟩), .pointer (some ⟨gP, 0, none⟩), .pointer (some ⟨gR, 0, none⟩), .pointer (some ⟨gC, 0, none⟩)])).heap[gO]? = _ from qce BO8.1 (p := ⟨gC, 0, none⟩) (by have h1_ := GC.1; show gO ≠ gC; omega) _); have BR0 := ak_ (show (w8.setCell ⟨gC, 0, none⟩ (.func (.func 236) #[] #[.pointer (some ⟨gO, 0, none⟩), .pointer (some ⟨gM, 0, none⟩), .pointer (some ⟨gP, 0, none⟩), .pointer (some ⟨gR, 0, none⟩), .pointer (some ⟨gC, 0, none⟩)])).heap[gR]? = _ from qce BR8.1 (p := ⟨gC, 0, none⟩) (by have h1_ := GC.1; have h2_ := GO.1.2; show gR ≠ gC; omega) _); have BP0 := ak_ (show (w8.setCell ⟨gC, 0, none⟩ (.func (.func 236) #[] #[.pointer (some ⟨gO, 0, none⟩), .pointer (some ⟨gM, 0, none⟩), .pointer (some ⟨gP, 0, none⟩), .pointer (some ⟨gR, 0, none⟩), .pointer (some ⟨gC, 0, none⟩)])).heap[gP]? = _ from qce BP8.1 (p := ⟨gC, 0, none⟩) (by have h1_ := GC.1; have h2_ := GO.1.2; have h3_ := GR.1; have h4_ := GM.1; show gP ≠ gC; omega) _); have BM0 := ak_ (show (w8.setCell ⟨gC, 0, none⟩ (.func (.func 236) #[] #[.pointer (some ⟨gO, 0, none⟩), .pointer (some ⟨gM, 0, none⟩), .pointer (some ⟨gP, 0, none⟩), .pointer (some ⟨gR, 0, none⟩), .pointer (some ⟨gC, 0, none⟩)])).heap[gM]? = _ from qce BM8.1 (p := ⟨gC, 0, none⟩) (by have h1_ := GC.1; have h2_ := GO.1.2; have h3_ := GR.1; show gM ≠ gC; omega) _); have HL0 := ak_ (Kd.qg2 HL8.1 BC8.1 (by decide) 0 (.func (.func 236) #[] #[.pointer (some ⟨gO, 0, none⟩), .pointer (some ⟨gM, 0, none⟩), .pointer (some ⟨gP, 0, none⟩), .pointer (some ⟨gR, 0, none⟩), .pointer (some ⟨gC, 0, none⟩)])); have HTL0 := ak_ (HTL8.1.elim (fun c_ hc_ => ⟨c_, qce hc_ (p := ⟨gC, 0, none⟩) (by have h1_ := GO.1.1; have h2_ := GC.1; show gL ≠ gC; omega) _⟩) : ∃ cells_, (w8.setCell ⟨gC, 0, none⟩ (.func (.func 236) #[] #[.pointer (some ⟨gO, 0, none⟩), .pointer (some ⟨gM, 0, none⟩), .pointer (some ⟨gP, 0, none⟩), .pointer (some ⟨gR, 0, none⟩), .pointer (some ⟨gC, 0, none⟩)])).heap[gL]? = some (.cells cells_ 26 (0, 0))); have HS0 := ak_ (Kd.qco (p := ⟨gC, 0, none⟩) HS8.1 (fun k_ hk => by have h1_ := GO.1.1; have h2_ := GC.1; show k_ ≠ gC; omega) (.func (.func 236) #[] #[.pointer (some ⟨gO, 0, none⟩), .pointer (some ⟨gM, 0, none⟩), .pointer (some ⟨gP, 0, none⟩), .pointer (some ⟨gR, 0, none⟩), .pointer (some ⟨gC, 0, none⟩)])); have HB0 := ak_ (qat (g := gC) (j := 0) (v := (.func (.func 236) #[] #[.pointer (some ⟨gO, 0, none⟩), .pointer (some ⟨gM, 0, none⟩), .pointer (some ⟨gP, 0, none⟩), .pointer (some ⟨gR, 0, none⟩), .pointer (some ⟨gC, 0, none⟩)])) HB8.1 (by have h0_ := GP.1; have h1_ := GM.1; have h2_ := GR.1; have h3_ := GO.1.2; have h4_ := GC.1; omega)); clear BC8 BO8 BR8 BP8 BM8 HL8 HTL8 HS8 HB8 hcC hfC hstF
  generalize w8.setCell ⟨gC, 0, none⟩ (.func (.func 236) #[] #[.pointer (some ⟨gO, 0, none⟩), .pointer (some ⟨gM, 0, none⟩), .pointer (some ⟨gP, 0, none⟩), .pointer (some ⟨gR, 0, none⟩), .pointer (some ⟨gC, 0, none⟩)]) = W0 at BC0 BO0 BR0 BP0 BM0 HL0 HTL0 HS0 HB0 ⊢
  have HF := ak_ (show ChFix W0 w.heap.size gL gO gM gP gR gC qbK qbY a1 A10 c10 rules from ⟨⟨qd2 BO0.1, by have h1_ := GO.1.1; omega, HB0.1.size⟩, ⟨⟨by have h1_ := GO.1.2; have h2_ := GR.1; omega, by have h1_ := GL.1; have h2_ := GR.1; omega⟩, ⟨by have h1_ := GO.1.2; have h2_ := GR.1; have h3_ := GM.1; omega, by have h1_ := GL.1; have h2_ := GR.1; have h3_ := GM.1; omega⟩, ⟨by have h1_ := GO.1.2; omega, by have h1_ := GL.1; omega⟩, ⟨by have h1_ := GC.1; omega, by have h1_ := GC.1; have h2_ := GO.1.1; omega⟩⟩, BM0.1, BP0.1, BR0.1, BC0.1, (Kd.qan HL0.1).2.1, fun W' hm => ch_rules BO0.1 HTL0.1 HL0.1 hm⟩); have HSS := ak_ (show Kd.S (Kd.slice 85 qaG) 26 W0 w.heap.size (fun k_ => k_ = gL) (.slice A11 0 c11) [] from ⟨fun _ => 0, HS0.1⟩); refine qmR (args' := #[.slice none ([] : List qac).length 0, .int .i64 0] ++ #[.pointer (some ⟨gO, 0, none⟩), .pointer (some ⟨gM, 0, none⟩), .pointer (some ⟨gP, 0, none⟩), .pointer (some ⟨gR, 0, none⟩), .pointer (some ⟨gC, 0, none⟩)]) rfl ?_; refine (qa4.own W0 w.heap.size gL gO gM gP gR gC qbK qbY a1 A10 c10 rules HF k [] 0 [] r none 0 (.slice A11 0 c11) W0 ⟨BO0.1, Kd.qgz HSS.1 (fun _ h_ => .inl h_), qfD.refl _⟩ (Nat.le_refl _) (Kd.qf2 _ _ _ _ _) (Kd.qgz HSS.1 (fun _ h_ => ⟨.inl h_, by simp [Value.ownBlock]⟩)) H.1).mono ?_; rintro e wE ⟨rfl, v1, h1_, h2_, h3_⟩; have HE1 := ak_ h1_; clear h1_ h2_ h3_; obtain ⟨A1v, c1v, e1v⟩ := Kd.qdT HE1.1.2.1; subst e1v; have hcE : wE.cell? ⟨gO, 0, none⟩ = some (.slice A1v r.length c1v) := (qba HE1.1.1 0).trans rfl; go_wp2
  go_ret
  exact ⟨_, rfl, Kd.qgz HE1.1.2.1 (fun _ _ => trivial), HE1.1.2.2.os.trans HB0.1.os, HE1.1.2.2.tape.trans HB0.1.tape, HE1.1.2.2.output.trans HB0.1.output, Nat.le_trans HB0.1.size HE1.1.2.2.size, fun k_ hk => (HE1.1.2.2.block k_ (Nat.lt_of_lt_of_le hk HB0.1.size) (by have h0_ := GP.1; have h1_ := GM.1; have h2_ := GR.1; have h3_ := GO.1.2; omega) (fun e_ => by injection e_ with e_; have h0_ := GP.1; have h1_ := GM.1; have h2_ := GR.1; have h3_ := GL.1; omega)).trans (HB0.1.block k_ hk)⟩
end
end Go.Proofs.YtjeoabbnalamcaaGreatDoor.P
