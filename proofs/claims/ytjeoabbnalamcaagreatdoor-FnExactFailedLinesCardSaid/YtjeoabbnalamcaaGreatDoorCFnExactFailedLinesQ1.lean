/- The plain laws on what the functions answer; the last one: the law FnExactFailedLines answers true for all arguments. Proved in this text: its theorems. Conditions: as each theorem states them. -/
import Derived.Test.YtjeoabbnalamcaaGreatDoorCFnExactFailedLinesP
import Derived.Test.YtjeoabbnalamcaaGreatDoorCFnExactFailedLinesF0
import Derived.Test.YtjeoabbnalamcaaGreatDoorCFnExactFailedLinesF1
import Derived.Test.YtjeoabbnalamcaaGreatDoorCFnExactFailedLinesF2
import Derived.Test.YtjeoabbnalamcaaGreatDoorCFnExactFailedLinesF3
import Derived.Test.YtjeoabbnalamcaaGreatDoorCFnExactFailedLinesF4
import Derived.Test.YtjeoabbnalamcaaGreatDoorCFnExactFailedLinesF5
import Derived.Test.YtjeoabbnalamcaaGreatDoorCFnExactFailedLinesQ0
namespace Go.Proofs.YtjeoabbnalamcaaGreatDoor.P
open Go.RowKit Go.Proofs.YtjeoabbnalamcaaGreatDoorW.qa0 Go.Proofs.YtjeoabbnalamcaaGreatDoorW.PrintLast
set_option linter.unusedVariables false
set_option linter.unusedSimpArgs false
def desk0 : List qac := [⟨2, 0⟩, ⟨3, 0⟩]
def Runs (l : List UInt8) (rs : List qac) (mo : Int) (out : List ByteArray) : Prop :=
 ((spl 10 l).getLast? = some [] ∧ out.length + (spl 10 l).length ≤ 51 ∧ ∃ (rs' : List qac) (mo' : Int) (out' : List ByteArray), qaH rs' = true ∧ qex mo' = true ∧ out'.length ≤ 50 ∧ (∃ K, ∀ k, K ≤ k → ∀ n, l.length < n → qbd.l0 k n rs mo (bs l) out = some (out', rs', mo', true)) ∧ Ev (fun k => qcG.l0 k (bas (spl 10 l).dropLast) rs mo out) (rs', mo', out', true)) ∨
 (¬ ((spl 10 l).getLast? = some [] ∧ out.length + (spl 10 l).length ≤ 51) ∧ ∃ K, ∀ k, K ≤ k → ∀ n, l.length < n → qbd.l0 k n rs mo (bs l) out = some ([], [], 0, false))
theorem run_l0 : ∀ (d : Nat) (l : List UInt8), l.length ≤ d → l.length ≤ 3000 → ∀ (rs : List qac) (mo : Int) (out : List ByteArray), qaH rs = true → qex mo = true → out.length ≤ 50 → Runs l rs mo out := by
 intro d
 induction d with
 | zero =>
  intro l h1 h2 rs mo out hg hm ho; obtain rfl := List.length_eq_zero_iff.1 (Nat.le_zero.1 h1); refine .inl ⟨rfl, by show out.length + 1 ≤ 51; omega, rs, mo, out, hg, hm, ho, ⟨0, fun k _ n hn => ?_⟩, ⟨0, fun k _ => rfl⟩⟩
  obtain ⟨m, rfl⟩ : ∃ m, n = m + 1 := ⟨n - 1, by simp at hn; omega⟩
  unfold qbd.l0; rw [if_pos (qhs [])]
 | succ d ih =>
  intro l h1 h2 rs mo out hg hm ho
  cases l with
  | nil =>
   refine .inl ⟨rfl, by show out.length + 1 ≤ 51; omega, rs, mo, out, hg, hm, ho, ⟨0, fun k _ n hn => ?_⟩, ⟨0, fun k _ => rfl⟩⟩
   obtain ⟨m, rfl⟩ : ∃ m, n = m + 1 := ⟨n - 1, by simp at hn; omega⟩
   unfold qbd.l0; rw [if_pos (qhs [])]
  | cons x0 l0 =>
   have hne : ¬ (bs (x0 :: l0)).toList = [] := by rw [qhs]; simp
   generalize hL : x0 :: l0 = l at h1 h2 hne ⊢
   rcases qhT 10 l with hn | ⟨b, r, rfl, hb⟩
   ·refine .inr ⟨fun h => ?_, 0, fun k _ n hn2 => ?_⟩
    ·rw [qfY 10 l hn, ← hL] at h
     simp at h
    ·obtain ⟨m, rfl⟩ : ∃ m, n = m + 1 := ⟨n - 1, by omega⟩
     unfold qbd.l0; rw [if_neg hne, qgs, cut_miss 10 l hn, if_neg (show ¬ (false = true) by decide)]
   ·have hlen : (b ++ 10 :: r).length = b.length + (r.length + 1) := by rw [List.length_append, List.length_cons]
    have hs := qhJ 10 b r hb; have hls : 1 ≤ (spl 10 r).length := List.length_pos_iff.2 (qjw 10 r)
    have hlast : (b :: spl 10 r).getLast? = (spl 10 r).getLast? := by
     cases h : spl 10 r with
     | nil => exact absurd h (qjw 10 r)
     | cons a t => rfl
    have hdrop : (b :: spl 10 r).dropLast = b :: (spl 10 r).dropLast := by
     cases h : spl 10 r with
     | nil => exact absurd h (qjw 10 r)
     | cons a t => rfl
    unfold Runs; rw [hs, hlast, hdrop, List.length_cons]; by_cases h50 : out.length = 50
    ·refine .inr ⟨fun h => by omega, 0, fun k _ n hn2 => ?_⟩
     obtain ⟨m, rfl⟩ : ∃ m, n = m + 1 := ⟨n - 1, by omega⟩
     unfold qbd.l0; rw [if_neg hne, qgs, qmf 10 b r hb, if_pos rfl, if_pos h50]
    ·obtain ⟨⟨rs1, mo1, txt⟩, g1, g2, ⟨K1, e1⟩, ⟨K2, e2⟩⟩ := qsP hg hm (bs b) (by rw [qc8]; omega)
     have e1 : ∀ k, K1 ≤ k → qfo.f k rs mo (bs b) = some (rs1, mo1, txt) := e1; have e2 : ∀ k, K2 ≤ k → qea.f k rs mo (bs b) = some (rs1, mo1, txt) := e2
     have hstep : ∀ k, K1 ≤ k → ∀ n, qbd.l0 k (n + 1) rs mo (bs (b ++ 10 :: r)) out = qbd.l0 k n rs1 mo1 (bs r) (out ++ [txt]) := fun k hk n => by
      show (if _ then _ else _) = _
      rw [if_neg hne, qgs, qmf 10 b r hb, if_pos rfl, if_neg h50]
      show (qfo.f k rs mo (bs b)).bind _ = _
      rw [e1 k hk]; rfl
     have hol : (out ++ [txt]).length = out.length + 1 := by rw [List.length_append]; rfl
     rcases ih r (by omega) (by omega) rs1 mo1 (out ++ [txt]) g1 g2 (by omega) with ⟨a1, a2, rs', mo', out', b1, b2, b3, ⟨K3, f1⟩, ⟨K4, f2⟩⟩ | ⟨a1, K3, f1⟩
     ·refine .inl ⟨a1, by omega, rs', mo', out', b1, b2, b3, ⟨K1 + K3, fun k hk n hn2 => ?_⟩, ⟨K2 + K4, fun k hk => ?_⟩⟩
      ·obtain ⟨m, rfl⟩ : ∃ m, n = m + 1 := ⟨n - 1, by omega⟩
       rw [hstep k (by omega), f1 k (by omega) m (by omega)]
      ·show (qea.f k rs mo (bs b)).bind _ = _
       rw [e2 k (by omega)]; exact f2 k (by omega)
     ·refine .inr ⟨fun h => a1 ⟨h.1, by omega⟩, K1 + K3, fun k hk n hn2 => ?_⟩
      obtain ⟨m, rfl⟩ : ∃ m, n = m + 1 := ⟨n - 1, by omega⟩
      rw [hstep k (by omega), f1 k (by omega) m (by omega)]
theorem qpi (s : ByteArray) : ∃ (rs : List qac) (mo : Int) (out : List ByteArray) (ok : Bool), out.length ≤ 50 ∧ qaH rs = true ∧ qex mo = true ∧ (ok = false → rs = [] ∧ mo = 0 ∧ out = []) ∧ Ev (fun k => qbd.f k s) (out, rs, mo, ok) ∧ Ev (fun k => qcG.f k s) (rs, mo, out, ok) := by
 by_cases hz : s.size ≤ 3000
 ·have hl : s.data.toList.length = s.size := Array.length_toList
  obtain ⟨K0, hsp⟩ := qjV 10 s (by omega); have hsp : ∀ k, K0 ≤ k → qbk.f k s 10 = some (bas (spl 10 s.data.toList)) := hsp; have hb : (bas (spl 10 s.data.toList)).length ≤ 1048577 := (qnS (c := 10) (by omega)).1
  have hbl : (bas (spl 10 s.data.toList)).length = (spl 10 s.data.toList).length := by unfold bas; rw [List.length_map]
  obtain ⟨KF, hF⟩ := qmS; have hF : ∀ k, KF ≤ k → qdP.f k = some (desk0, 30) := hF; have hlast : (bas (spl 10 s.data.toList)).getLast? = (spl 10 s.data.toList).getLast?.map bs := List.getLast?_map
  rcases run_l0 s.data.toList.length s.data.toList (Nat.le_refl _) (by omega) desk0 30 [] (by decide) (by decide) (by simp) with ⟨a1, a2, rs', mo', out', b1, b2, b3, ⟨K3, f1⟩, ⟨K4, f2⟩⟩ | ⟨a1, K3, f1⟩
  ·rw [List.length_nil, Nat.zero_add] at a2
   refine ⟨rs', mo', out', true, b3, b1, b2, fun h => (by cases h), ⟨K3 + s.size + 1, fun k hk => ?_⟩, ⟨K0 + KF + K4, fun k hk => ?_⟩⟩
   ·show qbd.f k s = _
    unfold qbd.f; rw [if_pos hz]; have := f1 k (by omega) k (by omega); rw [bs_of] at this; exact this
   ·have f2 : qcG.l0 k (bas (spl 10 s.data.toList).dropLast) desk0 30 [] = _ := f2 k (by omega)
    have hd : bas (spl 10 s.data.toList).dropLast = (bas (spl 10 s.data.toList)).take ((bas (spl 10 s.data.toList)).length - 1) := by
     rw [← List.dropLast_eq_take]; unfold bas; rw [List.map_dropLast]
    rw [hd] at f2
    show qcG.f k s = _
    unfold qcG.f; rw [if_pos hz, hsp k (by omega), qaz, if_pos hb, hlast, a1]
    show (if (bs []).toList = [] then _ else _) = _
    rw [if_pos (qhs []), if_pos (by omega), hF k (by omega), qaz]; exact f2
  ·rw [List.length_nil, Nat.zero_add] at a1
   refine ⟨[], 0, [], false, by simp, rfl, by decide, fun _ => ⟨rfl, rfl, rfl⟩, ⟨K3 + s.size + 1, fun k hk => ?_⟩, ⟨K0, fun k hk => ?_⟩⟩
   ·show qbd.f k s = _
    unfold qbd.f; rw [if_pos hz]; have := f1 k (by omega) k (by omega); rw [bs_of] at this; exact this
   ·show qcG.f k s = _
    unfold qcG.f; rw [if_pos hz, hsp k hk, qaz, if_pos hb, hlast]
    cases hg : (spl 10 s.data.toList).getLast? with
    | none => exact absurd (List.getLast?_eq_none_iff.1 hg) (qjw 10 _)
    | some last =>
     show (if (bs last).toList = [] then (if _ then _ else _) else _) = _
     rw [qhs]; by_cases h : last = []
     ·rw [if_pos h, if_neg (fun h2 => a1 ⟨by rw [hg, h], by omega⟩)]
     ·rw [if_neg h]
 ·refine ⟨[], 0, [], false, by simp, rfl, by decide, fun _ => ⟨rfl, rfl, rfl⟩, ⟨0, fun k hk => ?_⟩, ⟨0, fun k hk => ?_⟩⟩
  ·show qbd.f k s = _
   unfold qbd.f; rw [if_neg hz]
  ·show qcG.f k s = _
   unfold qcG.f; rw [if_neg hz]
theorem qke (b : Bool) (l : List ByteArray) (hm : l.length ≤ 1000) : ∀ (d i : Nat) (x : List Int), i + d = l.length → x.length ≤ i → ∃ r : List Int, r.length ≤ 1000 ∧ Ev (fun k => qaS.l0 k x l (l.length : Int) (i : Int)) (r, true) ∧ Ev (fun k => qa3.l0 k b x l (l.length : Int) (i : Int)) (r, b)
 | 0, i, x, h, hx => ⟨x, by omega, Ev.mk' 0 fun k _ => by simp only [qaS.l0]; rw [if_neg (by omega)], Ev.mk' 0 fun k _ => by simp only [qa3.l0]; rw [if_neg (by omega)]⟩
 | d + 1, i, x, h, hx => by
  have hw : wrap64 ((i : Int) + 1) = ((i + 1 : Nat) : Int) := by rw [qa8 (by omega) (by omega)]; omega
  obtain ⟨r, g1, ⟨K1, h1⟩, ⟨K2, h2⟩⟩ := qke b l hm d (i + 1) (x ++ [((i + 1 : Nat) : Int)]) (by omega) (by simp; omega); obtain ⟨r2, g2, ⟨K3, h3⟩, ⟨K4, h4⟩⟩ := qke b l hm d (i + 1) x (by omega) (by omega); by_cases c1 : (qeJ ByteArray.empty l (i : Int)).toList = ([110, 111] : List UInt8)
  ·refine ⟨r, g1, Ev.mk' K1 fun k hk => ?_, Ev.mk' K2 fun k hk => ?_⟩
   ·simp only [qaS.l0]
    rw [if_pos (by omega), if_pos (by omega), if_pos (by omega), if_pos c1, if_pos (by omega), hw]; exact h1 k hk
   ·simp only [qa3.l0]
    rw [if_pos (by omega), if_pos (by omega), if_pos (by omega), if_pos c1, if_pos (by omega), hw]; exact h2 k hk
  ·by_cases c2 : (qeJ ByteArray.empty l (i : Int)).toList = ([119, 104, 97, 116] : List UInt8)
   ·refine ⟨r, g1, Ev.mk' K1 fun k hk => ?_, Ev.mk' K2 fun k hk => ?_⟩
    ·simp only [qaS.l0]
     rw [if_pos (by omega), if_pos (by omega), if_pos (by omega), if_neg c1, if_pos c2, if_pos (by omega), hw]; exact h1 k hk
    ·simp only [qa3.l0]
     rw [if_pos (by omega), if_pos (by omega), if_pos (by omega), if_neg c1, if_pos c2, if_pos (by omega), hw]; exact h2 k hk
   ·refine ⟨r2, g2, Ev.mk' K3 fun k hk => ?_, Ev.mk' K4 fun k hk => ?_⟩
    ·simp only [qaS.l0]
     rw [if_pos (by omega), if_pos (by omega), if_pos (by omega), if_neg c1, if_neg c2, hw]; exact h3 k hk
    ·simp only [qa3.l0]
     rw [if_pos (by omega), if_pos (by omega), if_pos (by omega), if_neg c1, if_neg c2, hw]; exact h4 k hk
theorem qn2 (s : ByteArray) : ∃ (r : List Int) (ok : Bool), r.length ≤ 1000 ∧ Ev (fun k => qaS.f k s) (r, ok) ∧ Ev (fun k => qa3.f k s) (r, ok) := by
 obtain ⟨rs, mo, out, ok, ho, -, -, hf, ⟨K1, h1⟩, ⟨K2, h2⟩⟩ := qpi s; obtain ⟨r, g, ⟨K3, h3⟩, ⟨K4, h4⟩⟩ := qke ok out (by omega) out.length 0 [] (by omega) (by simp); have h3 : ∀ k, K3 ≤ k → qaS.l0 k [] out (out.length : Int) 0 = some (r, true) := h3; have h4 : ∀ k, K4 ≤ k → qa3.l0 k ok [] out (out.length : Int) 0 = some (r, ok) := h4
 cases ok with
 | true =>
  refine ⟨r, true, g, ⟨K1 + K3, fun k hk => ?_⟩, ⟨K2 + K4, fun k hk => ?_⟩⟩
  ·have h1 := h1 k (by omega)
   dsimp only at h1
   show qaS.f k s = _
   unfold qaS.f; rw [h1, qaz, if_pos rfl]; exact h3 k (by omega)
  ·have h2 := h2 k (by omega)
   dsimp only at h2
   show qa3.f k s = _
   unfold qa3.f; rw [h2, qaz]; exact h4 k (by omega)
 | false =>
  obtain ⟨-, -, e⟩ := hf rfl; subst e; refine ⟨[], false, by simp, ⟨K1, fun k hk => ?_⟩, Ev.mk' K2 fun k hk => ?_⟩
  ·have h1 := h1 k (by omega)
   dsimp only at h1
   show qaS.f k s = _
   unfold qaS.f; rw [h1, qaz, if_neg (show ¬ (false = true) by decide)]
  ·have h2 := h2 (k + 1) (by omega)
   dsimp only at h2; unfold qa3.f; rw [h2, qaz]; rfl
theorem FnExactFailedLines : qca.Pure := by
 intro a0 _; by_cases hs : (a0.size : Int) > 1048576
 ·refine ⟨0, ?_⟩
  unfold qca.f; rw [if_pos hs]
 ·obtain ⟨out, ok, ho, ⟨K1, h1⟩, ⟨K2, h2⟩⟩ := qn2 a0
  obtain ⟨K3, h3⟩ := qrU out (by omega); obtain ⟨K4, h4⟩ := qo6 out 1 (by omega) (by omega) (by omega); obtain ⟨K5, h5⟩ := qoH out.length 1 (by omega) (by omega) (by omega); refine ⟨K1 + K2 + K3 + K4 + K5, ?_⟩; have i1 := h1 (K1 + K2 + K3 + K4 + K5) (by omega); have i2 := h2 (K1 + K2 + K3 + K4 + K5) (by omega); have h3 := h3 (K1 + K2 + K3 + K4 + K5) (by omega); have h4 := h4 (K1 + K2 + K3 + K4 + K5) (by omega); have h5 := h5 (K1 + K2 + K3 + K4 + K5) (by omega); dsimp only at i1 i2 h3 h4 h5
  generalize K1 + K2 + K3 + K4 + K5 = k at i1 i2 h3 h4 h5 ⊢
  unfold qca.f; rw [if_neg hs, i2, qaz, i1, qaz, h3, qaz, if_pos rfl, bne_self_eq_false, if_neg (by decide), h4, qaz, h5, qaz, if_neg (by omega), if_pos rfl, qaz, h3, qaz, if_pos rfl, bne_self_eq_false, if_neg (by decide), qaz, if_neg (by omega), if_pos rfl]
end Go.Proofs.YtjeoabbnalamcaaGreatDoor.P
