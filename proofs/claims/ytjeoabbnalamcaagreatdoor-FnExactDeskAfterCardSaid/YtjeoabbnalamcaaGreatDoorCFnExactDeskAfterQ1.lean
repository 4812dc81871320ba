/- The plain laws on what the functions answer; the last one: the law FnExactDeskAfter answers true for all arguments. Proved in this text: its theorems. Conditions: as each theorem states them. -/
import Derived.Test.YtjeoabbnalamcaaGreatDoorCFnExactDeskAfterP
import Derived.Test.YtjeoabbnalamcaaGreatDoorCFnExactDeskAfterF0
import Derived.Test.YtjeoabbnalamcaaGreatDoorCFnExactDeskAfterF1
import Derived.Test.YtjeoabbnalamcaaGreatDoorCFnExactDeskAfterF2
import Derived.Test.YtjeoabbnalamcaaGreatDoorCFnExactDeskAfterF3
import Derived.Test.YtjeoabbnalamcaaGreatDoorCFnExactDeskAfterF4
import Derived.Test.YtjeoabbnalamcaaGreatDoorCFnExactDeskAfterF5
import Derived.Test.YtjeoabbnalamcaaGreatDoorCFnExactDeskAfterQ0
namespace Go.Proofs.YtjeoabbnalamcaaGreatDoor.P
open Go.RowKit Go.Proofs.YtjeoabbnalamcaaGreatDoorW.qaZ Go.Proofs.YtjeoabbnalamcaaGreatDoorW.PrintLast
set_option linter.unusedVariables false
set_option linter.unusedSimpArgs false
def desk0 : List qac := [⟨2, 0⟩, ⟨3, 0⟩]
def Runs (l : List UInt8) (rs : List qac) (mo : Int) (out : List ByteArray) : Prop :=
 ((spl 10 l).getLast? = some [] ∧ out.length + (spl 10 l).length ≤ 51 ∧ ∃ (rs' : List qac) (mo' : Int) (out' : List ByteArray), qaJ rs' = true ∧ qeI mo' = true ∧ out'.length ≤ 50 ∧ (∃ K, ∀ k, K ≤ k → ∀ n, l.length < n → qbh.l0 k n rs mo (bs l) out = some (out', rs', mo', true)) ∧ Ev (fun k => qcy.l0 k (bas (spl 10 l).dropLast) rs mo out) (rs', mo', out', true)) ∨
 (¬ ((spl 10 l).getLast? = some [] ∧ out.length + (spl 10 l).length ≤ 51) ∧ ∃ K, ∀ k, K ≤ k → ∀ n, l.length < n → qbh.l0 k n rs mo (bs l) out = some ([], [], 0, false))
theorem run_l0 : ∀ (d : Nat) (l : List UInt8), l.length ≤ d → l.length ≤ 3000 → ∀ (rs : List qac) (mo : Int) (out : List ByteArray), qaJ rs = true → qeI mo = true → out.length ≤ 50 → Runs l rs mo out := by
 intro d
 induction d with
 | zero =>
  intro l h1 h2 rs mo out hg hm ho; obtain rfl := List.length_eq_zero_iff.1 (Nat.le_zero.1 h1); refine .inl ⟨rfl, by show out.length + 1 ≤ 51; omega, rs, mo, out, hg, hm, ho, ⟨0, fun k _ n hn => ?_⟩, ⟨0, fun k _ => rfl⟩⟩
  obtain ⟨m, rfl⟩ : ∃ m, n = m + 1 := ⟨n - 1, by simp at hn; omega⟩
  unfold qbh.l0; rw [if_pos (qhL [])]
 | succ d ih =>
  intro l h1 h2 rs mo out hg hm ho
  cases l with
  | nil =>
   refine .inl ⟨rfl, by show out.length + 1 ≤ 51; omega, rs, mo, out, hg, hm, ho, ⟨0, fun k _ n hn => ?_⟩, ⟨0, fun k _ => rfl⟩⟩
   obtain ⟨m, rfl⟩ : ∃ m, n = m + 1 := ⟨n - 1, by simp at hn; omega⟩
   unfold qbh.l0; rw [if_pos (qhL [])]
  | cons x0 l0 =>
   have hne : ¬ (bs (x0 :: l0)).toList = [] := by rw [qhL]; simp
   generalize hL : x0 :: l0 = l at h1 h2 hne ⊢
   rcases qh7 10 l with hn | ⟨b, r, rfl, hb⟩
   ·refine .inr ⟨fun h => ?_, 0, fun k _ n hn2 => ?_⟩
    ·rw [qf9 10 l hn, ← hL] at h
     simp at h
    ·obtain ⟨m, rfl⟩ : ∃ m, n = m + 1 := ⟨n - 1, by omega⟩
     unfold qbh.l0; rw [if_neg hne, qgJ, cut_miss 10 l hn, if_neg (show ¬ (false = true) by decide)]
   ·have hlen : (b ++ 10 :: r).length = b.length + (r.length + 1) := by rw [List.length_append, List.length_cons]
    have hs := qhZ 10 b r hb; have hls : 1 ≤ (spl 10 r).length := List.length_pos_iff.2 (qj3 10 r)
    have hlast : (b :: spl 10 r).getLast? = (spl 10 r).getLast? := by
     cases h : spl 10 r with
     | nil => exact absurd h (qj3 10 r)
     | cons a t => rfl
    have hdrop : (b :: spl 10 r).dropLast = b :: (spl 10 r).dropLast := by
     cases h : spl 10 r with
     | nil => exact absurd h (qj3 10 r)
     | cons a t => rfl
    unfold Runs; rw [hs, hlast, hdrop, List.length_cons]; by_cases h50 : out.length = 50
    ·refine .inr ⟨fun h => by omega, 0, fun k _ n hn2 => ?_⟩
     obtain ⟨m, rfl⟩ : ∃ m, n = m + 1 := ⟨n - 1, by omega⟩
     unfold qbh.l0; rw [if_neg hne, qgJ, qmU 10 b r hb, if_pos rfl, if_pos h50]
    ·obtain ⟨⟨rs1, mo1, txt⟩, g1, g2, ⟨K1, e1⟩, ⟨K2, e2⟩⟩ := qtG hg hm (bs b) (by rw [qdb]; omega)
     have e1 : ∀ k, K1 ≤ k → qfz.f k rs mo (bs b) = some (rs1, mo1, txt) := e1; have e2 : ∀ k, K2 ≤ k → qen.f k rs mo (bs b) = some (rs1, mo1, txt) := e2
     have hstep : ∀ k, K1 ≤ k → ∀ n, qbh.l0 k (n + 1) rs mo (bs (b ++ 10 :: r)) out = qbh.l0 k n rs1 mo1 (bs r) (out ++ [txt]) := fun k hk n => by
      show (if _ then _ else _) = _
      rw [if_neg hne, qgJ, qmU 10 b r hb, if_pos rfl, if_neg h50]
      show (qfz.f k rs mo (bs b)).bind _ = _
      rw [e1 k hk]; rfl
     have hol : (out ++ [txt]).length = out.length + 1 := by rw [List.length_append]; rfl
     rcases ih r (by omega) (by omega) rs1 mo1 (out ++ [txt]) g1 g2 (by omega) with ⟨a1, a2, rs', mo', out', b1, b2, b3, ⟨K3, f1⟩, ⟨K4, f2⟩⟩ | ⟨a1, K3, f1⟩
     ·refine .inl ⟨a1, by omega, rs', mo', out', b1, b2, b3, ⟨K1 + K3, fun k hk n hn2 => ?_⟩, ⟨K2 + K4, fun k hk => ?_⟩⟩
      ·obtain ⟨m, rfl⟩ : ∃ m, n = m + 1 := ⟨n - 1, by omega⟩
       rw [hstep k (by omega), f1 k (by omega) m (by omega)]
      ·show (qen.f k rs mo (bs b)).bind _ = _
       rw [e2 k (by omega)]; exact f2 k (by omega)
     ·refine .inr ⟨fun h => a1 ⟨h.1, by omega⟩, K1 + K3, fun k hk n hn2 => ?_⟩
      obtain ⟨m, rfl⟩ : ∃ m, n = m + 1 := ⟨n - 1, by omega⟩
      rw [hstep k (by omega), f1 k (by omega) m (by omega)]
theorem qp1 (s : ByteArray) : ∃ (rs : List qac) (mo : Int) (out : List ByteArray) (ok : Bool), out.length ≤ 50 ∧ qaJ rs = true ∧ qeI mo = true ∧ (ok = false → rs = [] ∧ mo = 0 ∧ out = []) ∧ Ev (fun k => qbh.f k s) (out, rs, mo, ok) ∧ Ev (fun k => qcy.f k s) (rs, mo, out, ok) := by
 by_cases hz : s.size ≤ 3000
 ·have hl : s.data.toList.length = s.size := Array.length_toList
  obtain ⟨K0, hsp⟩ := qkv 10 s (by omega); have hsp : ∀ k, K0 ≤ k → qbj.f k s 10 = some (bas (spl 10 s.data.toList)) := hsp; have hb : (bas (spl 10 s.data.toList)).length ≤ 1048577 := (qoB (c := 10) (by omega)).1
  have hbl : (bas (spl 10 s.data.toList)).length = (spl 10 s.data.toList).length := by unfold bas; rw [List.length_map]
  obtain ⟨KF, hF⟩ := qnu; have hF : ∀ k, KF ≤ k → qdX.f k = some (desk0, 30) := hF; have hlast : (bas (spl 10 s.data.toList)).getLast? = (spl 10 s.data.toList).getLast?.map bs := List.getLast?_map
  rcases run_l0 s.data.toList.length s.data.toList (Nat.le_refl _) (by omega) desk0 30 [] (by decide) (by decide) (by simp) with ⟨a1, a2, rs', mo', out', b1, b2, b3, ⟨K3, f1⟩, ⟨K4, f2⟩⟩ | ⟨a1, K3, f1⟩
  ·rw [List.length_nil, Nat.zero_add] at a2
   refine ⟨rs', mo', out', true, b3, b1, b2, fun h => (by cases h), ⟨K3 + s.size + 1, fun k hk => ?_⟩, ⟨K0 + KF + K4, fun k hk => ?_⟩⟩
   ·show qbh.f k s = _
    unfold qbh.f; rw [if_pos hz]; have := f1 k (by omega) k (by omega); rw [bs_of] at this; exact this
   ·have f2 : qcy.l0 k (bas (spl 10 s.data.toList).dropLast) desk0 30 [] = _ := f2 k (by omega)
    have hd : bas (spl 10 s.data.toList).dropLast = (bas (spl 10 s.data.toList)).take ((bas (spl 10 s.data.toList)).length - 1) := by
     rw [← List.dropLast_eq_take]; unfold bas; rw [List.map_dropLast]
    rw [hd] at f2
    show qcy.f k s = _
    unfold qcy.f; rw [if_pos hz, hsp k (by omega), qaC, if_pos hb, hlast, a1]
    show (if (bs []).toList = [] then _ else _) = _
    rw [if_pos (qhL []), if_pos (by omega), hF k (by omega), qaC]; exact f2
  ·rw [List.length_nil, Nat.zero_add] at a1
   refine ⟨[], 0, [], false, by simp, rfl, by decide, fun _ => ⟨rfl, rfl, rfl⟩, ⟨K3 + s.size + 1, fun k hk => ?_⟩, ⟨K0, fun k hk => ?_⟩⟩
   ·show qbh.f k s = _
    unfold qbh.f; rw [if_pos hz]; have := f1 k (by omega) k (by omega); rw [bs_of] at this; exact this
   ·show qcy.f k s = _
    unfold qcy.f; rw [if_pos hz, hsp k hk, qaC, if_pos hb, hlast]
    cases hg : (spl 10 s.data.toList).getLast? with
    | none => exact absurd (List.getLast?_eq_none_iff.1 hg) (qj3 10 _)
    | some last =>
     show (if (bs last).toList = [] then (if _ then _ else _) else _) = _
     rw [qhL]; by_cases h : last = []
     ·rw [if_pos h, if_neg (fun h2 => a1 ⟨by rw [hg, h], by omega⟩)]
     ·rw [if_neg h]
 ·refine ⟨[], 0, [], false, by simp, rfl, by decide, fun _ => ⟨rfl, rfl, rfl⟩, ⟨0, fun k hk => ?_⟩, ⟨0, fun k hk => ?_⟩⟩
  ·show qbh.f k s = _
   unfold qbh.f; rw [if_neg hz]
  ·show qcy.f k s = _
   unfold qcy.f; rw [if_neg hz]
theorem qq2 (s : ByteArray) : ∃ (rs : List qac) (mo : Int) (ok : Bool), rs.length ≤ 12 ∧ Ev (fun k => qcZ.f k s) (rs, mo, ok) ∧ Ev (fun k => qdW.f k s) (rs, mo, ok) := by
 obtain ⟨rs, mo, out, ok, ho, hg, -, hf, ⟨K1, h1⟩, ⟨K2, h2⟩⟩ := qp1 s; have hl := (qb5 hg).1; refine ⟨rs, mo, ok, hl, ⟨K1, fun k hk => ?_⟩, ⟨K2, fun k hk => ?_⟩⟩
 ·have h1 := h1 k hk
  dsimp only at h1
  show qcZ.f k s = _
  unfold qcZ.f; rw [h1]; rfl
 ·have h2 := h2 k hk
  dsimp only at h2
  show qdW.f k s = _
  unfold qdW.f; rw [h2, qaC]
  cases ok with
  | true =>
   unfold qdx.f; rw [if_pos rfl, qaC, if_pos (by simp; omega), qaC, List.nil_append]
  | false =>
   obtain ⟨e1, e2, -⟩ := hf rfl; rw [e1, e2, if_neg (show ¬ (false = true) by decide)]
theorem FnExactDeskAfter : qcr.Pure := by
 intro a0 _; by_cases hs : (a0.size : Int) > 1048576
 ·refine ⟨0, ?_⟩
  unfold qcr.f; rw [if_pos hs]
 ·obtain ⟨rs, mo, ok, ho, ⟨K1, h1⟩, ⟨K2, h2⟩⟩ := qq2 a0
  obtain ⟨K3, h3⟩ := qre rs (by omega); obtain ⟨K4, h4⟩ := qoi rs 1 (by omega) (by omega) (by omega); obtain ⟨K5, h5⟩ := qn6 rs.length 1 (by omega) (by omega) (by omega); refine ⟨K1 + K2 + K3 + K4 + K5, ?_⟩; have i1 := h1 (K1 + K2 + K3 + K4 + K5) (by omega); have i2 := h2 (K1 + K2 + K3 + K4 + K5) (by omega); have h3 := h3 (K1 + K2 + K3 + K4 + K5) (by omega); have h4 := h4 (K1 + K2 + K3 + K4 + K5) (by omega); have h5 := h5 (K1 + K2 + K3 + K4 + K5) (by omega); dsimp only at i1 i2 h3 h4 h5
  generalize K1 + K2 + K3 + K4 + K5 = k at i1 i2 h3 h4 h5 ⊢
  have e1 : qel.f k rs mo rs mo = some true := by unfold qel.f; rw [h3, qaC, if_pos rfl, if_pos rfl]
  have e2 : qeA.f k rs mo 1 = some (1 + 2 * (rs.length : Int), qgs 1 rs.length) := by unfold qeA.f; rw [h4, qaC]
  have e3 : qdC.f k (qgs 1 rs.length) mo 1 = some (1 + 2 * (rs.length : Int)) := by unfold qdC.f; rw [h5, qaC, if_neg (by omega)]
  unfold qcr.f; rw [if_neg hs, i2, qaC, i1, qaC, e1, qaC, if_pos rfl, bne_self_eq_false, if_neg (by decide), e2, qaC, e3, qaC, if_neg (by omega), if_pos rfl, qaC, e1, qaC, if_pos rfl, bne_self_eq_false, if_neg (by decide), qaC, if_neg (by omega), if_pos rfl]
end Go.Proofs.YtjeoabbnalamcaaGreatDoor.P
